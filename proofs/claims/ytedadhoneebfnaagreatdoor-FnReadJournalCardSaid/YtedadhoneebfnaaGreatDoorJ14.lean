/- Joined texts: Db, Lw, Rd, Dp, DrDig, Ol, Ox. -/
import Derived.Test.YtedadhoneebfnaaGreatDoorJ7
import Derived.Test.YtedadhoneebfnaaGreatDoorJ8
import Derived.StillTailTactics
import Derived.Test.YtedadhoneebfnaaGreatDoorJ13
import Derived.Test.YtedadhoneebfnaaGreatDoorJ1
import Derived.Test.YtedadhoneebfnaaGreatDoorLib
import Derived.Test.YtedadhoneebfnaaGreatDoorRows
import Derived.Handy
import Derived.Deep.QuietTactic
import Derived.BigQuiet
import Derived.Test.YtedadhoneebfnaaGreatDoorPs
import Derived.Test.YtedadhoneebfnaaGreatDoorJ10
import Derived.Test.YtedadhoneebfnaaGreatDoorJ2
import Derived.ProofKit
import Derived.OpenShut
import Derived.ShutString
import Derived.ChangeOld
import Derived.SliceStrings
import Derived.Deep.Slices
import Derived.Deep.Fields
import Derived.ChangeSame
import Derived.Test.YtedadhoneebfnaaGreatDoorJ5
import Derived.Lib.SmallJoins
set_option linter.unusedSimpArgs false
set_option linter.unusedVariables false
/- The laws' helpers on deeds. -/
namespace Go.Proofs.YtedadhoneebfnaaGreatDoor
open Go.RowKit

end Go.Proofs.YtedadhoneebfnaaGreatDoor

/- What the laws on exchanges keep in memory: results in boxes, and marks that hit nothing else. No program in sight. -/
namespace Go.Proofs.YtedadhoneebfnaaGreatDoor
open Go.RowKit

/-- An exchange made behind world W0, in a box of its own. -/
structure ExRes (W0 W : World) (b : Nat) (O E M : Int) (vq vr : Value) (ps : List ByteArray) (cs : List Cl) : Prop where
 bel : Below W0.heap.size W0 W
 box : Blk W b #[.int .i64 O, .int .i64 E, .int .i64 M, vq, vr] 33
 own : ExOwn W W0.heap.size vq vr ps cs
 ap1 : vq.ownBlock = none ∨ vq.ownBlock ≠ some b
 ap2 : vr.ownBlock = none ∨ vr.ownBlock ≠ some b
 big : W0.heap.size ≤ b
section
variable {W0 W W' : World} {b B : Nat} {O E M : Int} {vq vr : Value} {ps : List ByteArray} {cs : List Cl}
theorem ExRes.mkA (hb : Below W0.heap.size W0 W) (ho : ExOwn W B vq vr ps cs) (hB : W0.heap.size ≤ B) : ExRes W0 (W.alloc (.cells #[.int .i64 O, .int .i64 E, .int .i64 M, vq, vr] 33)) W.heap.size O E M vq vr ps cs :=
 ⟨hb.alloc hb.size _, Blk.new rfl, (ho.lower hB).below (by (exact grownA)), own_new8 ho.plan, own_new8 ho.calls, hb.size⟩
theorem ExRes.mkB {z0 z1 z2 z3 z4 : Value} (hb : Below W0.heap.size W0 W) (hX : Blk W b #[z0, z1, z2, z3, z4] 33) (hbig : W0.heap.size ≤ b) (ho : ExOwn W B vq vr ps cs) (hB : b < B) :
  ExRes W0 (((((W.setCell ⟨b, 0, none⟩ (.int .i64 O)).setCell ⟨b, 1, none⟩ (.int .i64 E)).setCell ⟨b, 2, none⟩ (.int .i64 M)).setCell ⟨b, 3, none⟩ vq).setCell ⟨b, 4, none⟩ vr) b O E M vq vr ps cs :=
 ⟨five_below _ _ _ _ _ hb hbig, five_set hX, (ho.result _ _ _ _ _ hB).lower (by omega), far_of ho.plan hB, far_of ho.calls hB, hbig⟩
end
/-- All of it lies below, above a line. -/
def Lo (v : Value) (B : Nat) : Prop := ∀ k, v.ownBlock = some k → k < B
def Hi (v : Value) (B : Nat) : Prop := ∀ k, v.ownBlock = some k → B ≤ k
theorem Lo.mono {v : Value} {B B' : Nat} (h : Lo v B) (hb : B ≤ B') : Lo v B' := fun k hk => Nat.lt_of_lt_of_le (h k hk) hb
theorem Hi.mono {v : Value} {B B' : Nat} (h : Hi v B) (hb : B' ≤ B) : Hi v B' := fun k hk => Nat.le_trans hb (h k hk)
theorem Lo.of {w : World} {base n : Nat} {E : TypeId} {size : Nat} {v : Value} {xs : List Value} (h : w.ownsRow base E size v n xs) : Lo v w.heap.size := own_lt h
theorem Hi.of {w : World} {base n : Nat} {E : TypeId} {size : Nat} {v : Value} {xs : List Value} (h : w.ownsRow base E size v n xs) : Hi v base := own_ge h
theorem Lo.apart {v u : Value} {B : Nat} (h : Lo v B) (h' : Hi u B) : v.ownBlock = none ∨ v.ownBlock ≠ u.ownBlock := by
 cases hv : v.ownBlock with
 | none => exact .inl rfl
 | some k => exact .inr (fun e => by have h1 := h k hv; have h2 := h' k e.symm; omega)
theorem Hi.apart {v u : Value} {B : Nat} (h : Hi v B) (h' : Lo u B) : v.ownBlock = none ∨ v.ownBlock ≠ u.ownBlock := by
 cases hv : v.ownBlock with
 | none => exact .inl rfl
 | some k => exact .inr (fun e => by have h1 := h k hv; have h2 := h' k e.symm; omega)
theorem Hi.ne {v : Value} {B b : Nat} (h : Hi v B) (hb : b < B) : some b ≠ v.ownBlock := fun e => by have := h b e.symm; omega
theorem Lo.ne {v : Value} {B b : Nat} (h : Lo v B) (hb : B ≤ b) : some b ≠ v.ownBlock := fun e => by have := h b e.symm; omega
theorem ap_ne {v : Value} {b : Nat} (h : v.ownBlock = none ∨ v.ownBlock ≠ some b) : some b ≠ v.ownBlock := fun e => by
 rcases h with h | h
 ·
  rw [h] at e; cases e
 ·
  exact h e.symm
section
variable {w w' : World} {r1 r2 : Option Nat}
theorem Blk.gb2 {b : Nat} {cs : Array Value} {T : TypeId} (hg : Gb2 w w' r1 r2) (h1 : some b ≠ r1) (h2 : some b ≠ r2) (h : Blk w b cs T) : Blk w' b cs T := by
 obtain ⟨wm, q1, q2⟩ := hg
 exact Blk.gbr q2 h2 (Blk.gbr q1 h1 h)
theorem Below.gb2 {w0 : World} {base : Nat} {vp vc : Value} (hb : Below base w0 w) (hg : Gb2 w w' vp.ownBlock vc.ownBlock) (hs : base ≤ w.heap.size) (h1 : Hi vp base) (h2 : Hi vc base) : Below base w0 w' :=
 hg.below hs h1 h2 hb
end
/-- What a deed leaves, as one value. -/
noncomputable def doR (O E M : Int) (ps : List ByteArray) (cs : List Cl) (k l : Int) (s : ByteArray) : (Int × Int × Int) × (List ByteArray × List Cl) × Bool :=
 if exB O E M ps cs = true then (match doL E M ps cs k l s with
  | some y => ((O, E, M), y, true)
  | none => ((O, E, M), (ps, cs), false)) else ((0, 0, 0), ([], []), false)
/-- What is handed back: an exchange and something beside it. -/
def ExR (O E M : Int) (ps : List ByteArray) (cs : List Cl) (x : Value) (w : World) (e : Ending) (w' : World) : Prop :=
 ∃ vp vc, e = .returned (.tuple #[.agg #[.int .i64 O, .int .i64 E, .int .i64 M, vp, vc], x]) ∧ ExOwn w' w.heap.size vp vc ps cs ∧ Below w.heap.size w w'
theorem doXQ_res {O E M : Int} {ps : List ByteArray} {cs : List Cl} {k l : Int} {s : ByteArray} {w : World} {e : Ending} {w' : World} (h : doXQ O E M ps cs k l s w e w') :
  ExR (doR O E M ps cs k l s).1.1 (doR O E M ps cs k l s).1.2.1 (doR O E M ps cs k l s).1.2.2 (doR O E M ps cs k l s).2.1.1 (doR O E M ps cs k l s).2.1.2 (.bool (doR O E M ps cs k l s).2.2) w e w' := by
 unfold doXQ at h
 unfold doR
 split at h
 ·
  rename_i hx
  rw [if_pos hx]
  cases hr : doL E M ps cs k l s with
  | none => rw [hr] at h; exact h
  | some y => rw [hr] at h; exact h
 ·
  rename_i hx
  rw [if_neg hx]
  exact h
theorem RunPost.res {r : (Int × Int × Int) × (List ByteArray × List Cl) × Nat} {w : World} {e : Ending} {w' : World} (h : RunPost r w e w') : ExR r.1.1 r.1.2.1 r.1.2.2 r.2.1.1 r.2.1.2 (.int .i64 r.2.2) w e w' := h
theorem ok_small {O E M : Int} {ps : List ByteArray} {cs : List Cl} (h : ExOk O E M ps cs) : ps.length ≤ 13 ∧ cs.length ≤ 13 := by
 have h1 := h.lines.2
 have h2 := h.calls.count (lines_le h.calls.sh)
 exact ⟨by omega, by omega⟩
end Go.Proofs.YtedadhoneebfnaaGreatDoor

/- The reader of a code from which inputs are drawn: l20Open, pick, odd. Of what is drawn only its range is said. -/
namespace Go.Proofs.YtedadhoneebfnaaGreatDoor
open Go.RowKit

/-- The bytes of a code, where they lie: nil or empty, or below block B. -/
def CodeAt (w : World) (B : Nat) (a : Option Addr) (len : Nat) (zs : List Int) : Prop :=
 len = 0 ∨ ∃ b off, a = some ⟨b, off, none⟩ ∧ b < B ∧ (∀ i, i < len → w.cell? ⟨b, off + i, none⟩ = some (.int .u8 (zs.getD i 0))) ∧ ∀ i, 0 ≤ zs.getD i 0 ∧ zs.getD i 0 ≤ 255

/-- Block rb is a reader that has been asked p times. -/
def Rdr (w : World) (rb p : Nat) : Prop :=
 ∃ a len cap zs, Blk w rb #[.slice a len cap, .int .i64 p] 118 ∧ len ≤ 2000 ∧ CodeAt w rb a len zs

theorem CodeAt.gb {w w' : World} {B : Nat} {a : Option Addr} {len : Nat} {zs : List Int} {r : Nat} (hg : w.grownBy w' (some r)) (hB : B ≤ r) (hBw : B ≤ w.heap.size) (h : CodeAt w B a len zs) : CodeAt w' B a len zs := by
 rcases h with h | ⟨b, off, h1, h2, h3, h4⟩
 ·
  exact .inl h
 ·
  exact .inr ⟨b, off, h1, h2, fun i hi => (World.cell?_of_block (a := ⟨b, off + i, none⟩) (hg.block b (by omega) (by simp; omega))).trans (h3 i hi), h4⟩
theorem Rdr.lt {w : World} {rb p : Nat} (h : Rdr w rb p) : rb < w.heap.size := by obtain ⟨a, len, cap, zs, hb, _⟩ := h; exact hb.lt
/-- Where only another block has been written the reader stands as it was. -/
theorem Rdr.gb {w w' : World} {rb p g : Nat} (hg : w.grownBy w' (some g)) (hne : rb < g) (h : Rdr w rb p) : Rdr w' rb p := by
 have hlt := h.lt
 obtain ⟨a, len, cap, zs, hb, hl, hc⟩ := h
 exact ⟨a, len, cap, zs, Blk.gb hg (by omega) hb, hl, hc.gb hg (by omega) (by omega)⟩
theorem Rdr.below {w w' : World} {rb p B : Nat} (hb : Below B w w') (hB : rb < B) (h : Rdr w rb p) : Rdr w' rb p := by
 have hlt := h.lt
 obtain ⟨a, len, cap, zs, hb', hl, hc⟩ := h
 refine ⟨a, len, cap, zs, Blk.below hb hB hb', hl, ?_⟩
 rcases hc with h | ⟨b, off, h1, h2, h3, h4⟩
 ·
  exact .inl h
 ·
  exact .inr ⟨b, off, h1, h2, fun i hi => (hb.cell (p := ⟨b, off + i, none⟩) (by simp; omega)).trans (h3 i hi), h4⟩
theorem Rdr.alloc {w : World} {rb p : Nat} {o : Obj} (h : Rdr w rb p) : Rdr (w.alloc o) rb p := h.below ((Below.refl w.heap.size w).alloc (Nat.le_refl _) o) h.lt
theorem Rdr.other {w : World} {rb p : Nat} {a : Addr} {u : Value} (ha : rb < a.block) (h : Rdr w rb p) : Rdr (w.setCell a u) rb p :=
 h.below (B := rb + 1) ((Below.refl _ _).setCell (by omega) u) (by omega)
theorem Rdr.drewN {w : World} {rb p n : Nat} (h : Rdr w rb p) : Rdr (w.drewN n) rb p := h
theorem Rdr.drew {w : World} {rb p : Nat} (h : Rdr w rb p) : Rdr w.drew rb p := h
/-- The reader is asked once more. -/
theorem Rdr.step {w : World} {rb p n : Nat} {a : Option Addr} {len cap : Nat} {zs : List Int} (hb : Blk w rb #[.slice a len cap, .int .i64 p] 118) (hl : len ≤ 2000) (hc : CodeAt w rb a len zs) :
  Rdr ((w.setCell ⟨rb, 1, none⟩ (.int .i64 (p + 1))).drewN n) rb (p + 1) := by
 refine ⟨a, len, cap, zs, Blk.drewN (hb.set (by simp)) n, hl, ?_⟩
 exact hc.gb (w' := (w.setCell ⟨rb, 1, none⟩ (.int .i64 (p + 1))).drewN n) (r := rb) (gb_drewN (gb_set (World.grownBy.refl _ _))) (Nat.le_refl _) (Nat.le_of_lt hb.lt)

theorem xor_i64_nonneg (a b : Int) (ha : 0 ≤ a) (hb : 0 ≤ b) (ha' : a < 4611686018427387904) (hb' : b < 4611686018427387904) : 0 ≤ bits .xor .i64 a b := by
 obtain ⟨a, rfl⟩ := Int.eq_ofNat_of_zero_le ha
 obtain ⟨b, rfl⟩ := Int.eq_ofNat_of_zero_le hb
 have hx : a ^^^ b < 2 ^ 62 := Nat.xor_lt_two_pow (by omega) (by omega)
 have h1 : (BitVec.ofInt 64 (a : Int)).toNat = a := by
  rw [BitVec.ofInt_natCast, BitVec.toNat_ofNat]; exact Nat.mod_eq_of_lt (by omega)
 have h2 : (BitVec.ofInt 64 (b : Int)).toNat = b := by
  rw [BitVec.ofInt_natCast, BitVec.toNat_ofNat]; exact Nat.mod_eq_of_lt (by omega)
 show 0 ≤ IntKind.i64.wrap ((BitVec.ofInt 64 (a : Int) ^^^ BitVec.ofInt 64 (b : Int)).toNat : Int)
 rw [BitVec.toNat_xor, h1, h2, IntWalk.i64_in _ (by omega)]
 omega

set_option maxHeartbeats 1000000 in
theorem pick_any (rb p : Nat) (n : Int) (w : World) (h : Rdr w rb p) (hp : p ≤ 1000000000) (hn : n ≤ 1000000000) :
  Calls Tryz.prog 51 #[.pointer (some ⟨rb, 0, none⟩), .int .i64 n] w fun e w' => ∃ k : Int, e = .returned (.int .i64 k) ∧ 0 ≤ k ∧ (k < n ∨ k = 0) ∧ Rdr w' rb (p + 1) ∧ w.grownBy w' (some rb) := by
 obtain ⟨a, len, cap, zs, hb, hl, hc⟩ := h
 obtain ⟨c0, c1, f0, f1, l1⟩ := hb.two
 by_cases hn1 : n < 1
 ·
  go_enter Tryz.func51, Tryz.ntmps51
  go_wp2
  go_returns
  exact ⟨0, rfl, by omega, .inr rfl, Rdr.step (n := 0) hb hl hc, by (exact gbA)⟩
 ·
  by_cases hlen : len = 0
  ·
   subst hlen
   go_enter Tryz.func51, Tryz.ntmps51
   go_wp2
   go_returns
   exact ⟨0, rfl, by omega, .inr rfl, Rdr.step (n := 0) hb hl hc, by (exact gbA)⟩
  ·
   have hc' := hc
   rcases hc' with hc' | ⟨b, off, rfl, hbB, hcell, hz⟩
   ·
    omega
   have hne : ((len : Int) == 0) = false := by simp; omega
   have hne2 : (n == 0) = false := by simp; omega
   by_cases hpl : p < len
   ·
    have g0 := hcell p hpl
    obtain ⟨z1, z2⟩ := hz p
    obtain ⟨z, hzz⟩ : ∃ z, zs.getD p 0 = z := ⟨_, rfl⟩
    rw [hzz] at g0 z1 z2
    clear hz hcell hzz
    go_enter Tryz.func51, Tryz.ntmps51
    go_wp2
    go_returns
    refine ⟨_, rfl, Int.emod_nonneg _ (by omega), .inl (Int.emod_lt_of_pos _ (by omega)), Rdr.step (n := 0) hb hl hc, by (exact gbA)⟩
   ·
    have g0 := hcell (p % len) (Nat.mod_lt _ (by omega))
    have g1 := hcell ((p * 7 + 3) % len) (Nat.mod_lt _ (by omega))
    obtain ⟨z1, z2⟩ := hz (p % len)
    obtain ⟨y1, y2⟩ := hz ((p * 7 + 3) % len)
    obtain ⟨z, hzz⟩ : ∃ z, zs.getD (p % len) 0 = z := ⟨_, rfl⟩
    obtain ⟨y, hyy⟩ : ∃ y, zs.getD ((p * 7 + 3) % len) 0 = y := ⟨_, rfl⟩
    rw [hzz] at g0 z1 z2
    rw [hyy] at g1 y1 y2
    clear hz hcell hzz hyy
    have i1 : (p : Int) % len < len := Int.emod_lt_of_pos _ (by omega)
    have i2 : ((p : Int) * 7 + 3) % len < len := Int.emod_lt_of_pos _ (by omega)
    have i3 : 0 ≤ (p : Int) % len := Int.emod_nonneg _ (by omega)
    have i4 : 0 ≤ ((p : Int) * 7 + 3) % len := Int.emod_nonneg _ (by omega)
    have i5 : 0 ≤ (p : Int) / len := Int.ediv_nonneg (by omega) (by omega)
    have i6 : (p : Int) / len ≤ p := Int.ediv_le_self _ (by omega)
    go_enter Tryz.func51, Tryz.ntmps51
    go_wp2_with fail
    go_quiet (fail)
    go_wp2
    go_returns
    have hx := xor_i64_nonneg (z * 131 + y * 1117 + (p : Int) * 29 + (p : Int) / len * 53) ((z * 131 + y * 1117 + (p : Int) * 29 + (p : Int) / len * 53) / 64) (by omega) (by omega) (by omega) (by omega)
    refine ⟨_, rfl, ?_, ?_, ?_, ?_⟩
    ·
     rw [Int.tmod_eq_emod_of_nonneg hx]; exact Int.emod_nonneg _ (by omega)
    ·
     left; rw [Int.tmod_eq_emod_of_nonneg hx]; exact Int.emod_lt_of_pos _ (by omega)
    ·
     exact Rdr.step hb hl hc
    ·
     (exact gbA)

/-- What odd leaves. -/
def OddPost (rb p : Nat) (n : Int) (w : World) (e : Ending) (w' : World) : Prop :=
 ∃ (b : Bool) (q : Nat), e = .returned (.bool b) ∧ (n ≤ 0 → b = false) ∧ p ≤ q ∧ q ≤ p + 1 ∧ Rdr w' rb q ∧ w.grownBy w' (some rb)

set_option maxHeartbeats 400000 in
theorem odd_any (rb p : Nat) (n : Int) (w : World) (h : Rdr w rb p) (hp : p ≤ 1000000000) (hn : n ≤ 1000000000) :
  Calls Tryz.prog 74 #[.pointer (some ⟨rb, 0, none⟩), .int .i64 n] w (OddPost rb p n w) := by
 by_cases h0 : 0 < n
 ·
  go_enter Tryz.func74, Tryz.ntmps74
  go_wp2_with fail
  refine (pick_any rb p _ _ h hp hn).mono ?_
  rintro e w1 ⟨k, rfl, hk0, hk1, hr, hg⟩
  go_wp2
  go_returns
  exact ⟨_, p + 1, rfl, fun h => absurd h (by omega), by omega, by omega, hr, hg⟩
 ·
  go_enter Tryz.func74, Tryz.ntmps74
  go_wp2
  go_returns
  exact ⟨_, p, rfl, fun _ => rfl, by omega, by omega, h, World.grownBy.refl _ _⟩

/-- What came in, as a code. -/
def IsRow (k : IntKind) (w : World) (a : Option Addr) (len cap : Nat) (zs : List Int) : Prop :=
 (a = none ∧ len = 0 ∧ cap = 0 ∧ zs = []) ∨
 ∃ x, a = some x ∧ len ≤ cap ∧ cap ≤ maxLen ∧ zs.length = cap ∧ (∀ i, i < zs.length → w.cell? (x.add i) = some (.int k (zs.getD i 0))) ∧ ∀ n ∈ zs, (Lit.int k n).wf = true

/-- A code that came in, as the draws want it. -/
def Code (w : World) (a : Option Addr) (len cap : Nat) (zs : List Int) : Prop := len ≤ cap ∧ cap ≤ 9223372036854775807 ∧ CodeAt w w.heap.size a len zs

theorem IsRow.code {w : World} {a : Option Addr} {len cap : Nat} {zs : List Int} (h : IsRow .u8 w a len cap zs) : Code w a len cap zs := by
 rcases h with ⟨rfl, rfl, rfl, rfl⟩ | ⟨x, rfl, h1, h2, h3, h4, h5⟩
 ·
  exact ⟨by omega, by omega, .inl rfl⟩
 ·
  refine ⟨h1, h2, ?_⟩
  by_cases hl : len = 0
  ·
   exact .inl hl
  ·
   right
   have hc := h4 0 (by omega)
   obtain ⟨b, off, spot⟩ := x
   have hspot : spot = none := by simpa [Addr.add] using World.cell?_spot hc
   subst hspot
   refine ⟨b, off, rfl, ?_, fun i hi => by have h7 := h4 i (by omega); by_cases hi0 : i = 0 <;> simpa [Addr.add, hi0] using h7, fun i => ?_⟩
   ·
    have hc' : w.cell? ⟨b, off, none⟩ = some (.int .u8 (zs.getD 0 0)) := by simpa [Addr.add] using hc
    unfold World.cell? at hc'
    split at hc'
    ·
     rename_i h'; exact lt_of_block h'
    ·
     cases hc'
   ·
    by_cases hi : i < zs.length
    ·
     have := h5 (zs.getD i 0) (by simp [List.getD_eq_getElem?_getD, hi])
     exact bounds_u8 this
    ·
     simp [List.getD_eq_getElem?_getD, List.getElem?_eq_none (show zs.length ≤ i by omega)]
theorem CodeAt.below {w w' : World} {B B' : Nat} {a : Option Addr} {len : Nat} {zs : List Int} (hb : Below B' w w') (hB : B ≤ B') (h : CodeAt w B a len zs) : CodeAt w' B a len zs := by
 rcases h with h | ⟨b, off, h1, h2, h3, h4⟩
 ·
  exact .inl h
 ·
  exact .inr ⟨b, off, h1, h2, fun i hi => (hb.cell (p := ⟨b, off + i, none⟩) (by simp; omega)).trans (h3 i hi), h4⟩
theorem CodeAt.mono {w : World} {B B' : Nat} {a : Option Addr} {len : Nat} {zs : List Int} (hB : B ≤ B') (h : CodeAt w B a len zs) : CodeAt w B' a len zs := by
 rcases h with h | ⟨b, off, h1, h2, r⟩
 ·
  exact .inl h
 ·
  exact .inr ⟨b, off, h1, by omega, r⟩
theorem CodeAt.cut {w : World} {B : Nat} {a : Option Addr} {len m : Nat} {zs : List Int} (hm : m ≤ len) (h : CodeAt w B a len zs) : CodeAt w B a m zs := by
 rcases h with h | ⟨b, off, h1, h2, h3, h4⟩
 ·
  exact .inl (by omega)
 ·
  exact .inr ⟨b, off, h1, h2, fun i hi => h3 i (by omega), h4⟩
theorem Code.below {w w' : World} {a : Option Addr} {len cap : Nat} {zs : List Int} (hb : Below w.heap.size w w') (h : Code w a len cap zs) : Code w' a len cap zs :=
 ⟨h.1, h.2.1, (h.2.2.below hb (Nat.le_refl _)).mono hb.size⟩
theorem Code.bd {w : World} {a : Option Addr} {len cap : Nat} {zs : List Int} (h : Code w a len cap zs) : len ≤ 9223372036854775807 := by have h1 := h.1; have h2 := h.2.1; omega

set_option maxHeartbeats 400000 in
theorem open_any (a : Option Addr) (len cap : Nat) (zs : List Int) (w : World) (h : Code w a len cap zs) :
  Calls Tryz.prog 48 #[.slice a len cap] w fun e w' => ∃ rb, e = .returned (.pointer (some ⟨rb, 0, none⟩)) ∧ w.heap.size ≤ rb ∧ Rdr w' rb 0 ∧ Below w.heap.size w w' := by
 obtain ⟨h1, h2, h3⟩ := h
 by_cases hl : len ≤ 2000
 ·
  go_enter Tryz.func48, Tryz.ntmps48
  go_wp2
  go_returns
  exact ⟨_, rfl, Nat.le_refl _, ⟨a, len, cap, zs, Blk.new rfl, hl, h3.below (Below.alloc (Below.refl _ _) (Nat.le_refl _) _) (Nat.le_refl _)⟩, by (exact grownA)⟩
 ·
  rcases h3 with h3 | ⟨b, off, rfl, h4, h5, h6⟩
  ·
   omega
  go_enter Tryz.func48, Tryz.ntmps48
  go_wp2
  go_returns
  exact ⟨_, rfl, Nat.le_refl _, ⟨_, 2000, cap, zs, Blk.new rfl, Nat.le_refl _, (CodeAt.cut (by omega) (.inr ⟨b, off, rfl, h4, h5, h6⟩)).below (Below.alloc (Below.refl _ _) (Nat.le_refl _) _) (Nat.le_refl _)⟩, by (exact grownA)⟩

end Go.Proofs.YtedadhoneebfnaaGreatDoor

/- The draw of a permutation: l20Perm. Of what is drawn only the length and the range are said. -/
namespace Go.Proofs.YtedadhoneebfnaaGreatDoor
open Go.RowKit

theorem infoIz : (Tryz.prog.info? 3).map (fun i => (i.zero, i.size, i.bytes)) = some (some (.int .i64 0), 1, 8) := by kernel_rfl
theorem ints_one (zs : List Int) : ∀ u ∈ ints zs, u.oneCell' = true := by
 intro u hu
 obtain ⟨s, _, rfl⟩ := List.mem_map.1 hu
 rfl
/-- The first n of an owned row, with all the room. -/
theorem Own.first {w : World} {g n cap m : Nat} {E : TypeId} {xs : List Value} (h : Own w g n cap E 1 xs) (hm : m ≤ n) : Own w g m cap E 1 (xs.take m) := by
 obtain ⟨cur, hb, h1, h2, h3, h4⟩ := h.blk
 have hl := h.len
 refine Own.ofBlk (by rw [List.length_take]; omega) hb (by omega) h2 h3 ?_
 rw [← h4, List.take_take]; congr 1; omega
theorem keep_newz {w : World} {cs : Array Value} {T : TypeId} {b i : Nat} {u : Value} (hb : b = w.heap.size) (hu : cs[i]? = some u) : (w.alloc (.cells cs T)).cell? ⟨b, 0 + i, none⟩ = some u := by
 rw [Nat.zero_add, (Blk.new hb).at i]; exact hu
theorem gb_low {w w1 w2 : World} {rb : Nat} {r : Option Nat} (h : w.grownBy w1 (some rb)) (hg : w1.grownBy w2 r) (hr : ∀ b, r = some b → w.heap.size ≤ b) : w.grownBy w2 (some rb) :=
 ⟨hg.os.trans h.os, hg.tape.trans h.tape, hg.output.trans h.output, Nat.le_trans h.size hg.size, fun k hk hk2 => (hg.block k (Nat.lt_of_lt_of_le hk h.size) (fun e => by have := hr k e.symm; omega)).trans (h.block k hk hk2)⟩
theorem Rdr.kept {w w' : World} {rb p : Nat} {r : Option Nat} (h : Rdr w rb p) (hg : w.grownBy w' r) (hr : ∀ b, r = some b → rb < b) : Rdr w' rb p :=
 h.below (B := rb + 1) ((Below.refl _ _).grown hg h.lt (fun k hk => hr k hk)) (Nat.lt_succ_self _)
/-- What l20Perm leaves. -/
def PermPost (rb p m : Nat) (w : World) (e : Ending) (w' : World) : Prop :=
 ∃ (g cap : Nat) (zs : List Int), e = .returned (.slice (some ⟨g, 0, none⟩) m cap) ∧ zs.length = m ∧ (∀ z ∈ zs, 0 ≤ z ∧ z < m) ∧ w.heap.size ≤ g ∧ Own w' g m cap 3 1 (ints zs) ∧ Rdr w' rb (p + m) ∧ w.grownBy w' (some rb)

set_option maxRecDepth 100000 in
set_option maxHeartbeats 2000000 in
theorem l20Perm_any (rb p m : Nat) (w : World) (h : Rdr w rb p) (hp : p ≤ 1000000) (hm : m ≤ 100) :
  Calls Tryz.prog 95 #[.pointer (some ⟨rb, 0, none⟩), .int .i64 m] w (PermPost rb p m w) := by
 obtain ⟨i0, hi, hz0, hz1, hz2⟩ := info_parts infoIz
 have hlt := h.lt
 have hO0 : Own (w.alloc (.cells #[] 3)) w.heap.size 0 0 3 1 (ints []) := (Own.of (World.ownsRow_lit (base := w.heap.size) (e := 3) (size := 1) w #[] 0 (Nat.le_refl _) (by unfold maxLen; omega) rfl)).1
 go_enter Tryz.func95, Tryz.ntmps95
 go_wp2_with fail
 go_loopw [5, 6] (fun v i wr => ∃ (k g cap : Nat) (zs : List Int), i = .int .i64 k ∧ k ≤ m ∧ v = .slice (some ⟨g, 0, none⟩) k cap ∧ Hid (zs.length = k) ∧ Hid (∀ z ∈ zs, 0 ≤ z ∧ z < m) ∧ w.heap.size ≤ g ∧ Own wr g k cap 3 1 (ints zs) ∧ Rdr wr rb (p + k) ∧ w.grownBy wr (some rb)) (fun _ i _ => m - (intOf i).toNat)
 case atStart => exact ⟨0, w.heap.size, 0, [], rfl, Nat.zero_le _, rfl, rfl, (fun z hz => by cases hz), Nat.le_refl _, hO0, h.alloc, by (exact gbA)⟩
 case round =>
  clear hO0 h
  obtain ⟨k, g, cap, zs, rfl, hk, rfl, HZ, HZB, hg, hO, hr, hgb⟩ := hrel
  have hrlt := hr.lt
  by_cases hkm : k < m
  ·
   go_wp2_with fail
   refine (pick_any rb (p + k) _ _ hr (by omega) (by omega)).mono ?_
   rintro e w1 ⟨y, rfl, hy0, hy1, hr1, hgb1⟩
   have hO1 := hO.gb hgb1 (by omega)
   have hgA := gb_trans hgb hgb1
   have hyk : y ≤ k := by omega
   obtain ⟨t, rfl⟩ := Int.eq_ofNat_of_zero_le hy0
   have htk : t ≤ k := by omega
   have hcaps := hO1.caps
   have hcl := hcaps.2
   unfold maxLen at hcl
   have hO1lt := hO1.lt
   have hsz1 := hgA.size
   have hO2 : (w1.alloc (.cells #[] 3)).ownsRow w1.heap.size 3 1 (.slice (some ⟨w1.heap.size, 0, none⟩) 0 0) 0 [] := World.ownsRow_lit (base := w1.heap.size) (e := 3) (size := 1) w1 #[] 0 (Nat.le_refl _) (by unfold maxLen; omega) rfl
   have hOa := hO1.alloc (o := .cells #[] 3)
   have HRD : ∀ a', (t < k → a' = some ⟨g, t, none⟩) → Rds (w1.alloc (.cells #[] 3)) (.slice a' (k - t) (cap - t)) (k - t) 1 ((ints zs).drop t) := fun a' ha => by
    have := Rds.drop (Rds.ofOwn hOa) htk (show k - t ≤ cap - t by omega) (a' := a') (by intro h; rw [ha h]; simp)
    simpa using this
   have HRDH := Lib.hid HRD
   clear HRD hy1 hyk hO hr hgb hgb1 hy0
   have hn1 : ∀ u ∈ (ints zs).drop t, u.oneCell' = true := fun u hu => ints_one zs u (List.mem_of_mem_drop hu)
   have HN1 := Lib.hid hn1
   clear hn1
   have i1 : (0 : Int) ≤ (t : Int) := by omega
   have i2 : (t : Int) ≤ (k : Int) := by omega
   obtain ⟨o2, hoo, hot⟩ : ∃ o2, (if cap = t then some (⟨g, 0, none⟩ : Addr) else some ⟨g, t, none⟩) = some ⟨g, o2, none⟩ ∧ (t < k → o2 = t) := by
    by_cases hct : cap = t
    ·
     exact ⟨0, by rw [if_pos hct], fun h => by omega⟩
    ·
     exact ⟨t, by rw [if_neg hct], fun _ => rfl⟩
   have HOT := Lib.hid hot
   clear hot
   ·
    go_wp2_with (first
     | (at_builtin; refine wpList_append_rds _ rfl _ _ 106 rfl w1.heap.size 3 i0 _ 1 8 Tryz.underlying106 hi hz0 hz1 hz2 rfl (by decide) (.slice (some ⟨w1.heap.size, 0, none⟩) 0 0) 0 [] rfl hO2 _ (k - t) ((ints zs).drop t) rfl (HRDH.out (some ⟨g, o2, none⟩) (by intro h; rw [HOT.out h])) HN1.out (by unfold maxLen; omega) (by omega) (by simp) ?_; intro v2 w2 ho2 hgr2 hv2; (have hgr2' : World.grownBy _ w2 (some w1.heap.size) := hgr2); (have h21 := Own.gb hgr2' (by omega) hOa); (have hT := ((h21.first htk).alloc (o := .cells #[.int .i64 (k : Nat)] 3)).back hg); (have hsz2 := hgr2'.size); (rw [World.size_alloc] at hsz2); (have HV2 : Hid (∀ b, v2.ownBlock = some b → w1.heap.size ≤ b) := own_ge ho2); (have ho2a := World.ownsRow.alloc ho2 (.cells #[.int .i64 (k : Nat)] 3)); clear hgr2 h21)
     | (at_builtin; refine wpList_append_own _ rfl _ _ 106 rfl w.heap.size 3 i0 _ 1 8 Tryz.underlying106 hi hz0 hz1 hz2 rfl (by decide) (.slice (some ⟨g, 0, none⟩) t cap) t ((ints zs).take t) rfl hT ⟨w2.heap.size, 0, none⟩ 1 1 [.int .i64 (k : Nat)] rfl rfl (by intro j u hj; rw [Addr.add_spot]; exact keep_newz (by simp) (by simpa using hj)) (by intro u hu; simp at hu; subst hu; rfl) (by unfold maxLen; omega) (by omega) (by simp; omega) ?_; intro v3 w3 ho3 hgr3 _; (have hgr3' : World.grownBy _ w3 (some g) := hgr3); (have ho23 := ho2a.kept hgr3' (Or.inr (fun e => by have := HV2.out _ e; omega) : v2.ownBlock = none ∨ v2.ownBlock ≠ some g)); (have hsz3 := hgr3'.size); (rw [World.size_alloc] at hsz3); clear hgr3 hT ho2a)
     | (at_builtin; refine wpList_append_rds _ rfl _ _ 106 rfl w.heap.size 3 i0 _ 1 8 Tryz.underlying106 hi hz0 hz1 hz2 rfl (by decide) v3 (t + 1) _ rfl ho3 v2 (0 + (k - t)) _ rfl (Rds.ofOwns ho23) (by simpa using HN1.out) (by unfold maxLen; omega) (by omega) (by omega) ?_; intro v4 w4 ho4 hgr4 _))
    have hge3 : ∀ b, v3.ownBlock = some b → w.heap.size ≤ b := own_ge ho3
    have hG2 := gb_low (gb_alloc hgA) hgr2' (fun b e => by cases e; exact hsz1)
    have hG3 := gb_low (gb_alloc hG2) hgr3' (fun b e => by cases e; exact hg)
    have hG4 := gb_low hG3 hgr4 hge3
    have hR2 := (hr1.alloc).kept hgr2' (fun b e => by cases e; exact hr1.lt)
    have hR3 := (hR2.alloc).kept hgr3' (fun b e => by cases e; omega)
    have hR4 := hR3.kept hgr4 (fun b e => by have := hge3 b e; omega)
    rw [show t + 1 + (0 + (k - t)) = k + 1 by omega] at ho4
    obtain ⟨g4, c4, rfl, hg4, hO4⟩ := own_head ho4 (Nat.succ_pos k)
    clear hG2 hG3 hR2 hR3 ho4 ho3 ho23 hgr2' hgr3' hgr4 hge3 hOa hO1 hO2 hr1 hgA
    go_roundw
    case rel =>
     refine ⟨k + 1, g4, c4, zs.take t ++ [(k : Int)] ++ zs.drop t, by go_num, by omega, by first | rfl | (rw [show t + 1 + (0 + (k - t)) = k + 1 by omega]), ?_, ?_, hg4, ?_, hR4, hG4⟩
     ·
      unfold Hid; have := HZ.out; simp; omega
     ·
      intro z hz
      simp only [List.mem_append, List.mem_singleton] at hz
      rcases hz with (hz | rfl) | hz
      ·
       exact HZB.out z (List.mem_of_mem_take hz)
      ·
       omega
      ·
       exact HZB.out z (List.mem_of_mem_drop hz)
     ·
      have e : ints (zs.take t ++ [(k : Int)] ++ zs.drop t) = (ints zs).take t ++ [.int .i64 (k : Nat)] ++ ([] ++ (ints zs).drop t) := by simp [ints, List.map_take, List.map_drop]
      rw [e]; exact hO4
    case measure => simp [intOf]; omega
  ·
   obtain rfl : k = m := by omega
   go_wp2
   go_returns
   exact ⟨g, cap, zs, rfl, HZ.out, HZB.out, hg, hO, hr, hgb⟩

end Go.Proofs.YtedadhoneebfnaaGreatDoor

/- The draw of digits: l20Digits. -/
namespace Go.Proofs.YtedadhoneebfnaaGreatDoor
open Go.RowKit

/-- What l20Digits leaves. -/
def DigPost (rb p : Nat) (most : Int) (w : World) (e : Ending) (w' : World) : Prop :=
 ∃ (s : ByteArray) (q : Nat), e = .returned (.string s) ∧ (s.size : Int) ≤ most ∧ digsB s = true ∧ p ≤ q ∧ q ≤ p + 10 ∧ Rdr w' rb q ∧ w.grownBy w' (some rb)

set_option maxHeartbeats 1000000 in
theorem l20Digits_any (rb p : Nat) (most : Int) (w : World) (h : Rdr w rb p) (hp : p ≤ 500000000) (h0 : 0 ≤ most) (h6 : most ≤ 8) :
  Calls Tryz.prog 122 #[.pointer (some ⟨rb, 0, none⟩), .int .i64 most] w (DigPost rb p most w) := by
 go_enter Tryz.func122, Tryz.ntmps122
 go_wp2_with fail
 refine (pick_any rb p _ _ h (by omega) (by omega)).mono ?_
 rintro e w1 ⟨x, rfl, hx0, hx1, hr1, hg1⟩
 have hx : x ≤ most := by omega
 clear hx1
 go_wp2_with fail
 go_loopw [5, 6] (fun s k wr => ∃ (j q : Nat) (st : ByteArray), k = .int .i64 j ∧ s = .string st ∧ (j : Int) + st.size ≤ most ∧ q + j ≤ p + 1 + 8 ∧ p ≤ q ∧ Hid (digsB st = true) ∧ Rdr wr rb q ∧ w.grownBy wr (some rb)) (fun _ k _ => (intOf k).toNat)
 case atStart => exact ⟨x.toNat, p + 1, ⟨#[]⟩, by go_num, rfl, by have : (⟨#[]⟩ : ByteArray).size = 0 := rfl; omega, by omega, by omega, rfl, hr1, hg1⟩
 case round =>
  obtain ⟨j, q, st, rfl, rfl, hj, hq1, hq2, hst, hr, hg⟩ := hrel
  by_cases hj0 : 0 < j
  ·
   have hrlt := hr.lt
   go_wp2_with fail
   refine (pick_any rb q _ _ hr.alloc (by omega) (by omega)).mono ?_
   rintro e w2 ⟨y, rfl, hy0, hy1, hr2, hg2⟩
   have hy : y < 4 := by omega
   have hC := Blk.gb hg2 (b := wr.heap.size) (by omega) (Blk.new rfl)
   have hcell := hC.at y.toNat
   obtain ⟨c, hc, hcd⟩ : ∃ c : UInt8, w2.cell? ⟨wr.heap.size, y.toNat, none⟩ = some (.string ⟨#[c]⟩) ∧ digB c = true := by
    have : y = 0 ∨ y = 1 ∨ y = 2 ∨ y = 3 := by omega
    rcases this with rfl | rfl | rfl | rfl
    ·
     exact ⟨48, hcell, by decide⟩
    ·
     exact ⟨49, hcell, by decide⟩
    ·
     exact ⟨50, hcell, by decide⟩
    ·
     exact ⟨51, hcell, by decide⟩
   have hg2' : w.grownBy w2 (some rb) := gb_trans (gb_alloc hg) hg2
   have HCD := Lib.hid hcd
   clear hcell hC hy1 hg2 hcd
   go_wp2
   go_roundw
   case rel =>
    have e1 : (st ++ (⟨#[c]⟩ : ByteArray)).size = st.size + 1 := by rw [ByteArray.size_append]; rfl
    refine ⟨j - 1, q + 1, st ++ ⟨#[c]⟩, by go_num, rfl, by omega, by omega, by omega, ?_, hr2, hg2'⟩
    have e2 : (st ++ (⟨#[c]⟩ : ByteArray)).data.toList = st.data.toList ++ [c] := by simp [ByteArray.data_append]
    unfold Hid digsB
    rw [e2, List.all_append, Bool.and_eq_true]
    exact ⟨hst.out, by simp [HCD.out]⟩
   case measure => simp [intOf]; omega
  ·
   obtain rfl : j = 0 := by omega
   go_wp2
   go_returns
   exact ⟨st, q, rfl, by omega, hst.out, by omega, by omega, hr, hg⟩

end Go.Proofs.YtedadhoneebfnaaGreatDoor

/- What came in as a slice of structs or strings reads as a list. -/
namespace Go.Proofs.YtedadhoneebfnaaGreatDoor
open Go.ChangeShapes Go.WideShapes Go.Deep Go.RowKit

section
variable {H : Type} {enc : TypeId × Value → H} {P : Program} {w : World} {base : Nat} {spare : Nat → Bool} {held : Bool}
theorem open_slice_fields {t e : TypeId} {fs : Array Field} {fuel : Nat} {cs : List Value} {x : DataW H × List MemPlace} (ht : P.underlying t = some (.slice e)) (he : P.underlying e = some (.struct fs))
  (hone : oneCellFields P fs = true) (hC : P.cellsOf e = fs.size) (h : DataW.trod enc P w base spare held fuel t cs = some x) :
  (cs = [.slice none 0 0] ∧ x = (.nil, [])) ∨
  ∃ (a : Addr) (len cap m : Nat) (D : Nat → DataW H) (Pl : Nat → List MemPlace), cs = [.slice (some a) len cap] ∧ base ≤ a.block ∧ len ≤ cap ∧ cap ≤ maxLen ∧ m = (if spare a.block then cap else len) ∧
   x = (.slice ((List.range len).map D) ((List.range (m - len)).map fun j => D (len + j)), MemPlace.row a (m * fs.size) ++ (List.range m).flatMap Pl) ∧
   ∀ i, i < m → ∃ (ys : List (DataW H × List MemPlace)) (n : Nat), D i = .agg (ys.map (·.1)) ∧ Pl i = ys.flatMap (·.2) ∧ ys.length = fs.size ∧
    ∀ (j : Nat) (f : Field), fs[j]? = some f → ∃ (v : Value) (y : DataW H × List MemPlace), w.cell? (a.add (i * fs.size + j)) = some v ∧ ys[j]? = some y ∧ DataW.trod enc P w base spare held n f.type [v] = some y := by
 rcases open_slice ht h with h0 | ⟨a, len, cap, m, n, D, Pl, hcs, hb, hl, hm, hmm, hx, hi⟩
 ·
  exact .inl h0
 ·
  refine .inr ⟨a, len, cap, m, D, Pl, hcs, hb, hl, hm, hmm, by rw [hC] at hx; exact hx, fun i him => ?_⟩
  obtain ⟨cs', hc, ht'⟩ := hi i him
  rw [hC] at hc
  obtain ⟨ys, n', hn', hy, hlen, hyl, hf⟩ := DataW.trod_struct he ht'
  obtain ⟨_, hcl, hat⟩ := World.cells?_some hc
  simp only [Prod.mk.injEq] at hy
  refine ⟨ys, n', hy.1, hy.2, hyl, fun j f hj => ?_⟩
  obtain ⟨ho, hk⟩ := hone_of hone j f hj
  have hjl : j < fs.size := (Array.getElem?_eq_some_iff.1 hj).1
  have hcell := hat j hjl
  have hv : cs'[j]? = some (cs'[j]'(by omega)) := List.getElem?_eq_getElem (by omega)
  have h1 := hf j f hj
  rw [ho, hk] at h1
  have hone' : (cs'.drop j).take 1 = [cs'[j]'(by omega)] := by
   rw [List.drop_eq_getElem_cons (by omega)]
   rfl
  rw [hone'] at h1
  have hys : ys[j]? = some (ys[j]'(by omega)) := List.getElem?_eq_getElem (by omega)
  refine ⟨_, _, ?_, hys, h1.trans hys⟩
  rw [← Go.Deep.add_add, hcell, hv]
end

/-- Finitely many choices are a list. -/
theorem list_of {α : Type} {P : Nat → α → Prop} : ∀ n, (∀ i, i < n → ∃ x, P i x) → ∃ xs : List α, xs.length = n ∧ ∀ i x, xs[i]? = some x → P i x := by
 intro n
 induction n with
 | zero => intro _; exact ⟨[], rfl, fun i x h => by simp at h⟩
 | succ n ih =>
  intro h
  obtain ⟨xs, h1, h2⟩ := ih (fun i hi => h i (by omega))
  obtain ⟨x, hx⟩ := h n (by omega)
  refine ⟨xs ++ [x], by simp [h1], fun i y hy => ?_⟩
  by_cases e : i < xs.length
  ·
   rw [List.getElem?_append_left e] at hy; exact h2 i y hy
  ·
   rw [List.getElem?_append_right (by omega)] at hy
   have : i = xs.length := by
    have := (List.getElem?_eq_some_iff.1 hy).1
    simp at this; omega
   subst this
   simp at hy
   subst hy
   rw [h1]; exact hx
theorem spot_none {w : World} {a : Addr} {v : Value} (h : w.cell? (a.add 0) = some v) : ∃ b off, a = ⟨b, off, none⟩ ∧ b < w.heap.size := by
 obtain ⟨b, off, spot⟩ := a
 have hspot : spot = none := by simpa [Addr.add] using World.cell?_spot h
 subst hspot
 refine ⟨b, off, rfl, ?_⟩
 have hc' : w.cell? ⟨b, off, none⟩ = some v := by simpa [Addr.add] using h
 unfold World.cell? at hc'
 split at hc'
 ·
  rename_i h'; exact lt_of_block h'
 ·
  cases hc'

section
variable {H : Type} {enc : TypeId × Value → H} {W : World} {a : Option Addr} {len cap : Nat} {d : DataW H} {p : List MemPlace}
theorem rds_strs (h : DataW.Trod enc Tryz.prog W 0 (fun _ => true) true 24 (.slice a len cap) d p) : ∃ ps, Rds W (.slice a len cap) ps.length 1 (strs ps) ∧ StLen ps := by
 obtain ⟨fuel, hf⟩ := h
 rcases Go.ChangeShapes.open_strings Tryz.underlying24 Tryz.underlying9 (by kernel_rfl) hf with ⟨hcs, _⟩ | ⟨x, l, c, ss, hcs, _, hl, hm, hss, _, hc, hsz⟩
 ·
  simp [Value.cells] at hcs
  obtain ⟨rfl, rfl, rfl⟩ := hcs
  exact ⟨[], ⟨rfl, by simp, _, _, rfl, Nat.le_refl _, .inl rfl⟩, fun k r h => by simp at h⟩
 ·
  simp [Value.cells] at hcs
  obtain ⟨rfl, rfl, rfl⟩ := hcs
  rw [if_pos rfl] at hss
  have hlen : (ss.take len).length = len := by rw [List.length_take]; omega
  refine ⟨ss.take len, ⟨by rw [strs_len]; omega, by omega, _, _, by rw [hlen], by omega, ?_⟩, fun k s hk => hsz s (List.mem_of_mem_take (List.mem_of_getElem? hk))⟩
  rw [hlen]
  by_cases hl0 : len = 0
  ·
   exact .inl hl0
  ·
   right
   obtain ⟨b, off, rfl, hb⟩ := spot_none (hc 0 (by omega))
   refine ⟨b, off, rfl, hb, fun i hi2 => ?_⟩
   have hi3 : i < len := by omega
   have := hc i (by omega)
   rw [Addr.add_spot] at this
   rw [this]
   obtain ⟨s, hs⟩ : ∃ s, ss[i]? = some s := ⟨_, List.getElem?_eq_getElem (by omega)⟩
   rw [strs_at (ss.take len) i s (by rw [List.getElem?_take_of_lt hi3, hs])]
   simp [List.getD_eq_getElem?_getD, hs]
end

end Go.Proofs.YtedadhoneebfnaaGreatDoor

/- What came in as calls, deeds, an exchange, reads as lists. -/
namespace Go.Proofs.YtedadhoneebfnaaGreatDoor
open Go.ChangeShapes Go.WideShapes Go.Deep Go.RowKit Go.Joins

section
variable {H : Type} {enc : TypeId × Value → H} {W : World} {a : Option Addr} {len cap : Nat} {d : DataW H} {p : List MemPlace}
theorem rds_calls (h : DataW.Trod enc Tryz.prog W 0 (fun _ => true) true 25 (.slice a len cap) d p) : ∃ cs, Rds W (.slice a len cap) cs.length 3 (ccells cs) := by
 obtain ⟨fuel, hf⟩ := h
 rcases open_slice_fields Tryz.underlying25 Tryz.underlying114 (by kernel_rfl) (by kernel_rfl) hf with ⟨hcs, _⟩ | ⟨x, l, c, m, D, Pl, hcs, _, hl, hm, hmm, _, hi⟩
 ·
  simp [Value.cells] at hcs
  obtain ⟨rfl, rfl, rfl⟩ := hcs
  exact ⟨[], ⟨rfl, by simp, _, _, rfl, Nat.le_refl _, .inl rfl⟩⟩
 ·
  simp [Value.cells] at hcs
  obtain ⟨rfl, rfl, rfl⟩ := hcs
  rw [if_pos rfl] at hmm
  have hone : ∀ i, i < len → ∃ r : Cl, W.cell? (x.add (i * 3 + 0)) = some (.int .i64 r.1) ∧ W.cell? (x.add (i * 3 + 1)) = some (.int .i64 r.2.1) ∧ W.cell? (x.add (i * 3 + 2)) = some (.int .i64 r.2.2) := by
   intro i hil
   obtain ⟨ys, n, _, _, _, hfield⟩ := hi i (by omega)
   obtain ⟨v1, y1, hc1, _, ht1⟩ := hfield 0 _ rfl
   obtain ⟨v2, y2, hc2, _, ht2⟩ := hfield 1 _ rfl
   obtain ⟨v3, y3, hc3, _, ht3⟩ := hfield 2 _ rfl
   obtain ⟨o1, e1, _, _⟩ := DataW.trod_int Tryz.underlying3 ht1
   obtain ⟨o2, e2, _, _⟩ := DataW.trod_int Tryz.underlying3 ht2
   obtain ⟨o3, e3, _, _⟩ := DataW.trod_int Tryz.underlying3 ht3
   simp at e1 e2 e3
   subst e1 e2 e3
   exact ⟨(o1, o2, o3), hc1, hc2, hc3⟩
  obtain ⟨rs, hrl, hrs⟩ := list_of len hone
  refine ⟨rs, ⟨ccells_len rs, by omega, _, _, by rw [hrl], by omega, ?_⟩⟩
  rw [hrl]
  by_cases hl0 : len = 0
  ·
   exact .inl hl0
  ·
   right
   obtain ⟨r0, hr0⟩ : ∃ r, rs[0]? = some r := ⟨_, List.getElem?_eq_getElem (by omega)⟩
   obtain ⟨b, off, rfl, hb⟩ := spot_none (hrs 0 r0 hr0).1
   refine ⟨b, off, rfl, hb, fun i hi2 => ?_⟩
   obtain ⟨r, hr⟩ : ∃ r, rs[i / 3]? = some r := ⟨_, List.getElem?_eq_getElem (by omega)⟩
   obtain ⟨q1, q2, q3⟩ := ccells_at rs (i / 3) r hr
   obtain ⟨g1, g2, g3⟩ := hrs (i / 3) r hr
   rw [Addr.add_spot] at g1 g2 g3
   have h3 : i % 3 = 0 ∨ i % 3 = 1 ∨ i % 3 = 2 := by omega
   rcases h3 with h | h | h
   ·
    rw [show i = i / 3 * 3 + 0 by omega, g1]
    rw [show i / 3 * 3 + 0 = i / 3 * 3 by omega, q1]
   ·
    rw [show i = i / 3 * 3 + 1 by omega, g2]
    rw [q2]
   ·
    rw [show i = i / 3 * 3 + 2 by omega, g3]
    rw [q3]
end
section
variable {H : Type} {enc : TypeId × Value → H} {W : World} {d : DataW H} {p : List MemPlace} {v : Value}
/-- A slice's one cell. -/
theorem slice_cell {e t : TypeId} {n : Nat} {c : Value} {y : DataW H × List MemPlace} (ht : Tryz.prog.underlying t = some (.slice e)) (h : DataW.trod enc Tryz.prog W 0 (fun _ => true) true n t [c] = some y) : ∃ a len cap, c = .slice a len cap := by
 rcases open_slice ht h with ⟨h0, _⟩ | ⟨a, len, cap, _, _, _, _, hcs, _⟩
 ·
  simp at h0; exact ⟨_, _, _, h0⟩
 ·
  simp at hcs; exact ⟨_, _, _, hcs⟩
set_option maxRecDepth 100000 in
/-- An exchange that came in. -/
theorem open_exch {b0 : Nat} (hv : Value.okWide Tryz.prog W .any b0 27 v) (h : DataW.Trod enc Tryz.prog W 0 (fun _ => true) true 27 v d p) :
  ∃ (O E M : Int) (vp vc : Value) (ps : List ByteArray) (cs : List Cl), v = .agg #[.int .i64 O, .int .i64 E, .int .i64 M, vp, vc] ∧ Rds W vp ps.length 1 (strs ps) ∧ StLen ps ∧ Rds W vc cs.length 3 (ccells cs) := by
 obtain ⟨c, rfl, hsz⟩ := okWide_struct Tryz.underlying27 hv
 obtain ⟨l⟩ := c
 match l, hsz.trans (show Tryz.prog.cellsOf 27 = 5 by kernel_rfl) with
 | [c0, c1, c2, c3, c4], _ =>
  obtain ⟨fuel, hf⟩ := h
  obtain ⟨xs, n, _, hx, _, hlen, hg⟩ := DataW.trod_struct Tryz.underlying27 hf
  match xs, hlen with
  | [y0, y1, y2], _ =>
   have g0 : DataW.trod enc Tryz.prog W 0 (fun _ => true) true n 23 ([c0, c1, c2, c3, c4].take (Tryz.prog.cellsOf 23)) = some y0 := hg 0 _ rfl
   have g1 : DataW.trod enc Tryz.prog W 0 (fun _ => true) true n 24 ([c3, c4].take (Tryz.prog.cellsOf 24)) = some y1 := hg 1 _ rfl
   have g2 : DataW.trod enc Tryz.prog W 0 (fun _ => true) true n 25 ([c4].take (Tryz.prog.cellsOf 25)) = some y2 := hg 2 _ rfl
   rw [show Tryz.prog.cellsOf 23 = 3 by kernel_rfl] at g0
   rw [show Tryz.prog.cellsOf 24 = 1 by kernel_rfl] at g1
   rw [show Tryz.prog.cellsOf 25 = 1 by kernel_rfl] at g2
   simp only [List.take_succ_cons, List.take_zero] at g0 g1 g2
   obtain ⟨xs, n', hn', hx', _, hlen', hg'⟩ := DataW.trod_struct Tryz.underlying23 g0
   match xs, hlen' with
   | [z0, z1, z2], _ =>
    have k0 : DataW.trod enc Tryz.prog W 0 (fun _ => true) true n' 3 ([c0, c1, c2].take (Tryz.prog.cellsOf 3)) = some z0 := hg' 0 _ rfl
    have k1 : DataW.trod enc Tryz.prog W 0 (fun _ => true) true n' 3 ([c1, c2].take (Tryz.prog.cellsOf 3)) = some z1 := hg' 1 _ rfl
    have k2 : DataW.trod enc Tryz.prog W 0 (fun _ => true) true n' 3 ([c2].take (Tryz.prog.cellsOf 3)) = some z2 := hg' 2 _ rfl
    rw [show Tryz.prog.cellsOf 3 = 1 by kernel_rfl] at k0 k1 k2
    simp only [List.take_succ_cons, List.take_zero] at k0 k1 k2
    obtain ⟨O, e0, _, _⟩ := DataW.trod_int Tryz.underlying3 k0
    obtain ⟨E, e1, _, _⟩ := DataW.trod_int Tryz.underlying3 k1
    obtain ⟨M, e2, _, _⟩ := DataW.trod_int Tryz.underlying3 k2
    simp at e0 e1 e2
    subst e0 e1 e2
    obtain ⟨a1, l1, b1, rfl⟩ := slice_cell Tryz.underlying24 g1
    obtain ⟨a2, l2, b2, rfl⟩ := slice_cell Tryz.underlying25 g2
    obtain ⟨ps, h1, h2⟩ := rds_strs (enc := enc) (d := y1.1) (p := y1.2) ⟨n, g1⟩
    obtain ⟨cs, h3⟩ := rds_calls (enc := enc) (d := y2.1) (p := y2.2) ⟨n, g2⟩
    exact ⟨O, E, M, _, _, ps, cs, rfl, h1, h2, h3⟩
end

end Go.Proofs.YtedadhoneebfnaaGreatDoor
