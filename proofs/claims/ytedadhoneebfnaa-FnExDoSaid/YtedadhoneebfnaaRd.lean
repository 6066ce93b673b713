/- The reader of a code from which inputs are drawn: l20Open, pick, odd. Of what is drawn only its range is said. -/
import Derived.Test.YtedadhoneebfnaaJ1
import Derived.Test.YtedadhoneebfnaaRows
import Derived.Handy
import Derived.Deep.QuietTactic
import Derived.BigQuiet
set_option linter.unusedSimpArgs false
set_option linter.unusedVariables false
namespace Go.Proofs.Ytedadhoneebfnaa
open Go.RowKit

/-- The bytes of a code, where they lie: nil or empty, or below block B. -/
def CodeAt (w : World) (B : Nat) (a : Option Addr) (len : Nat) (zs : List Int) : Prop :=
 len = 0 ∨ ∃ b off, a = some ⟨b, off, none⟩ ∧ b < B ∧ (∀ i, i < len → w.cell? ⟨b, off + i, none⟩ = some (.int .u8 (zs.getD i 0))) ∧ ∀ i, 0 ≤ zs.getD i 0 ∧ zs.getD i 0 ≤ 255

/-- Block rb is a reader that has been asked p times. -/
def Rdr (w : World) (rb p : Nat) : Prop :=
 ∃ a len cap zs, Blk w rb #[.slice a len cap, .int .i64 p] 121 ∧ len ≤ 2000 ∧ CodeAt w rb a len zs

theorem CodeAt.gb {w w' : World} {B : Nat} {a : Option Addr} {len : Nat} {zs : List Int} {r : Nat} (hg : w.grownBy w' (some r)) (hB : B ≤ r) (hBw : B ≤ w.heap.size) (h : CodeAt w B a len zs) : CodeAt w' B a len zs := by
 rcases h with h | ⟨b, off, h1, h2, h3, h4⟩
 ·
  exact .inl h
 ·
  exact .inr ⟨b, off, h1, h2, fun i hi => (World.cell?_of_block (a := ⟨b, off + i, none⟩) (hg.block b (by omega) (by simp; omega))).trans (h3 i hi), h4⟩
theorem Rdr.lt {w : World} {rb p : Nat} (h : Rdr w rb p) : rb < w.heap.size := by obtain ⟨a, len, cap, zs, hb, _⟩ := h; exact hb.lt
/-- Where only another block has been written the reader stands as it was. -/
theorem Rdr.gb {w w' : World} {rb p g : Nat} (hg : w.grownBy w' (some g)) (hne : rb < g) (h : Rdr w rb p) : Rdr w' rb p := by
 have hlt := h.lt
 obtain ⟨a, len, cap, zs, hb, hl, hc⟩ := h
 exact ⟨a, len, cap, zs, Blk.gb hg (by omega) hb, hl, hc.gb hg (by omega) (by omega)⟩
theorem Rdr.below {w w' : World} {rb p B : Nat} (hb : Below B w w') (hB : rb < B) (h : Rdr w rb p) : Rdr w' rb p := by
 have hlt := h.lt
 obtain ⟨a, len, cap, zs, hb', hl, hc⟩ := h
 refine ⟨a, len, cap, zs, Blk.below hb hB hb', hl, ?_⟩
 rcases hc with h | ⟨b, off, h1, h2, h3, h4⟩
 ·
  exact .inl h
 ·
  exact .inr ⟨b, off, h1, h2, fun i hi => (hb.cell (p := ⟨b, off + i, none⟩) (by simp; omega)).trans (h3 i hi), h4⟩
theorem Rdr.alloc {w : World} {rb p : Nat} {o : Obj} (h : Rdr w rb p) : Rdr (w.alloc o) rb p := h.below ((Below.refl w.heap.size w).alloc (Nat.le_refl _) o) h.lt
theorem Rdr.other {w : World} {rb p : Nat} {a : Addr} {u : Value} (ha : rb < a.block) (h : Rdr w rb p) : Rdr (w.setCell a u) rb p :=
 h.below (B := rb + 1) ((Below.refl _ _).setCell (by omega) u) (by omega)
theorem Rdr.drewN {w : World} {rb p n : Nat} (h : Rdr w rb p) : Rdr (w.drewN n) rb p := h
theorem Rdr.drew {w : World} {rb p : Nat} (h : Rdr w rb p) : Rdr w.drew rb p := h
/-- The reader is asked once more. -/
theorem Rdr.step {w : World} {rb p n : Nat} {a : Option Addr} {len cap : Nat} {zs : List Int} (hb : Blk w rb #[.slice a len cap, .int .i64 p] 121) (hl : len ≤ 2000) (hc : CodeAt w rb a len zs) :
  Rdr ((w.setCell ⟨rb, 1, none⟩ (.int .i64 (p + 1))).drewN n) rb (p + 1) := by
 refine ⟨a, len, cap, zs, Blk.drewN (hb.set (by simp)) n, hl, ?_⟩
 exact hc.gb (w' := (w.setCell ⟨rb, 1, none⟩ (.int .i64 (p + 1))).drewN n) (r := rb) (gb_drewN (gb_set (World.grownBy.refl _ _))) (Nat.le_refl _) (Nat.le_of_lt hb.lt)

theorem xor_i64_nonneg (a b : Int) (ha : 0 ≤ a) (hb : 0 ≤ b) (ha' : a < 4611686018427387904) (hb' : b < 4611686018427387904) : 0 ≤ bits .xor .i64 a b := by
 obtain ⟨a, rfl⟩ := Int.eq_ofNat_of_zero_le ha
 obtain ⟨b, rfl⟩ := Int.eq_ofNat_of_zero_le hb
 have hx : a ^^^ b < 2 ^ 62 := Nat.xor_lt_two_pow (by omega) (by omega)
 have h1 : (BitVec.ofInt 64 (a : Int)).toNat = a := by
  rw [BitVec.ofInt_natCast, BitVec.toNat_ofNat]; exact Nat.mod_eq_of_lt (by omega)
 have h2 : (BitVec.ofInt 64 (b : Int)).toNat = b := by
  rw [BitVec.ofInt_natCast, BitVec.toNat_ofNat]; exact Nat.mod_eq_of_lt (by omega)
 show 0 ≤ IntKind.i64.wrap ((BitVec.ofInt 64 (a : Int) ^^^ BitVec.ofInt 64 (b : Int)).toNat : Int)
 rw [BitVec.toNat_xor, h1, h2, IntWalk.i64_in _ (by omega)]
 omega

set_option maxHeartbeats 1000000 in
theorem pick_any (rb p : Nat) (n : Int) (w : World) (h : Rdr w rb p) (hp : p ≤ 1000000000) (hn : n ≤ 1000000000) :
  Calls Try.prog 84 #[.pointer (some ⟨rb, 0, none⟩), .int .i64 n] w fun e w' => ∃ k : Int, e = .returned (.int .i64 k) ∧ 0 ≤ k ∧ (k < n ∨ k = 0) ∧ Rdr w' rb (p + 1) ∧ w.grownBy w' (some rb) := by
 obtain ⟨a, len, cap, zs, hb, hl, hc⟩ := h
 obtain ⟨c0, c1, f0, f1, l1⟩ := hb.two
 by_cases hn1 : n < 1
 ·
  go_enter Try.func84, Try.ntmps84
  go_wp2
  go_returns
  exact ⟨0, rfl, by omega, .inr rfl, Rdr.step (n := 0) hb hl hc, by (exact gbA)⟩
 ·
  by_cases hlen : len = 0
  ·
   subst hlen
   go_enter Try.func84, Try.ntmps84
   go_wp2
   go_returns
   exact ⟨0, rfl, by omega, .inr rfl, Rdr.step (n := 0) hb hl hc, by (exact gbA)⟩
  ·
   have hc' := hc
   rcases hc' with hc' | ⟨b, off, rfl, hbB, hcell, hz⟩
   ·
    omega
   have hne : ((len : Int) == 0) = false := by simp; omega
   have hne2 : (n == 0) = false := by simp; omega
   by_cases hpl : p < len
   ·
    have g0 := hcell p hpl
    obtain ⟨z1, z2⟩ := hz p
    obtain ⟨z, hzz⟩ : ∃ z, zs.getD p 0 = z := ⟨_, rfl⟩
    rw [hzz] at g0 z1 z2
    clear hz hcell hzz
    go_enter Try.func84, Try.ntmps84
    go_wp2
    go_returns
    refine ⟨_, rfl, Int.emod_nonneg _ (by omega), .inl (Int.emod_lt_of_pos _ (by omega)), Rdr.step (n := 0) hb hl hc, by (exact gbA)⟩
   ·
    have g0 := hcell (p % len) (Nat.mod_lt _ (by omega))
    have g1 := hcell ((p * 7 + 3) % len) (Nat.mod_lt _ (by omega))
    obtain ⟨z1, z2⟩ := hz (p % len)
    obtain ⟨y1, y2⟩ := hz ((p * 7 + 3) % len)
    obtain ⟨z, hzz⟩ : ∃ z, zs.getD (p % len) 0 = z := ⟨_, rfl⟩
    obtain ⟨y, hyy⟩ : ∃ y, zs.getD ((p * 7 + 3) % len) 0 = y := ⟨_, rfl⟩
    rw [hzz] at g0 z1 z2
    rw [hyy] at g1 y1 y2
    clear hz hcell hzz hyy
    have i1 : (p : Int) % len < len := Int.emod_lt_of_pos _ (by omega)
    have i2 : ((p : Int) * 7 + 3) % len < len := Int.emod_lt_of_pos _ (by omega)
    have i3 : 0 ≤ (p : Int) % len := Int.emod_nonneg _ (by omega)
    have i4 : 0 ≤ ((p : Int) * 7 + 3) % len := Int.emod_nonneg _ (by omega)
    have i5 : 0 ≤ (p : Int) / len := Int.ediv_nonneg (by omega) (by omega)
    have i6 : (p : Int) / len ≤ p := Int.ediv_le_self _ (by omega)
    go_enter Try.func84, Try.ntmps84
    go_wp2_with fail
    go_quiet (fail)
    go_wp2
    go_returns
    have hx := xor_i64_nonneg (z * 131 + y * 1117 + (p : Int) * 29 + (p : Int) / len * 53) ((z * 131 + y * 1117 + (p : Int) * 29 + (p : Int) / len * 53) / 64) (by omega) (by omega) (by omega) (by omega)
    refine ⟨_, rfl, ?_, ?_, ?_, ?_⟩
    ·
     rw [Int.tmod_eq_emod_of_nonneg hx]; exact Int.emod_nonneg _ (by omega)
    ·
     left; rw [Int.tmod_eq_emod_of_nonneg hx]; exact Int.emod_lt_of_pos _ (by omega)
    ·
     exact Rdr.step hb hl hc
    ·
     (exact gbA)

/-- What odd leaves. -/
def OddPost (rb p : Nat) (n : Int) (w : World) (e : Ending) (w' : World) : Prop :=
 ∃ (b : Bool) (q : Nat), e = .returned (.bool b) ∧ (n ≤ 0 → b = false) ∧ p ≤ q ∧ q ≤ p + 1 ∧ Rdr w' rb q ∧ w.grownBy w' (some rb)

set_option maxHeartbeats 400000 in
theorem odd_any (rb p : Nat) (n : Int) (w : World) (h : Rdr w rb p) (hp : p ≤ 1000000000) (hn : n ≤ 1000000000) :
  Calls Try.prog 88 #[.pointer (some ⟨rb, 0, none⟩), .int .i64 n] w (OddPost rb p n w) := by
 by_cases h0 : 0 < n
 ·
  go_enter Try.func88, Try.ntmps88
  go_wp2_with fail
  refine (pick_any rb p _ _ h hp hn).mono ?_
  rintro e w1 ⟨k, rfl, hk0, hk1, hr, hg⟩
  go_wp2
  go_returns
  exact ⟨_, p + 1, rfl, fun h => absurd h (by omega), by omega, by omega, hr, hg⟩
 ·
  go_enter Try.func88, Try.ntmps88
  go_wp2
  go_returns
  exact ⟨_, p, rfl, fun _ => rfl, by omega, by omega, h, World.grownBy.refl _ _⟩

/-- What came in, as a code. -/
def IsRow (k : IntKind) (w : World) (a : Option Addr) (len cap : Nat) (zs : List Int) : Prop :=
 (a = none ∧ len = 0 ∧ cap = 0 ∧ zs = []) ∨
 ∃ x, a = some x ∧ len ≤ cap ∧ cap ≤ maxLen ∧ zs.length = cap ∧ (∀ i, i < zs.length → w.cell? (x.add i) = some (.int k (zs.getD i 0))) ∧ ∀ n ∈ zs, (Lit.int k n).wf = true

/-- A code that came in, as the draws want it. -/
def Code (w : World) (a : Option Addr) (len cap : Nat) (zs : List Int) : Prop := len ≤ cap ∧ cap ≤ 9223372036854775807 ∧ CodeAt w w.heap.size a len zs

theorem IsRow.code {w : World} {a : Option Addr} {len cap : Nat} {zs : List Int} (h : IsRow .u8 w a len cap zs) : Code w a len cap zs := by
 rcases h with ⟨rfl, rfl, rfl, rfl⟩ | ⟨x, rfl, h1, h2, h3, h4, h5⟩
 ·
  exact ⟨by omega, by omega, .inl rfl⟩
 ·
  refine ⟨h1, h2, ?_⟩
  by_cases hl : len = 0
  ·
   exact .inl hl
  ·
   right
   have hc := h4 0 (by omega)
   obtain ⟨b, off, spot⟩ := x
   have hspot : spot = none := by simpa [Addr.add] using World.cell?_spot hc
   subst hspot
   refine ⟨b, off, rfl, ?_, fun i hi => by have h7 := h4 i (by omega); by_cases hi0 : i = 0 <;> simpa [Addr.add, hi0] using h7, fun i => ?_⟩
   ·
    have hc' : w.cell? ⟨b, off, none⟩ = some (.int .u8 (zs.getD 0 0)) := by simpa [Addr.add] using hc
    unfold World.cell? at hc'
    split at hc'
    ·
     rename_i h'; exact lt_of_block h'
    ·
     cases hc'
   ·
    by_cases hi : i < zs.length
    ·
     have := h5 (zs.getD i 0) (by simp [List.getD_eq_getElem?_getD, hi])
     exact bounds_u8 this
    ·
     simp [List.getD_eq_getElem?_getD, List.getElem?_eq_none (show zs.length ≤ i by omega)]
theorem CodeAt.below {w w' : World} {B B' : Nat} {a : Option Addr} {len : Nat} {zs : List Int} (hb : Below B' w w') (hB : B ≤ B') (h : CodeAt w B a len zs) : CodeAt w' B a len zs := by
 rcases h with h | ⟨b, off, h1, h2, h3, h4⟩
 ·
  exact .inl h
 ·
  exact .inr ⟨b, off, h1, h2, fun i hi => (hb.cell (p := ⟨b, off + i, none⟩) (by simp; omega)).trans (h3 i hi), h4⟩
theorem CodeAt.mono {w : World} {B B' : Nat} {a : Option Addr} {len : Nat} {zs : List Int} (hB : B ≤ B') (h : CodeAt w B a len zs) : CodeAt w B' a len zs := by
 rcases h with h | ⟨b, off, h1, h2, r⟩
 ·
  exact .inl h
 ·
  exact .inr ⟨b, off, h1, by omega, r⟩
theorem CodeAt.cut {w : World} {B : Nat} {a : Option Addr} {len m : Nat} {zs : List Int} (hm : m ≤ len) (h : CodeAt w B a len zs) : CodeAt w B a m zs := by
 rcases h with h | ⟨b, off, h1, h2, h3, h4⟩
 ·
  exact .inl (by omega)
 ·
  exact .inr ⟨b, off, h1, h2, fun i hi => h3 i (by omega), h4⟩
theorem Code.below {w w' : World} {a : Option Addr} {len cap : Nat} {zs : List Int} (hb : Below w.heap.size w w') (h : Code w a len cap zs) : Code w' a len cap zs :=
 ⟨h.1, h.2.1, (h.2.2.below hb (Nat.le_refl _)).mono hb.size⟩
theorem Code.bd {w : World} {a : Option Addr} {len cap : Nat} {zs : List Int} (h : Code w a len cap zs) : len ≤ 9223372036854775807 := by have h1 := h.1; have h2 := h.2.1; omega

set_option maxHeartbeats 400000 in
theorem open_any (a : Option Addr) (len cap : Nat) (zs : List Int) (w : World) (h : Code w a len cap zs) :
  Calls Try.prog 82 #[.slice a len cap] w fun e w' => ∃ rb, e = .returned (.pointer (some ⟨rb, 0, none⟩)) ∧ w.heap.size ≤ rb ∧ Rdr w' rb 0 ∧ Below w.heap.size w w' := by
 obtain ⟨h1, h2, h3⟩ := h
 by_cases hl : len ≤ 2000
 ·
  go_enter Try.func82, Try.ntmps82
  go_wp2
  go_returns
  exact ⟨_, rfl, Nat.le_refl _, ⟨a, len, cap, zs, Blk.new rfl, hl, h3.below (Below.alloc (Below.refl _ _) (Nat.le_refl _) _) (Nat.le_refl _)⟩, by (exact grownA)⟩
 ·
  rcases h3 with h3 | ⟨b, off, rfl, h4, h5, h6⟩
  ·
   omega
  go_enter Try.func82, Try.ntmps82
  go_wp2
  go_returns
  exact ⟨_, rfl, Nat.le_refl _, ⟨_, 2000, cap, zs, Blk.new rfl, Nat.le_refl _, (CodeAt.cut (by omega) (.inr ⟨b, off, rfl, h4, h5, h6⟩)).below (Below.alloc (Below.refl _ _) (Nat.le_refl _) _) (Nat.le_refl _)⟩, by (exact grownA)⟩

end Go.Proofs.Ytedadhoneebfnaa
