/- Joined texts: Lw, En, Dt, Ia, Dx. -/
import Derived.Test.YtedadhoneebfnaaDoorJ11
import Derived.Test.YtedadhoneebfnaaDoorJ4
import Derived.Test.YtedadhoneebfnaaDoorJ6
import Derived.Test.YtedadhoneebfnaaDoorJ9
import Derived.Deep.DeepCutAuto
import Derived.Test.YtedadhoneebfnaaDoorJ3
import Derived.Test.YtedadhoneebfnaaDoorJ1
import Derived.Laws.IdiomStrings
import Derived.IntWalk
set_option linter.unusedSimpArgs false
set_option linter.unusedVariables false
/- What the laws on exchanges keep in memory: results in boxes, and marks that hit nothing else. No program in sight. -/
namespace Go.Proofs.YtedadhoneebfnaaDoor
open Go.RowKit

section
variable {W0 W W' : World} {b B : Nat} {O E M : Int} {vq vr : Value} {ps : List ByteArray} {cs : List Cl}
end
/-- All of it lies below, above a line. -/
def Lo (v : Value) (B : Nat) : Prop := ∀ k, v.ownBlock = some k → k < B
def Hi (v : Value) (B : Nat) : Prop := ∀ k, v.ownBlock = some k → B ≤ k
theorem Lo.mono {v : Value} {B B' : Nat} (h : Lo v B) (hb : B ≤ B') : Lo v B' := fun k hk => Nat.lt_of_lt_of_le (h k hk) hb
theorem Hi.mono {v : Value} {B B' : Nat} (h : Hi v B) (hb : B' ≤ B) : Hi v B' := fun k hk => Nat.le_trans hb (h k hk)
theorem Lo.of {w : World} {base n : Nat} {E : TypeId} {size : Nat} {v : Value} {xs : List Value} (h : w.ownsRow base E size v n xs) : Lo v w.heap.size := own_lt h
theorem Hi.of {w : World} {base n : Nat} {E : TypeId} {size : Nat} {v : Value} {xs : List Value} (h : w.ownsRow base E size v n xs) : Hi v base := own_ge h
theorem Lo.apart {v u : Value} {B : Nat} (h : Lo v B) (h' : Hi u B) : v.ownBlock = none ∨ v.ownBlock ≠ u.ownBlock := by
 cases hv : v.ownBlock with
 | none => exact .inl rfl
 | some k => exact .inr (fun e => by have h1 := h k hv; have h2 := h' k e.symm; omega)
theorem Hi.apart {v u : Value} {B : Nat} (h : Hi v B) (h' : Lo u B) : v.ownBlock = none ∨ v.ownBlock ≠ u.ownBlock := by
 cases hv : v.ownBlock with
 | none => exact .inl rfl
 | some k => exact .inr (fun e => by have h1 := h k hv; have h2 := h' k e.symm; omega)
theorem ap_ne {v : Value} {b : Nat} (h : v.ownBlock = none ∨ v.ownBlock ≠ some b) : some b ≠ v.ownBlock := fun e => by
 rcases h with h | h
 ·
  rw [h] at e; cases e
 ·
  exact h e.symm
section
variable {w w' : World} {r1 r2 : Option Nat}
end
/-- What a deed leaves, as one value. -/
noncomputable def doR (O E M : Int) (ps : List ByteArray) (cs : List Cl) (k l : Int) (s : ByteArray) : (Int × Int × Int) × (List ByteArray × List Cl) × Bool :=
 if exB O E M ps cs = true then (match doL E M ps cs k l s with
  | some y => ((O, E, M), y, true)
  | none => ((O, E, M), (ps, cs), false)) else ((0, 0, 0), ([], []), false)
/-- What is handed back: an exchange and something beside it. -/
def ExR (O E M : Int) (ps : List ByteArray) (cs : List Cl) (x : Value) (w : World) (e : Ending) (w' : World) : Prop :=
 ∃ vp vc, e = .returned (.tuple #[.agg #[.int .i64 O, .int .i64 E, .int .i64 M, vp, vc], x]) ∧ ExOwn w' w.heap.size vp vc ps cs ∧ Below w.heap.size w w'
theorem doXQ_res {O E M : Int} {ps : List ByteArray} {cs : List Cl} {k l : Int} {s : ByteArray} {w : World} {e : Ending} {w' : World} (h : doXQ O E M ps cs k l s w e w') :
  ExR (doR O E M ps cs k l s).1.1 (doR O E M ps cs k l s).1.2.1 (doR O E M ps cs k l s).1.2.2 (doR O E M ps cs k l s).2.1.1 (doR O E M ps cs k l s).2.1.2 (.bool (doR O E M ps cs k l s).2.2) w e w' := by
 unfold doXQ at h
 unfold doR
 split at h
 ·
  rename_i hx
  rw [if_pos hx]
  cases hr : doL E M ps cs k l s with
  | none => rw [hr] at h; exact h
  | some y => rw [hr] at h; exact h
 ·
  rename_i hx
  rw [if_neg hx]
  exact h
theorem RunPost.res {r : (Int × Int × Int) × (List ByteArray × List Cl) × Nat} {w : World} {e : Ending} {w' : World} (h : RunPost r w e w') : ExR r.1.1 r.1.2.1 r.1.2.2 r.2.1.1 r.2.1.2 (.int .i64 r.2.2) w e w' := h
end Go.Proofs.YtedadhoneebfnaaDoor

/- Contracts of ExchangeNew (program and reference). -/
namespace Go.Proofs.YtedadhoneebfnaaDoor
open Go.RowKit

theorem own_len8 {w : World} {base n : Nat} {E : TypeId} {size : Nat} {v : Value} {xs : List Value} (h : w.ownsRow base E size v n xs) : ∃ a c, v = .slice a n c := by
 rcases h.2 with ⟨rfl, rfl⟩ | ⟨g, cap, cur, rfl, _⟩
 ·
  exact ⟨_, _, rfl⟩
 ·
  exact ⟨_, _, rfl⟩
noncomputable def newE (O E M : Int) (ps : List ByteArray) : Int × Int × Int × List ByteArray := if exB O E M ps [] = true then (O, E, M, ps) else (0, 0, 0, [])
def NewPost (O E M : Int) (ps : List ByteArray) (w : World) (e : Ending) (w' : World) : Prop :=
 ∃ vp vc, e = .returned (.agg #[.int .i64 (newE O E M ps).1, .int .i64 (newE O E M ps).2.1, .int .i64 (newE O E M ps).2.2.1, vp, vc]) ∧ ExOwn w' w.heap.size vp vc (newE O E M ps).2.2.2 [] ∧ Below w.heap.size w w'

end Go.Proofs.YtedadhoneebfnaaDoor

/- Texts of deeds: contracts of DeedText (program and reference) and what they call. -/
namespace Go.Proofs.YtedadhoneebfnaaDoor
open Go.RowKit

def dg (n : Nat) : UInt8 := UInt8.ofNat (48 + n)
theorem dg_nat (n : Nat) (h : n ≤ 9) : ((dg n).toNat : Int) = 48 + (n : Int) := by unfold dg; simp; omega
/-- A number of at most two digits. -/
def two (n : Nat) : ByteArray := if n < 10 then ⟨#[dg n]⟩ else ⟨#[dg (n / 10)]⟩ ++ ⟨#[dg (n % 10)]⟩
theorem two_size (n : Nat) : (two n).size ≤ 2 := by
 unfold two
 split
 ·
  show (1 : Nat) ≤ 2; omega
 ·
  rw [ByteArray.size_append]; show (1 : Nat) + 1 ≤ 2; omega

set_option maxRecDepth 100000 in
set_option maxHeartbeats 1000000 in
theorem num1 (n : Nat) (w : World) (h : n < 10) :
  Calls Tryd.prog 32 #[.int .i64 n] w fun e w' => e = .returned (.string ⟨#[dg n]⟩) ∧ Below w.heap.size w w' := by
 have hc := dg_nat n (by omega)
 have hcv : (convert 43 9 (.slice (some ⟨w.heap.size, 0, none⟩) 1 1)).run Tryd.prog (w.alloc (.cells #[.int .u8 (48 + (n : Int))] 5)) = .ok (.string ⟨#[dg n]⟩) (w.alloc (.cells #[.int .u8 (48 + (n : Int))] 5)) :=
  run_convert_bytes_back _ _ _ 5 _ 1 [dg n] Tryd.underlying43 Tryd.underlying5 Tryd.underlying9 (by intro i hi; simp at hi; subst hi; rw [Addr.add_spot, World.cell?_alloc_at _ _ _ _ rfl]; simp [hc])
 have h1 : ¬ (n : Int) < 0 := by omega
 clear hc
 go_enter Tryd.func32, Tryd.ntmps32
 go_wp2
 go_returns
 exact ⟨rfl, by (exact grownA)⟩


set_option maxRecDepth 100000 in
set_option maxHeartbeats 1000000 in
theorem l1Number_any (n : Nat) (w : World) (h : n ≤ 99) :
  Calls Tryd.prog 32 #[.int .i64 n] w fun e w' => e = .returned (.string (two n)) ∧ Below w.heap.size w w' := by
 by_cases hn : n < 10
 ·
  have : two n = ⟨#[dg n]⟩ := by unfold two; rw [if_pos hn]
  rw [this]
  exact num1 n w hn
 ·
  have HT : Hid (two n = ⟨#[dg (n / 10)]⟩ ++ ⟨#[dg (n % 10)]⟩) := by unfold Hid two; rw [if_neg hn]
  have hc := dg_nat (n % 10) (by omega)
  have h1 : ¬ (n : Int) < 0 := by omega
  have h2 : ¬ (n : Int) < 10 := by omega
  have h3 : (n : Int) / 10 = ((n / 10 : Nat) : Int) := by omega
  have H3 := Lib.hid h3
  have hs1 : IntKind.i64.wrap ((n : Int) / 10) = (n : Int) / 10 := IntWalk.i64_in _ (by omega)
  have hs2 : IntKind.i64.wrap ((n : Int) % 10) = (n : Int) % 10 := IntWalk.i64_in _ (by omega)
  have hs4 : Int.tmod (n : Int) 10 = (n : Int) % 10 := Int.tmod_eq_emod_of_nonneg (by omega)
  have hs5 : IntKind.u8.wrap (48 + (n : Int) % 10) = 48 + (n : Int) % 10 := by rw [show (48 + (n : Int) % 10) = ((48 + n % 10 : Nat) : Int) by omega]; exact IntWalk.u8_in _ (by omega)
  have hs3 : IntKind.i64.wrap (48 + (n : Int) % 10) = 48 + (n : Int) % 10 := IntWalk.i64_in _ (by omega)
  have HCV : Hid (∀ (W : World) (b : Nat), W.cell? ⟨b, 0, none⟩ = some (.int .u8 (48 + (n : Int) % 10)) → (convert 43 9 (.slice (some ⟨b, 0, none⟩) 1 1)).run Tryd.prog W = .ok (.string ⟨#[dg (n % 10)]⟩) W) := fun W b hb =>
   run_convert_bytes_back _ _ _ 5 _ 1 [dg (n % 10)] Tryd.underlying43 Tryd.underlying5 Tryd.underlying9 (by intro i hi; simp at hi; subst hi; rw [Addr.add_spot, hb]; simp [hc])
  have KN : Hid (∀ W : World, Calls Tryd.prog 32 #[.int .i64 ((n : Int) / 10)] W fun e w' => e = .returned (.string ⟨#[dg (n / 10)]⟩) ∧ Below W.heap.size W w') := fun W => by rw [h3]; exact num1 (n / 10) W (by omega)
  clear hc h3
  go_enter Tryd.func32, Tryd.ntmps32
  go_wp2_with fail
  refine wp_region_held_drew (S := fun _ => True) (by kernel_rfl) trivial (fun hHeld => ?_)
  refine take_y 0 24 (v := ?_) rfl ?_ ?_; rotate_left; focus (intro w hSw; (try dsimp only at hSw); go_simp; (try rw [if_neg (by omega)]); (try with_reducible rfl))
  try simp only [Act.put, zp1, zp2, zp3]
  refine take_y 1 25 (v := ?_) rfl ?_ ?_; rotate_left; focus (intro w hSw; (try dsimp only at hSw); go_simp; (try rw [if_neg (by omega)]); (try with_reducible rfl))
  try simp only [Act.put, zp1, zp2, zp3]
  refine take_y 3 27 (v := ?_) rfl ?_ ?_; rotate_left; focus (intro w hSw; (try dsimp only at hSw); go_simp; (try rw [if_neg (by omega)]); (try with_reducible rfl))
  try simp only [Act.put, zp1, zp2, zp3]
  refine take_y 4 28 (v := ?_) rfl ?_ ?_; rotate_left; focus (intro w hSw; (try dsimp only at hSw); go_simp; (try rw [if_neg (by omega)]); (try with_reducible rfl))
  try simp only [Act.put, zp1, zp2, zp3]
  refine take_y 5 29 (v := ?_) rfl ?_ ?_; rotate_left; focus (intro w hSw; (try dsimp only at hSw); go_simp; (try rw [if_neg (by omega)]); (try with_reducible rfl))
  try simp only [Act.put, zp1, zp2, zp3]
  refine take_y 6 30 (v := ?_) rfl ?_ ?_; rotate_left; focus (intro w hSw; (try dsimp only at hSw); go_simp; (try rw [if_neg (by omega)]); (try with_reducible rfl))
  try simp only [Act.put, zp1, zp2, zp3]
  refine wpAnyH_ready (rs := [2, 7]) (by kernel_rfl) (by simp) ?_
  refine AllReadyH.cons rfl (fun K hK => ?_) (AllReadyH.cons rfl (fun K hK => ?_) AllReadyH.nil)
  ·
   go_simp
   refine (KN.out _).mono ?_
   rintro e w2 ⟨rfl, hb2⟩
   refine hK.out _ _ trivial (fun hHeld2 => ?_)
   clear hHeld hK K; have hHeld := hHeld2; clear hHeld2; try simp only [Act.put, zp1, zp2, zp3]
   have hbel2 : Below w.heap.size w w2 := by (exact grownA)
   clear hb2
   refine wpAnyH_ready (rs := [7]) (by kernel_rfl) (by simp) ?_
   refine AllReadyH.cons rfl (fun K hK => ?_) AllReadyH.nil
   go_simp
   refine hK.out _ _ trivial (fun hHeld2 => ?_)
   clear hHeld hK K; have hHeld := hHeld2; clear hHeld2; try simp only [Act.put, zp1, zp2, zp3]
   have hcv := HCV.out (w2.alloc (.cells #[.int .u8 (48 + (n : Int) % 10)] 5)) w2.heap.size (by simp [go_sem])
   refine wpAnyH_ready (rs := [8]) (by kernel_rfl) (by simp) ?_
   refine AllReadyH.cons rfl (fun K hK => ?_) AllReadyH.nil
   go_simp
   refine hK.out _ _ trivial (fun hHeld2 => ?_)
   clear hHeld hK K; have hHeld := hHeld2; clear hHeld2; try simp only [Act.put, zp1, zp2, zp3]
   refine take_y 9 33 (v := ?_) rfl ?_ ?_; rotate_left; focus (intro w hSw; (try dsimp only at hSw); go_simp; (try rw [if_neg (by omega)]); (try with_reducible rfl))
   try simp only [Act.put, zp1, zp2, zp3]
   refine take_y 10 2 (v := ?_) rfl ?_ ?_; rotate_left; focus (intro w hSw; (try dsimp only at hSw); go_simp; (try rw [if_neg (by omega)]); (try with_reducible rfl))
   try simp only [Act.put, zp1, zp2, zp3]
   refine wpAnyH_done (by kernel_rfl) ?_ _
   clear hHeld
   go_wp2
   go_returns
   exact ⟨by rw [HT.out]; rfl, by (exact grownA)⟩
  ·
   go_simp
   refine hK.out _ _ trivial (fun hHeld2 => ?_)
   clear hHeld hK K; have hHeld := hHeld2; clear hHeld2; try simp only [Act.put, zp1, zp2, zp3]
   have hcell : (w.alloc (.cells #[.int .u8 (48 + (n : Int) % 10)] 5)).drew.cell? ⟨w.heap.size, 0, none⟩ = some (.int .u8 (48 + (n : Int) % 10)) := by simp [go_sem]
   have hbel1 : Below w.heap.size w (w.alloc (.cells #[.int .u8 (48 + (n : Int) % 10)] 5)).drew := by (exact grownA)
   refine wpAnyH_ready (rs := [2, 8]) (by kernel_rfl) (by simp) ?_
   refine AllReadyH.cons rfl (fun K hK => ?_) (AllReadyH.cons rfl (fun K hK => ?_) AllReadyH.nil)
   ·
    go_simp
    refine (KN.out _).mono ?_
    rintro e w2 ⟨rfl, hb2⟩
    refine hK.out _ _ trivial (fun hHeld2 => ?_)
    clear hHeld hK K; have hHeld := hHeld2; clear hHeld2; try simp only [Act.put, zp1, zp2, zp3]
    have hcv := HCV.out w2 w.heap.size (keep_below hb2 hcell)
    have hbel2 : Below w.heap.size w w2 := hbel1.trans (Below.mono hb2 hbel1.size)
    clear hb2
    refine wpAnyH_ready (rs := [8]) (by kernel_rfl) (by simp) ?_
    refine AllReadyH.cons rfl (fun K hK => ?_) AllReadyH.nil
    go_simp
    refine hK.out _ _ trivial (fun hHeld2 => ?_)
    clear hHeld hK K; have hHeld := hHeld2; clear hHeld2; try simp only [Act.put, zp1, zp2, zp3]
    refine take_y 9 33 (v := ?_) rfl ?_ ?_; rotate_left; focus (intro w hSw; (try dsimp only at hSw); go_simp; (try rw [if_neg (by omega)]); (try with_reducible rfl))
    try simp only [Act.put, zp1, zp2, zp3]
    refine take_y 10 2 (v := ?_) rfl ?_ ?_; rotate_left; focus (intro w hSw; (try dsimp only at hSw); go_simp; (try rw [if_neg (by omega)]); (try with_reducible rfl))
    try simp only [Act.put, zp1, zp2, zp3]
    refine wpAnyH_done (by kernel_rfl) ?_ _
    clear hHeld
    go_wp2
    go_returns
    exact ⟨by rw [HT.out]; rfl, hbel2⟩
   ·
    have hcv := HCV.out (w.alloc (.cells #[.int .u8 (48 + (n : Int) % 10)] 5)).drew w.heap.size hcell
    go_simp
    refine hK.out _ _ trivial (fun hHeld2 => ?_)
    clear hHeld hK K; have hHeld := hHeld2; clear hHeld2; try simp only [Act.put, zp1, zp2, zp3]
    refine wpAnyH_ready (rs := [2]) (by kernel_rfl) (by simp) ?_
    refine AllReadyH.cons rfl (fun K hK => ?_) AllReadyH.nil
    go_simp
    refine (KN.out _).mono ?_
    rintro e w2 ⟨rfl, hb2⟩
    refine hK.out _ _ trivial (fun hHeld2 => ?_)
    clear hHeld hK K; have hHeld := hHeld2; clear hHeld2; try simp only [Act.put, zp1, zp2, zp3]
    have hbel2 : Below w.heap.size w w2 := hbel1.trans (Below.mono hb2 hbel1.size)
    clear hb2
    refine take_y 9 33 (v := ?_) rfl ?_ ?_; rotate_left; focus (intro w hSw; (try dsimp only at hSw); go_simp; (try rw [if_neg (by omega)]); (try with_reducible rfl))
    try simp only [Act.put, zp1, zp2, zp3]
    refine take_y 10 2 (v := ?_) rfl ?_ ?_; rotate_left; focus (intro w hSw; (try dsimp only at hSw); go_simp; (try rw [if_neg (by omega)]); (try with_reducible rfl))
    try simp only [Act.put, zp1, zp2, zp3]
    refine wpAnyH_done (by kernel_rfl) ?_ _
    clear hHeld
    go_wp2
    go_returns
    exact ⟨by rw [HT.out]; rfl, hbel2⟩

end Go.Proofs.YtedadhoneebfnaaDoor

/- Contract of strconv.Itoa for 0 to 99. -/
namespace Go.Proofs.YtedadhoneebfnaaDoor
open Go.RowKit

theorem ret_str {a b : ByteArray} (h : a = b) : Ending.returned (.string a) = .returned (.string b) := by rw [h]
set_option maxRecDepth 100000 in
theorem digs_cut : ∀ n, n < 10 → (⟨#[48, 49, 50, 51, 52, 53, 54, 55, 56, 57, 97, 98, 99, 100, 101, 102, 103, 104, 105, 106, 107, 108, 109, 110, 111, 112, 113, 114, 115, 116, 117, 118, 119, 120, 121, 122]⟩ : ByteArray).extract n (n + 1) = two n := by decide +kernel
set_option maxRecDepth 100000 in
theorem small_cut : ∀ n, n < 100 → 10 ≤ n → (⟨#[48, 48, 48, 49, 48, 50, 48, 51, 48, 52, 48, 53, 48, 54, 48, 55, 48, 56, 48, 57, 49, 48, 49, 49, 49, 50, 49, 51, 49, 52, 49, 53, 49, 54, 49, 55, 49, 56, 49, 57, 50, 48, 50, 49, 50, 50, 50, 51, 50, 52, 50, 53, 50, 54, 50, 55, 50, 56, 50, 57, 51, 48, 51, 49, 51, 50, 51, 51, 51, 52, 51, 53, 51, 54, 51, 55, 51, 56, 51, 57, 52, 48, 52, 49, 52, 50, 52, 51, 52, 52, 52, 53, 52, 54, 52, 55, 52, 56, 52, 57, 53, 48, 53, 49, 53, 50, 53, 51, 53, 52, 53, 53, 53, 54, 53, 55, 53, 56, 53, 57, 54, 48, 54, 49, 54, 50, 54, 51, 54, 52, 54, 53, 54, 54, 54, 55, 54, 56, 54, 57, 55, 48, 55, 49, 55, 50, 55, 51, 55, 52, 55, 53, 55, 54, 55, 55, 55, 56, 55, 57, 56, 48, 56, 49, 56, 50, 56, 51, 56, 52, 56, 53, 56, 54, 56, 55, 56, 56, 56, 57, 57, 48, 57, 49, 57, 50, 57, 51, 57, 52, 57, 53, 57, 54, 57, 55, 57, 56, 57, 57]⟩ : ByteArray).extract (n * 2) (n * 2 + 2) = two n := by decide +kernel

set_option maxRecDepth 100000 in
set_option maxHeartbeats 1000000 in
theorem small_any (n : Nat) (w : World) (h : n ≤ 99) :
  Calls Tryd.prog 76 #[.int .i64 n] w fun e w' => e = .returned (.string (two n)) ∧ w = w' := by
 by_cases hn : n < 10
 ·
  go_enter Tryd.func76, Tryd.ntmps76
  go_wp2
  go_returns
  exact ⟨ret_str (digs_cut n hn), rfl⟩
 ·
  have h2 : ¬ (n : Int) < 10 := by omega
  go_enter Tryd.func76, Tryd.ntmps76
  go_wp2
  go_returns
  exact ⟨ret_str (small_cut n (by omega) (by omega)), rfl⟩

set_option maxRecDepth 100000 in
set_option maxHeartbeats 1000000 in
theorem itoa_any (n : Nat) (w : World) (h : n ≤ 99) :
  Calls Tryd.prog 34 #[.int .i64 n] w fun e w' => e = .returned (.string (two n)) ∧ w = w' := by
 have K2 : Hid (∀ w : World, Calls Tryd.prog 62 #[.int .i64 n, .int .i64 10] w fun e w' => e = .returned (.string (two n)) ∧ w = w') := by
  intro w
  have h3 : (0 : Int) ≤ (n : Int) := by omega
  have h4 : (n : Int) < 100 := by omega
  go_enter Tryd.func62, Tryd.ntmps62
  go_wp2_with fail
  refine (small_any n _ h).mono ?_
  rintro e w1 ⟨rfl, rfl⟩
  go_wp2
  go_returns
  exact ⟨rfl, rfl⟩
 have K1 : Hid (∀ w : World, Calls Tryd.prog 52 #[.int .i64 n] w fun e w' => e = .returned (.string (two n)) ∧ w = w') := by
  intro w
  go_enter Tryd.func52, Tryd.ntmps52
  go_wp2_with fail
  refine (K2.out _).mono ?_
  rintro e w1 ⟨rfl, rfl⟩
  go_wp2
  go_returns
  exact ⟨rfl, rfl⟩
 go_enter Tryd.func34, Tryd.ntmps34
 go_wp2_with fail
 first
  | refine (K1.out _).mono ?_
  | refine (K2.out _).mono ?_
 rintro e w1 ⟨rfl, rfl⟩
 go_wp2
 go_returns
 exact ⟨rfl, rfl⟩

end Go.Proofs.YtedadhoneebfnaaDoor

/- Contracts of DeedText (program and reference). -/
namespace Go.Proofs.YtedadhoneebfnaaDoor
open Go.RowKit

def numD (s : ByteArray) : Bool := (decide (1 ≤ s.size) && decide (s.size ≤ 3)) && digsB s
/-- The text of a deed; none if there is none. -/
def dtxt (k l : Int) (s : ByteArray) : ByteArray :=
 if l < 0 ∨ 99 < l then ByteArray.empty
 else if k = 1 then (if s.size = 0 then ⟨#[100, 114, 111, 112, 32]⟩ ++ two l.toNat else ByteArray.empty)
 else if numD s = false then ByteArray.empty
 else if k = 0 then ((⟨#[99, 97, 108, 108, 32]⟩ ++ two l.toNat) ++ ⟨#[32]⟩) ++ s
 else if k = 2 then ((⟨#[110, 117, 109, 98, 101, 114, 32]⟩ ++ two l.toNat) ++ ⟨#[32]⟩) ++ s
 else ByteArray.empty
theorem dtxt_far {k l : Int} {s : ByteArray} (h : l < 0 ∨ 99 < l) : dtxt k l s = ByteArray.empty := by unfold dtxt; rw [if_pos h]
theorem dtxt_in {k : Int} {n : Nat} {s : ByteArray} (h : n ≤ 99) : dtxt k n s = if k = 1 then (if s.size = 0 then ⟨#[100, 114, 111, 112, 32]⟩ ++ two n else ByteArray.empty)
 else if numD s = false then ByteArray.empty
 else if k = 0 then ((⟨#[99, 97, 108, 108, 32]⟩ ++ two n) ++ ⟨#[32]⟩) ++ s
 else if k = 2 then ((⟨#[110, 117, 109, 98, 101, 114, 32]⟩ ++ two n) ++ ⟨#[32]⟩) ++ s
 else ByteArray.empty := by unfold dtxt; rw [if_neg (by omega)]; rfl
theorem empty_of {s : ByteArray} (h : s.size = 0) : s = ByteArray.empty := by
 apply bytes_ext
 have : s.data.toList.length = 0 := by simpa using h
 rw [List.length_eq_zero_iff.1 this]; rfl
theorem some_of {s : ByteArray} (h : ¬ s.size = 0) : s.toList ≠ [] ∧ s.toList.isEmpty = false := by
 have h1 : s.toList ≠ [] := by
  intro e
  rw [ByteArray.toList_eq] at e
  exact h (by have := congrArg List.length e; simpa using this)
 exact ⟨h1, by cases hh : s.toList with | nil => exact absurd hh h1 | cons => rfl⟩

set_option maxRecDepth 100000 in
set_option maxHeartbeats 1000000 in
theorem iDeedText_any (k l : Int) (s : ByteArray) (w : World) (hs : s.size ≤ maxLen) :
  Calls Tryd.prog 13 #[.agg #[.int .i64 k, .int .i64 l, .string s]] w fun e w' => e = .returned (.string (dtxt k l s)) ∧ Below w.heap.size w w' := by
 by_cases h0 : l < 0
 ·
  have HF := Lib.hid (dtxt_far (k := k) (s := s) (.inl h0))
  go_enter Tryd.func13, Tryd.ntmps13
  go_wp2
  go_returns
  exact ⟨by rw [HF.out]; rfl, by (exact grownA)⟩
 by_cases h9 : 99 < l
 ·
  have HF := Lib.hid (dtxt_far (k := k) (s := s) (.inr h9))
  go_enter Tryd.func13, Tryd.ntmps13
  go_wp2
  go_returns
  exact ⟨by rw [HF.out]; rfl, by (exact grownA)⟩
 obtain ⟨n, rfl⟩ := Int.eq_ofNat_of_zero_le (show 0 ≤ l by omega)
 have hn : n ≤ 99 := by omega
 have HT := Lib.hid (dtxt_in (k := k) (s := s) hn)
 have ht2 : (two n).size ≤ 2 := two_size n
 have hs' := hs
 unfold maxLen at hs
 have hbel : Below w.heap.size w (w.alloc (.cells #[.int .i64 k, .int .i64 (n : Nat), .string s] 26)) := by (exact grownA)
 have hB := Blk.new (w := w) (cs := #[.int .i64 k, .int .i64 (n : Nat), .string s]) (T := 26) rfl
 obtain ⟨t1, t2, t3, _, _, _, tlt⟩ := hB.three
 by_cases hk1 : k = 1
 ·
  by_cases hz : s.size = 0
  ·
   have HV : Hid (dtxt k n s = ⟨#[100, 114, 111, 112, 32]⟩ ++ two n) := by unfold Hid; rw [HT.out, if_pos hk1, if_pos hz]
   clear HT
   obtain rfl := empty_of hz
   rw [show (ByteArray.empty : ByteArray) = ⟨#[]⟩ from rfl] at *
   subst hk1
   clear hz
   go_enter Tryd.func13, Tryd.ntmps13
   go_wp2_with fail
   refine (itoa_any n _ hn).mono ?_
   rintro e w1 ⟨rfl, rfl⟩
   go_wp2
   go_returns
   exact ⟨by rw [HV.out]; rfl, hbel⟩
  ·
   have HV : Hid (dtxt k n s = ByteArray.empty) := by unfold Hid; rw [HT.out, if_pos hk1, if_neg hz]
   clear HT
   obtain ⟨hz1, hz2⟩ := some_of hz
   subst hk1
   clear hz
   go_enter Tryd.func13, Tryd.ntmps13
   go_wp2_with fail
   refine (itoa_any n _ hn).mono ?_
   rintro e w1 ⟨rfl, rfl⟩
   go_wp2
   go_returns
   exact ⟨by rw [HV.out]; rfl, hbel⟩
 ·
  have hq1 : ((k : Int) == 1) = false := by simpa using hk1
  by_cases h1 : s.size < 1
  ·
   have HF : Hid (dtxt k n s = ByteArray.empty) := by
    unfold Hid
    rw [HT.out, if_neg hk1, if_pos]
    simp [numD]; intro h; omega
   clear HT hk1
   go_enter Tryd.func13, Tryd.ntmps13
   go_wp2_with fail
   refine (itoa_any n _ hn).mono ?_
   rintro e w1 ⟨rfl, rfl⟩
   go_wp2
   go_returns
   exact ⟨by rw [HF.out]; rfl, hbel⟩
  by_cases h3 : 3 < s.size
  ·
   have HF : Hid (dtxt k n s = ByteArray.empty) := by
    unfold Hid
    rw [HT.out, if_neg hk1, if_pos]
    simp [numD]; intro h h'; omega
   clear HT hk1
   go_enter Tryd.func13, Tryd.ntmps13
   go_wp2_with fail
   refine (itoa_any n _ hn).mono ?_
   rintro e w1 ⟨rfl, rfl⟩
   go_wp2
   go_returns
   exact ⟨by rw [HF.out]; rfl, hbel⟩
  obtain ⟨d, hd⟩ : ∃ d, digsB s = d := ⟨_, rfl⟩
  have HD : numD s = d := by
   have e1 : 1 ≤ s.size := by omega
   have e3 : s.size ≤ 3 := by omega
   simp [numD, hd, e1, e3]
  have hs3 : s.size ≤ 3 := by omega
  have HN : Hid (d = false → dtxt k n s = ByteArray.empty) := by
   unfold Hid; rintro rfl; rw [HT.out, if_neg hk1, if_pos HD]
  have H0 : Hid (d = true → k = 0 → dtxt k n s = ((⟨#[99, 97, 108, 108, 32]⟩ ++ two n) ++ ⟨#[32]⟩) ++ s) := by
   unfold Hid; rintro rfl h; rw [HT.out, if_neg hk1, if_neg (by rw [HD]; simp), if_pos h]
  have H2 : Hid (d = true → k = 2 → dtxt k n s = ((⟨#[110, 117, 109, 98, 101, 114, 32]⟩ ++ two n) ++ ⟨#[32]⟩) ++ s) := by
   unfold Hid; rintro rfl h; rw [HT.out, if_neg hk1, if_neg (by rw [HD]; simp), if_neg (by omega), if_pos h]
  have HE : Hid (d = true → k ≠ 0 → k ≠ 2 → dtxt k n s = ByteArray.empty) := by
   unfold Hid; rintro rfl h h'; rw [HT.out, if_neg hk1, if_neg (by rw [HD]; simp), if_neg h, if_neg h']
  have HDD := Lib.hid hd
  clear hd HD hk1 HT
  by_cases hk0 : k = 0
  ·
   have H0' : Hid (d = true → dtxt k n s = ((⟨#[99, 97, 108, 108, 32]⟩ ++ two n) ++ ⟨#[32]⟩) ++ s) := fun h => H0.out h hk0
   clear H0 H2 HE
   subst hk0
   clear hq1
   go_enter Tryd.func13, Tryd.ntmps13
   go_wp2_with fail
   refine (itoa_any n _ hn).mono ?_
   rintro e w1 ⟨rfl, rfl⟩
   go_wp2_with fail
   refine (iDigitsOk_any s _ hs').mono ?_
   rintro e w1 ⟨rfl, rfl⟩
   rw [HDD.out]
   cases d
   ·
    have HV := Lib.hid (HN.out rfl)
    clear HN H0'
    go_wp2
    go_returns
    exact ⟨by rw [HV.out]; rfl, hbel⟩
   ·
    have HV := Lib.hid (H0'.out rfl)
    clear HN H0'
    go_wp2
    go_returns
    exact ⟨by rw [HV.out]; rfl, hbel⟩
  ·
   have hq0 : ((k : Int) == 0) = false := by simpa using hk0
   by_cases hk2 : k = 2
   ·
    have H2' : Hid (d = true → dtxt k n s = ((⟨#[110, 117, 109, 98, 101, 114, 32]⟩ ++ two n) ++ ⟨#[32]⟩) ++ s) := fun h => H2.out h hk2
    clear H0 H2 HE hk0
    subst hk2
    clear hq1 hq0
    go_enter Tryd.func13, Tryd.ntmps13
    go_wp2_with fail
    refine (itoa_any n _ hn).mono ?_
    rintro e w1 ⟨rfl, rfl⟩
    go_wp2_with fail
    refine (iDigitsOk_any s _ hs').mono ?_
    rintro e w1 ⟨rfl, rfl⟩
    rw [HDD.out]
    cases d
    ·
     have HV := Lib.hid (HN.out rfl)
     clear HN H2'
     go_wp2
     go_returns
     exact ⟨by rw [HV.out]; rfl, hbel⟩
    ·
     have HV := Lib.hid (H2'.out rfl)
     clear HN H2'
     go_wp2
     go_returns
     exact ⟨by rw [HV.out]; rfl, hbel⟩
   ·
    have hq2 : ((k : Int) == 2) = false := by simpa using hk2
    have HE' : Hid (d = true → dtxt k n s = ByteArray.empty) := fun h => HE.out h hk0 hk2
    clear H0 H2 HE hk0 hk2
    go_enter Tryd.func13, Tryd.ntmps13
    go_wp2_with fail
    refine (itoa_any n _ hn).mono ?_
    rintro e w1 ⟨rfl, rfl⟩
    go_wp2_with fail
    refine (iDigitsOk_any s _ hs').mono ?_
    rintro e w1 ⟨rfl, rfl⟩
    rw [HDD.out]
    cases d
    ·
     have HV := Lib.hid (HN.out rfl)
     clear HN HE'
     go_wp2
     go_returns
     exact ⟨by rw [HV.out]; rfl, hbel⟩
    ·
     have HV := Lib.hid (HE'.out rfl)
     clear HN HE'
     go_wp2
     go_returns
     exact ⟨by rw [HV.out]; rfl, hbel⟩

end Go.Proofs.YtedadhoneebfnaaDoor
