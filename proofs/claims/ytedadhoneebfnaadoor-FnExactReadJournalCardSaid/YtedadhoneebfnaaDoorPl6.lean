/- Plain mathematics for the chapter on numbering plans: lengths and shares. No program in sight. -/
import Derived.WalkKit
set_option linter.unusedSimpArgs false
set_option linter.unusedVariables false
namespace Go.Proofs.YtedadhoneebfnaaDoor
open Go.RowKit

def lenB (z : Int) : Bool := decide (1 ≤ z) && decide (z ≤ 3)
theorem lenB_iff (z : Int) : lenB z = true ↔ 1 ≤ z ∧ z ≤ 3 := by simp [lenB]
/-- Valid lengths. -/
def lensB (zs : List Int) : Bool := decide (zs.length ≤ 10) && zs.all lenB
theorem all_step {α : Type} (p : α → Bool) (zs : List α) (k : Nat) (z : α) (h : zs[k]? = some z) : (zs.take (k + 1)).all p = ((zs.take k).all p && p z) := by
  simp [List.take_add_one, h]
theorem all_no {α : Type} (p : α → Bool) (zs : List α) (k : Nat) (z : α) (h : zs[k]? = some z) (hz : p z = false) : zs.all p = false := by
  rw [List.all_eq_false]
  exact ⟨z, List.mem_of_getElem? h, by simpa using hz⟩
theorem lensB_at {zs : List Int} (h : lensB zs = true) (k : Nat) (z : Int) (hz : zs[k]? = some z) : 1 ≤ z ∧ z ≤ 3 := by
  simp only [lensB, Bool.and_eq_true, List.all_eq_true] at h
  exact (lenB_iff z).1 (h.2 z (List.mem_of_getElem? hz))
theorem lensB_len {zs : List Int} (h : lensB zs = true) : zs.length ≤ 10 := by
  simp only [lensB, Bool.and_eq_true, decide_eq_true_eq] at h
  exact h.1

/-- How many numbers of three digits begin with one of this length. -/
def shareN (z : Int) : Nat := 4 ^ (3 - z).toNat
def shareTo (zs : List Int) (k : Nat) : Nat := ((zs.take k).map shareN).sum
def shareR (zs : List Int) : Int := if lensB zs then (shareTo zs zs.length : Nat) else -1
theorem shareN_small (z : Int) (h : 0 ≤ z) : 1 ≤ shareN z ∧ shareN z ≤ 64 := by
  unfold shareN
  have h1 : (3 - z).toNat ≤ 3 := by omega
  have h2 := Nat.pow_le_pow_right (n := 4) (by omega) h1
  exact ⟨Nat.pow_pos (by omega), h2⟩
theorem shareTo_step (zs : List Int) (k : Nat) (z : Int) (h : zs[k]? = some z) : shareTo zs (k + 1) = shareTo zs k + shareN z := by
  simp [shareTo, List.take_add_one, h]
theorem shareTo_small {zs : List Int} (h : lensB zs = true) : ∀ k, k ≤ zs.length → shareTo zs k ≤ 64 * k := by
  intro k
  induction k with
  | zero => intro _; simp [shareTo]
  | succ k ih =>
    intro hk
    obtain ⟨z, hz⟩ : ∃ z, zs[k]? = some z := ⟨_, List.getElem?_eq_getElem (by omega)⟩
    rw [shareTo_step zs k z hz]
    have h1 := ih (by omega)
    have h2 := (shareN_small z (by have := lensB_at h k z hz; omega)).2
    omega

theorem sum_set (xs : List Nat) : ∀ (k y z : Nat), xs[k]? = some z → (xs.set k y).sum + z = xs.sum + y := by
  induction xs with
  | nil => intro k y z h; simp at h
  | cons x xs ih =>
    intro k y z h
    cases k with
    | zero => simp at h; simp [h]; omega
    | succ k => simp at h; have := ih k y z h; simp; omega
theorem share_all (zs : List Int) : shareTo zs zs.length = (zs.map shareN).sum := by simp [shareTo]
theorem share_less (zs : List Int) (k : Nat) (z : Int) (hz : zs[k]? = some z) (h : lensB zs = true) (h2 : 2 ≤ z) : shareR zs < shareR (zs.set k (z - 1)) := by
  have hz3 := (lensB_at h k z hz).2
  have hv : lensB (zs.set k (z - 1)) = true := by
    have hk : k < zs.length := by
      rcases Nat.lt_or_ge k zs.length with h' | h'
      · exact h'
      · rw [List.getElem?_eq_none h'] at hz; cases hz
    simp only [lensB, Bool.and_eq_true, List.all_eq_true, decide_eq_true_eq, List.length_set] at h ⊢
    refine ⟨h.1, fun y hy => ?_⟩
    rcases List.mem_or_eq_of_mem_set hy with hy | rfl
    · exact h.2 y hy
    · exact (lenB_iff _).2 ⟨by omega, by omega⟩
  have e1 : (zs.set k (z - 1)).map shareN = (zs.map shareN).set k (shareN (z - 1)) := by rw [List.map_set]
  have e2 : (zs.map shareN)[k]? = some (shareN z) := by simp [hz]
  have e3 := sum_set (zs.map shareN) k (shareN (z - 1)) (shareN z) e2
  have e4 : shareN (z - 1) = 4 * shareN z := by
    unfold shareN
    rw [show (3 - (z - 1)).toNat = (3 - z).toNat + 1 from by omega, Nat.pow_succ]; omega
  have e5 := (shareN_small z (by omega)).1
  simp only [shareR, h, hv, if_true, share_all, e1]
  omega
theorem lens_take {zs : List Int} (m : Nat) (h : lensB zs = true) : lensB (zs.take m) = true := by
  simp only [lensB, Bool.and_eq_true, List.all_eq_true, decide_eq_true_eq] at h ⊢
  exact ⟨by rw [List.length_take]; omega, fun z hz => h.2 z (List.mem_of_mem_take hz)⟩
theorem lens_drop {zs : List Int} (m : Nat) (h : lensB zs = true) : lensB (zs.drop m) = true := by
  simp only [lensB, Bool.and_eq_true, List.all_eq_true, decide_eq_true_eq] at h ⊢
  exact ⟨by rw [List.length_drop]; omega, fun z hz => h.2 z (List.mem_of_mem_drop hz)⟩
theorem share_split (zs : List Int) (m : Nat) (h : lensB zs = true) : shareR (zs.take m) + shareR (zs.drop m) = shareR zs := by
  simp only [shareR, h, lens_take m h, lens_drop m h, if_true, share_all]
  conv => rhs; rw [← List.take_append_drop m zs, List.map_append, List.sum_append]
  omega
theorem shareR_bd (zs : List Int) : -1 ≤ shareR zs ∧ shareR zs ≤ 640 := by
  unfold shareR
  split
  · rename_i h
    have h1 := shareTo_small h zs.length (Nat.le_refl _)
    have h2 := lensB_len h
    omega
  · omega
theorem shareR_no {zs : List Int} (h : lensB zs = false) : shareR zs = -1 := by simp [shareR, h]
theorem shareR_yes {zs : List Int} (h : lensB zs = true) : 0 ≤ shareR zs := by simp [shareR, h]

end Go.Proofs.YtedadhoneebfnaaDoor
