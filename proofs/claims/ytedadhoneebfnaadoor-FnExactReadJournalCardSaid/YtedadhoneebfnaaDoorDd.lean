/- Lists of deeds: their cells. -/
import Derived.Test.YtedadhoneebfnaaDoorLib
set_option linter.unusedSimpArgs false
set_option linter.unusedVariables false
namespace Go.Proofs.YtedadhoneebfnaaDoor
open Go.RowKit

/-- A deed: kind, line, number. -/
abbrev Ded := Int × Int × ByteArray
def dcells (ds : List Ded) : List Value := ds.flatMap fun d => [.int .i64 d.1, .int .i64 d.2.1, .string d.2.2]
theorem dcells_len (ds : List Ded) : (dcells ds).length = ds.length * 3 := by
  induction ds with
  | nil => rfl
  | cons r rs ih => simp only [dcells, List.flatMap_cons, List.length_append] at ih ⊢; simp [ih]; omega
theorem dcells_at (ds : List Ded) : ∀ (k : Nat) (d : Ded), ds[k]? = some d → (dcells ds)[k * 3]? = some (.int .i64 d.1) ∧ (dcells ds)[k * 3 + 1]? = some (.int .i64 d.2.1) ∧ (dcells ds)[k * 3 + 2]? = some (.string d.2.2) := by
  induction ds with
  | nil => intro k r h; simp at h
  | cons x rs ih =>
    intro k r h
    cases k with
    | zero => simp at h; subst h; simp [dcells]
    | succ k =>
      have h' : rs[k]? = some r := by simpa using h
      have := ih k r h'
      rw [show (k + 1) * 3 = k * 3 + 3 by omega]
      simpa [dcells, List.flatMap_cons] using this
theorem dcells_app (xs ys : List Ded) : dcells (xs ++ ys) = dcells xs ++ dcells ys := by simp [dcells, List.flatMap_append]
theorem dcells_one (ds : List Ded) : ∀ u ∈ dcells ds, u.oneCell' = true := by
  intro u hu
  obtain ⟨c, _, hc⟩ := List.mem_flatMap.1 hu
  simp at hc
  rcases hc with rfl | rfl | rfl <;> rfl
theorem dcells_set (ds : List Ded) : ∀ (k : Nat) (c : Ded), k < ds.length → (((dcells ds).set (k * 3) (.int .i64 c.1)).set (k * 3 + 1) (.int .i64 c.2.1)).set (k * 3 + 2) (.string c.2.2) = dcells (ds.set k c) := by
  induction ds with
  | nil => intro k r h; simp at h
  | cons x rs ih =>
    intro k r h
    cases k with
    | zero => simp [dcells]
    | succ k =>
      rw [show (k + 1) * 3 = k * 3 + 3 by omega]
      have := ih k r (by simpa using h)
      simpa [dcells, List.flatMap_cons] using this
theorem dcells_zero (n : Nat) : (madeCells (Value.agg #[.int .i64 0, .int .i64 0, .string ByteArray.empty]).cells (n * 3)).toList = dcells (List.replicate n (0, 0, ByteArray.empty)) := by
  apply List.ext_getElem?
  intro i
  by_cases hi : i < n * 3
  · obtain ⟨k, hk⟩ : ∃ k, i / 3 = k := ⟨_, rfl⟩
    have hkn : k < n := by omega
    have hr : (List.replicate n ((0, 0, ByteArray.empty) : Ded))[k]? = some (0, 0, ByteArray.empty) := by simp [hkn]
    obtain ⟨g1, g2, g3⟩ := dcells_at _ k _ hr
    have h3 : i % 3 = 0 ∨ i % 3 = 1 ∨ i % 3 = 2 := by omega
    rcases h3 with h | h | h
    · obtain rfl : i = k * 3 := by omega
      rw [g1]; simp [madeCells, Value.cells, hi]
    · obtain rfl : i = k * 3 + 1 := by omega
      rw [g2]; simp [madeCells, Value.cells, hi, Nat.mul_add_mod]
    · obtain rfl : i = k * 3 + 2 := by omega
      rw [g3]; simp [madeCells, Value.cells, hi, Nat.mul_add_mod]
  · rw [List.getElem?_eq_none (by simp [madeCells]; omega), List.getElem?_eq_none (by rw [dcells_len]; simp; omega)]
def DdLen (ds : List Ded) : Prop := ∀ (k : Nat) (d : Ded), ds[k]? = some d → d.2.2.size ≤ maxLen

end Go.Proofs.YtedadhoneebfnaaDoor
