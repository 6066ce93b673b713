/- Rows of truths: their cells. -/
import Derived.Test.YtedadhoneebfnaaLib
import Derived.Test.YtedadhoneebfnaaRows
import Derived.Handy
set_option linter.unusedSimpArgs false
set_option linter.unusedVariables false
namespace Go.Proofs.Ytedadhoneebfnaa
open Go.RowKit

theorem infoB8 : (Try.prog.info? 4).map (fun i => (i.zero, i.size, i.bytes)) = some (some (.bool false), 1, 1) := by kernel_rfl
def bcells (n : Nat) (f : Int → Bool) : List Value := (List.range n).map fun i => Value.bool (f (i : Nat))
theorem bcells_len (n : Nat) (f : Int → Bool) : (bcells n f).length = n := by simp [bcells]
theorem bcells_at {n : Nat} (f : Int → Bool) {i : Nat} (h : i < n) : (bcells n f)[i]? = some (.bool (f (i : Nat))) := by simp [bcells, h]
theorem bcells_zero (n : Nat) : (madeCells (Value.bool false).cells (n * 1)).toList = bcells n fun _ => false := by
  apply List.ext_getElem?
  intro i
  by_cases hi : i < n
  · simp [madeCells, Value.cells, bcells, hi, Nat.mod_one]
  · rw [List.getElem?_eq_none (by simp [madeCells]; omega), List.getElem?_eq_none (by simp [bcells]; omega)]
theorem bcells_congr {n : Nat} {f g : Int → Bool} (h : ∀ i : Nat, i < n → f i = g i) : bcells n f = bcells n g := by
  apply List.map_congr_left
  intro i hi
  rw [h i (List.mem_range.1 hi)]
theorem bcells_set {n : Nat} (f : Int → Bool) {x : Nat} (h : x < n) : (bcells n f).set x (.bool true) = bcells n fun i => f i || decide ((x : Int) = i) := by
  apply List.ext_getElem?
  intro i
  by_cases hi : i < n
  · rw [List.getElem?_set, bcells_len, bcells_at f hi, bcells_at _ hi]
    by_cases e : x = i
    · subst e; simp [h]
    · rw [if_neg e]
      have : ¬ (x : Int) = (i : Int) := by omega
      simp [this]
  · rw [List.getElem?_eq_none (by simp [bcells]; omega), List.getElem?_eq_none (by simp [bcells]; omega)]

end Go.Proofs.Ytedadhoneebfnaa
