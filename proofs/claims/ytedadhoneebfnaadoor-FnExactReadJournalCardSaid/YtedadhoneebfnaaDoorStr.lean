/- Slices of strings: their cells. -/
import Derived.Test.YtedadhoneebfnaaDoorLib
set_option linter.unusedSimpArgs false
set_option linter.unusedVariables false
namespace Go.Proofs.YtedadhoneebfnaaDoor
open Go.RowKit

def strs (ps : List ByteArray) : List Value := ps.map Value.string
theorem strs_len (ps : List ByteArray) : (strs ps).length = ps.length := by simp [strs]
theorem strs_at (ps : List ByteArray) (j : Nat) (s : ByteArray) (h : ps[j]? = some s) : (strs ps)[j]? = some (.string s) := by simp [strs, h]
def StLen (ps : List ByteArray) : Prop := ∀ (k : Nat) (s : ByteArray), ps[k]? = some s → s.size ≤ maxLen

end Go.Proofs.YtedadhoneebfnaaDoor
