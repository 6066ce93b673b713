/- The draws of a deed and of deeds that have texts. -/
import Derived.Test.YtedadhoneebfnaaGreatDoorXe
import Derived.Test.YtedadhoneebfnaaGreatDoorDy
set_option linter.unusedSimpArgs false
set_option linter.unusedVariables false
namespace Go.Proofs.YtedadhoneebfnaaGreatDoor
open Go.RowKit

/-- A deed that was drawn. -/
def DedPost (w : World) (e : Ending) (w' : World) : Prop := ∃ (k l : Int) (s : ByteArray), e = .returned (.agg #[.int .i64 k, .int .i64 l, .string s]) ∧ s.size ≤ 12 ∧ Below w.heap.size w w'
def threes : Array Value := #[.string ⟨#[52]⟩, .string ⟨#[48, 48]⟩, .string ⟨#[120]⟩]
theorem threes_at (k : Int) (h0 : 0 ≤ k) (h1 : k < 3) : ∃ x : ByteArray, threes[k.toNat]? = some (.string x) ∧ x.size ≤ 2 := by
 have : k = 0 ∨ k = 1 ∨ k = 2 := by omega
 rcases this with rfl | rfl | rfl <;> exact ⟨_, rfl, by decide⟩

end Go.Proofs.YtedadhoneebfnaaGreatDoor
