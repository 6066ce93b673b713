/- Contracts of ExchangeNew (program and reference). -/
import Derived.Test.YtedadhoneebfnaaGreatDoorJ8
import Derived.Test.YtedadhoneebfnaaGreatDoorJ11
import Derived.Test.YtedadhoneebfnaaGreatDoorJ13
import Derived.Deep.DeepCutAuto
set_option linter.unusedSimpArgs false
set_option linter.unusedVariables false
namespace Go.Proofs.YtedadhoneebfnaaGreatDoor
open Go.RowKit

theorem own_len8 {w : World} {base n : Nat} {E : TypeId} {size : Nat} {v : Value} {xs : List Value} (h : w.ownsRow base E size v n xs) : ∃ a c, v = .slice a n c := by
 rcases h.2 with ⟨rfl, rfl⟩ | ⟨g, cap, cur, rfl, _⟩
 ·
  exact ⟨_, _, rfl⟩
 ·
  exact ⟨_, _, rfl⟩
noncomputable def newE (O E M : Int) (ps : List ByteArray) : Int × Int × Int × List ByteArray := if exB O E M ps [] = true then (O, E, M, ps) else (0, 0, 0, [])
def NewPost (O E M : Int) (ps : List ByteArray) (w : World) (e : Ending) (w' : World) : Prop :=
 ∃ vp vc, e = .returned (.agg #[.int .i64 (newE O E M ps).1, .int .i64 (newE O E M ps).2.1, .int .i64 (newE O E M ps).2.2.1, vp, vc]) ∧ ExOwn w' w.heap.size vp vc (newE O E M ps).2.2.2 [] ∧ Below w.heap.size w w'

end Go.Proofs.YtedadhoneebfnaaGreatDoor
