/- What the laws on exchanges ask, of the words of the contracts. No program in sight. -/
import Derived.Test.YtedadhoneebfnaaJ3
import Derived.Test.YtedadhoneebfnaaLa
import Derived.Test.YtedadhoneebfnaaJ4
import Derived.Test.YtedadhoneebfnaaJ10
import Derived.Test.YtedadhoneebfnaaD1
import Derived.Test.YtedadhoneebfnaaJ11
set_option linter.unusedSimpArgs false
set_option linter.unusedVariables false
namespace Go.Proofs.Ytedadhoneebfnaa

theorem peerX_yes {O E M : Int} {ps : List ByteArray} {cs : List Cl} (x : Int) (h : exB O E M ps cs = true) : peerX O E M ps cs x = peerL cs x := by unfold peerX; rw [if_pos h]
theorem lineX_yes {O E M : Int} {ps : List ByteArray} {cs : List Cl} (s : ByteArray) (h : exB O E M ps cs = true) : lineX O E M ps cs s = lineL ps s := by unfold lineX; rw [if_pos h]
theorem peerX_back {O E M : Int} {ps : List ByteArray} {cs : List Cl} {x y : Int} (h : peerX O E M ps cs x = y) (hy : 0 ≤ y) : peerX O E M ps cs y = x ∧ y ≠ x ∧ y < ps.length := by
 unfold peerX at h ⊢
 split at h
 ·
  rename_i hx
  rw [if_pos hx]
  subst h
  exact ((exB_iff _ _ _ _ _).1 hx).peer_peer hy
 ·
  omega
theorem peerX_neg {O E M : Int} {ps : List ByteArray} {cs : List Cl} {x y : Int} (h : peerX O E M ps cs x = y) (hy : y < 0) : y = -1 := by
 unfold peerX at h
 split at h
 ·
  rename_i hx
  rcases peer_neg ((exB_iff _ _ _ _ _).1 hx).calls x with ⟨h1, _⟩ | ⟨c, _, _, _, h3, _⟩
  ·
   omega
  ·
   omega
 ·
  omega
theorem lineX_get {O E M : Int} {ps : List ByteArray} {cs : List Cl} {s : ByteArray} {y : Int} (h : lineX O E M ps cs s = y) (hy : 0 ≤ y) : ∃ k : Nat, y = k ∧ ps[k]? = some s ∧ PlanOk ps := by
 unfold lineX at h
 split at h
 ·
  rename_i hx
  subst h
  obtain ⟨k, h1, h2⟩ := line_get hy
  exact ⟨k, h1, h2, ((exB_iff _ _ _ _ _).1 hx).plan⟩
 ·
  omega
theorem lineX_neg {O E M : Int} {ps : List ByteArray} {cs : List Cl} {s : ByteArray} {y : Int} (h : lineX O E M ps cs s = y) (hy : y < 0) : y = -1 := by
 unfold lineX at h
 split at h
 ·
  subst h; exact line_neg hy
 ·
  omega
/-- What is dialled: the number, and four digits behind it. -/
def more4 : ByteArray := ⟨#[48, 49, 51, 50]⟩
theorem one_line {ps : List ByteArray} {k : Nat} {s : ByteArray} (h : PlanOk ps) (hs : ps[k]? = some s) : dialA ps (oneR ps (s ++ more4)) = (k : Int) ∧ dialB ps (oneR ps (s ++ more4)) = (s.size : Int) := by
 have hd : digsB (s ++ more4) = true := digs_app (numB_size (h.at k s hs)).2.2 (by decide)
 rw [oneR_yes ((planB_iff _).2 h) hd, dial_line h hs]
 exact ⟨rfl, by show ((sizeAt ps k : Nat) : Int) = _; rw [sizeAt_of hs]⟩
theorem newX_cases (O E M : Int) (ps : List ByteArray) : (exB O E M ps [] = true ∧ newE O E M ps = (O, E, M, ps)) ∨ (exB O E M ps [] = false ∧ newE O E M ps = (0, 0, 0, [])) := by
 unfold newE
 cases h : exB O E M ps [] with
 | true => exact .inl ⟨rfl, by rw [if_pos rfl]⟩
 | false => exact .inr ⟨rfl, by rw [if_neg (by simp)]⟩

end Go.Proofs.Ytedadhoneebfnaa
