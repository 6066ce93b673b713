/- What the laws on exchanges ask, plain. No program in sight. -/
import Derived.Test.YtedadhoneebfnaaJ9
set_option linter.unusedSimpArgs false
set_option linter.unusedVariables false
namespace Go.Proofs.Ytedadhoneebfnaa

theorem exB_zero : exB 0 0 0 [] [] = false := exB_no fun h => by have := h.lines.1; simp at this
theorem exB_bare {O E M : Int} {ps : List ByteArray} {cs : List Cl} (h : exB O E M ps cs = true) : exB O E M ps [] = true := (exB_iff _ _ _ _ _).2 ((exB_iff _ _ _ _ _).1 h).bare
/-- The ends of the first k calls. -/
def endsI (cs : List Cl) (k : Nat) : List Int := (cs.take k).flatMap fun c => [c.1, c.2.1]
theorem endsI_zero (cs : List Cl) : endsI cs 0 = [] := by simp [endsI]
theorem endsI_succ {cs : List Cl} {k : Nat} {c : Cl} (hc : cs[k]? = some c) : endsI cs (k + 1) = endsI cs k ++ [c.1, c.2.1] := by
 obtain ⟨hk, rfl⟩ := List.getElem?_eq_some_iff.1 hc
 unfold endsI
 rw [List.take_succ_eq_append_getElem hk, List.flatMap_append]; simp
theorem endsI_mem {cs : List Cl} {k : Nat} {z : Int} (h : z ∈ endsI cs k) : ∃ (j : Nat) (d : Cl), j < k ∧ cs[j]? = some d ∧ (z = d.1 ∨ z = d.2.1) := by
 obtain ⟨d, hd, hz⟩ := List.mem_flatMap.1 h
 obtain ⟨j, hj⟩ := List.mem_iff_getElem?.1 hd
 have hl := (List.getElem?_eq_some_iff.1 hj).1
 rw [List.length_take] at hl
 rw [List.getElem?_take_of_lt (by omega)] at hj
 refine ⟨j, d, by omega, hj, ?_⟩
 simpa using hz
theorem ends_no {O E M : Int} {ps : List ByteArray} {cs : List Cl} (h : ExOk O E M ps cs) {k : Nat} {c : Cl} (hc : cs[k]? = some c) : ∀ z ∈ endsI cs k, z ≠ c.1 ∧ z ≠ c.2.1 := by
 intro z hz
 obtain ⟨j, d, hj, hd, e⟩ := endsI_mem hz
 have h1 := h.calls.apart j k d c hj hd hc
 have h2 := h.part d (List.mem_of_getElem? hd) c (List.mem_of_getElem? hc)
 have h3 := h.part c (List.mem_of_getElem? hc) d (List.mem_of_getElem? hd)
 rcases e with rfl | rfl
 ·
  exact ⟨h1.1, h2⟩
 ·
  exact ⟨fun e => h3 e.symm, h1.2.1⟩
/-- Every number of a plan is that of its line. -/
theorem line_self {ps : List ByteArray} (h : PlanOk ps) {k : Nat} {s : ByteArray} (hs : ps[k]? = some s) : lineL ps s = k := by
 refine line_at (fun j p hj hp e => ?_) hs
 subst e
 have h1 := h.apart (show j ≠ k by omega) hp hs
 have h2 : preB p p = true := by unfold preB; rw [List.isPrefixOf_iff_prefix]; exact List.prefix_refl _
 rw [h2] at h1
 cases h1
theorem peer_bare (x : Int) : peerL [] x = -1 := rfl
/-- What is dialled behind a number does not matter. -/
theorem dial_line {ps : List ByteArray} (h : PlanOk ps) {k : Nat} {s t : ByteArray} (hs : ps[k]? = some s) : dialK ps (s ++ t).data.toList = some k := by
 refine dialK_of h hs ?_
 rw [List.isPrefixOf_iff_prefix]
 exact ⟨t.data.toList, by simp⟩
theorem line_get {ps : List ByteArray} {s : ByteArray} (h : 0 ≤ lineL ps s) : ∃ k : Nat, lineL ps s = k ∧ ps[k]? = some s := by
 rcases line_is (ps := ps) (s := s) with ⟨h1, _⟩ | ⟨k, h1, h2, _⟩
 ·
  omega
 ·
  exact ⟨k, h1, h2⟩
theorem line_neg {ps : List ByteArray} {s : ByteArray} (h : lineL ps s < 0) : lineL ps s = -1 := by
 rcases line_is (ps := ps) (s := s) with ⟨h1, _⟩ | ⟨k, h1, h2, _⟩
 ·
  exact h1
 ·
  omega
theorem digs_app {s t : ByteArray} (hs : digsB s = true) (ht : digsB t = true) : digsB (s ++ t) = true := by
 unfold digsB at hs ht ⊢
 simp only [ByteArray.data_append, Array.toList_append, List.all_append, Bool.and_eq_true]
 exact ⟨hs, ht⟩

end Go.Proofs.Ytedadhoneebfnaa
