/- Lines said to an exchange: what both programs leave, and how the reference reads a number. -/
import Derived.Test.YtedadhoneebfnaaGreatDoorJ5
import Derived.Test.YtedadhoneebfnaaGreatDoorJ14
import Derived.Test.YtedadhoneebfnaaGreatDoorJ7
import Derived.Test.YtedadhoneebfnaaGreatDoorRz
set_option linter.unusedSimpArgs false
set_option linter.unusedVariables false
namespace Go.Proofs.YtedadhoneebfnaaGreatDoor
open Go.RowKit

theorem peerX_y {O E M : Int} {ps : List ByteArray} {cs : List Cl} (x : Int) (h : ExOk O E M ps cs) : peerX O E M ps cs x = peerL cs x := by unfold peerX; rw [if_pos ((exB_iff _ _ _ _ _).2 h)]
theorem lineX_y {O E M : Int} {ps : List ByteArray} {cs : List Cl} (s : ByteArray) (h : ExOk O E M ps cs) : lineX O E M ps cs s = lineL ps s := by unfold lineX; rw [if_pos ((exB_iff _ _ _ _ _).2 h)]
/-- What ExLine leaves. -/
def LineQ (r : (Int × Int × Int) × (List ByteArray × List Cl) × ByteArray) (w : World) (e : Ending) (w' : World) : Prop :=
 ExR r.1.1 r.1.2.1 r.1.2.2 r.2.1.1 r.2.1.2 (.string r.2.2) w e w'
theorem LineQ.res {r : (Int × Int × Int) × (List ByteArray × List Cl) × ByteArray} {w : World} {e : Ending} {w' : World} (h : LineQ r w e w') : ExR r.1.1 r.1.2.1 r.1.2.2 r.2.1.1 r.2.1.2 (.string r.2.2) w e w' := h
theorem lineR_small (O E M : Int) (ps : List ByteArray) (cs : List Cl) (s : ByteArray) : (lineR O E M ps cs s).2.1.1.length ≤ 13 ∧ (lineR O E M ps cs s).2.1.2.length ≤ 13 := by
 unfold lineR
 split
 ·
  rename_i hx
  exact ok_small (line_ok ((exB_iff _ _ _ _ _).1 hx) s)
 ·
  simp
/-- What is left of a deed that was said. -/
def SayPost (O E M : Int) (r : (List ByteArray × List Cl) × ByteArray) (w : World) (e : Ending) (w' : World) : Prop := ExR O E M r.1.1 r.1.2 (.string r.2) w e w'
theorem sayL_some {E M : Int} {ps : List ByteArray} {cs : List Cl} {k l : Int} {s : ByteArray} {y : List ByteArray × List Cl} (h : doL E M ps cs k l s = some y) : sayL E M ps cs (k, l, s) = (y, aok) := by unfold sayL; simp only; rw [h]
theorem sayL_none {E M : Int} {ps : List ByteArray} {cs : List Cl} {k l : Int} {s : ByteArray} (h : doL E M ps cs k l s = none) : sayL E M ps cs (k, l, s) = ((ps, cs), notL ps (k, l, s)) := by unfold sayL; simp only; rw [h]
theorem notL_no {ps : List ByteArray} {k l : Int} {s : ByteArray} (h : k ≠ 0 ∨ (ps.length : Int) ≤ l) : notL ps (k, l, s) = ano := by unfold notL; rw [if_pos h]
theorem notL_wrong {ps : List ByteArray} {k l : Int} {s : ByteArray} (h : ¬ (k ≠ 0 ∨ (ps.length : Int) ≤ l)) (h2 : lineL ps s < 0) : notL ps (k, l, s) = awrong := by unfold notL; rw [if_neg h, if_pos h2]
theorem notL_busy {ps : List ByteArray} {k l : Int} {s : ByteArray} (h : ¬ (k ≠ 0 ∨ (ps.length : Int) ≤ l)) (h2 : ¬ lineL ps s < 0) : notL ps (k, l, s) = abusy := by unfold notL; rw [if_neg h, if_neg h2]
theorem str_is {s : ByteArray} {m : List UInt8} (h : tl s = m) : (s.toList == m) = true := by
 rw [ByteArray.toList_eq]; simpa [tl] using h
theorem str_not {s : ByteArray} {m : List UInt8} (h : ¬ tl s = m) : (s.toList == m) = false := by
 rw [ByteArray.toList_eq]; simpa [tl] using h
theorem readL_sp {m : Nat} {l : List UInt8} (h : (32 : UInt8) ∈ l) : readL m l = none := by
 unfold readL
 split
 ·
  rfl
 ·
  rw [if_neg]
  intro ha
  have := List.all_eq_true.1 ha 32 h
  simp [dgB] at this
theorem val_nonneg : ∀ (l : List UInt8) (a : Int), 0 ≤ a → l.all dgB = true → 0 ≤ l.foldl (fun n c => 10 * n + ((c.toNat : Int) - 48)) a := by
 intro l
 induction l with
 | nil => intro a h _; exact h
 | cons c l ih =>
  intro a h hd
  simp only [List.all_cons, Bool.and_eq_true] at hd
  rw [List.foldl_cons]
  refine ih _ ?_ hd.2
  have := hd.1
  simp only [dgB, Bool.and_eq_true, decide_eq_true_eq] at this
  omega
theorem readL_nonneg {m : Nat} {l : List UInt8} {n : Int} (h : readL m l = some n) : 0 ≤ n := by
 unfold readL at h
 split at h
 ·
  cases h
 ·
  split at h
  ·
   rename_i hd
   cases h
   exact val_nonneg l 0 (by omega) hd
  ·
   cases h
/-- The number that the reference reads. -/
def numS (l : List UInt8) : Int := if (splitL 32 l []).length = 2 then (readL 4 (bef 32 (aft 32 l))).getD (-1) else -1
theorem numS_is (l : List UInt8) : numS l = (readL 4 (aft 32 l)).getD (-1) := by
 unfold numS
 have h2 := split_two 32 l
 have h3 := split_three 32 l
 by_cases hm : (32 : UInt8) ∈ l
 ·
  by_cases hm2 : (32 : UInt8) ∈ aft 32 l
  ·
   have := h3.2 ⟨hm, hm2⟩
   rw [if_neg (by omega), readL_sp hm2]; rfl
  ·
   have h4 := h2.2 hm
   have h5 : ¬ (splitL 32 l []).length > 2 := fun h => hm2 (h3.1 h).2
   rw [if_pos (by omega), bef_none hm2]
 ·
  have h4 : ¬ (splitL 32 l []).length > 1 := fun h => hm (h2.1 h)
  rw [if_neg (by omega), aft_none hm]; rfl
/-- How the reference comes to its answer. -/
theorem ansL_calls {ps : List ByteArray} {cs : List Cl} {l : List UInt8} (h : l = wcalls) : ansL ps cs l = two cs.length := by unfold ansL; rw [if_pos h]
theorem ansL_plan {ps : List ByteArray} {cs : List Cl} {l : List UInt8} (h0 : ¬ l = wcalls) (h : l = wplan) : ansL ps cs l = joinP ps := by unfold ansL; rw [if_neg h0, if_pos h]
theorem ansL_what {ps : List ByteArray} {cs : List Cl} {l : List UInt8} (h0 : ¬ l = wcalls) (h1 : ¬ l = wplan) (h : readL 4 (aft 32 l) = none ∨ ¬ (bef 32 l = wwho ∨ bef 32 l = wvia)) : ansL ps cs l = awhat := by
 unfold ansL
 rw [if_neg h0, if_neg h1]
 split
 ·
  rfl
 ·
  rename_i n hn
  rcases h with h | h
  ·
   rw [hn] at h; cases h
  ·
   rw [if_neg h]
theorem ansL_none {ps : List ByteArray} {cs : List Cl} {l : List UInt8} {n : Int} (h0 : ¬ l = wcalls) (h1 : ¬ l = wplan) (h2 : readL 4 (aft 32 l) = some n) (h3 : bef 32 l = wwho ∨ bef 32 l = wvia) (h4 : cs.find? (hasE n) = none) : ansL ps cs l = anone := by
 unfold ansL
 rw [if_neg h0, if_neg h1, h2]
 simp only
 rw [if_pos h3, h4]
theorem ansL_via {ps : List ByteArray} {cs : List Cl} {l : List UInt8} {n : Int} {c : Cl} (h0 : ¬ l = wcalls) (h1 : ¬ l = wplan) (h2 : readL 4 (aft 32 l) = some n) (h3 : bef 32 l = wvia) (h4 : cs.find? (hasE n) = some c) : ansL ps cs l = two c.2.2.toNat := by
 unfold ansL
 rw [if_neg h0, if_neg h1, h2]
 simp only
 rw [if_pos (.inr h3), h4]
 simp only
 rw [if_pos h3]
theorem ansL_who {ps : List ByteArray} {cs : List Cl} {l : List UInt8} {n : Int} {c : Cl} (h0 : ¬ l = wcalls) (h1 : ¬ l = wplan) (h2 : readL 4 (aft 32 l) = some n) (h3 : bef 32 l = wwho) (h4 : cs.find? (hasE n) = some c) : ansL ps cs l = two (peerL cs n).toNat := by
 unfold ansL
 rw [if_neg h0, if_neg h1, h2]
 simp only
 rw [if_pos (.inl h3), h4]
 simp only
 rw [if_neg (by rw [h3]; decide)]
theorem joinP_one (p : ByteArray) : joinP [p] = p := by unfold joinP; rw [List.map_cons, List.map_nil, Lib.join_one, ba_tl]
theorem joinP_snoc {ps : List ByteArray} {k : Nat} {s : ByteArray} (h1 : 1 ≤ k) (hs : ps[k]? = some s) : joinP (ps.take (k + 1)) = joinP (ps.take k) ++ (⟨#[44]⟩ : ByteArray) ++ s := by
 cases ps with
 | nil => simp at hs
 | cons p r =>
  obtain ⟨j, rfl⟩ : ∃ j, k = j + 1 := ⟨k - 1, by omega⟩
  rw [List.getElem?_cons_succ] at hs
  have hs2 : (r.map tl)[j]? = some (tl s) := by rw [List.getElem?_map, hs]; rfl
  rw [← ba_tl (joinP ((p :: r).take (j + 1)) ++ (⟨#[44]⟩ : ByteArray) ++ s), tl_app, tl_app]
  unfold joinP
  rw [tl_ba, List.take_succ_cons, List.take_succ_cons, List.map_cons, List.map_cons, Lib.join_cons, Lib.join_cons, List.map_take, List.map_take, Lib.joinTail_take_succ _ _ _ _ hs2]
  simp only [List.append_assoc]
theorem lens_le : ∀ (xs : List (List UInt8)), (∀ x ∈ xs, x.length ≤ 3) → Lib.lens xs ≤ 3 * xs.length := by
 intro xs
 induction xs with
 | nil => intro _; exact Nat.le_refl _
 | cons x xs ih =>
  intro h
  have h1 := ih (fun y hy => h y (List.mem_cons_of_mem _ hy))
  have h2 := h x (List.mem_cons_self ..)
  simp only [Lib.lens, List.map_cons, List.sum_cons, List.length_cons] at h1 ⊢
  omega
theorem joinP_le {ps : List ByteArray} (h : ∀ p ∈ ps, p.size ≤ 3) : (joinP ps).size ≤ 4 * ps.length := by
 cases ps with
 | nil => exact Nat.le_refl _
 | cons p r =>
  have h1 := lens_le ((p :: r).map tl) (fun x hx => by
   obtain ⟨q, hq, rfl⟩ := List.mem_map.1 hx
   rw [tl_size]; exact h q hq)
  rw [← tl_size]
  unfold joinP
  rw [tl_ba, List.map_cons, Lib.join_length]
  simp only [List.length_map, List.length_cons, List.length_nil, List.map_cons] at h1 ⊢
  omega
theorem plan_small {ps : List ByteArray} (h : PlanOk ps) : ∀ p ∈ ps, p.size ≤ 3 := fun p hp => by
 obtain ⟨k, hk⟩ := List.mem_iff_getElem?.1 hp
 exact (numB_size (h.at k p hk)).2.1
/-- The call of a line, if there is one. -/
theorem peer_case {O E M : Int} {cs : List Cl} (hok : CallsOk O E M cs) (n : Int) : (cs.find? (hasE n) = none ∧ peerL cs n = -1) ∨ ∃ c, cs.find? (hasE n) = some c ∧ c ∈ cs ∧ 0 ≤ peerL cs n ∧ peerL cs n < 12 ∧ 0 ≤ c.2.2 ∧ c.2.2 < M := by
 rcases peer_neg hok n with ⟨h1, h2⟩ | ⟨c, h1, h2, _, h3, h4⟩
 ·
  exact .inl ⟨h2, h1⟩
 ·
  have := lines_le hok.sh
  have h5 := hok.mem h2
  exact .inr ⟨c, h1, h2, h3, by omega, h5.2.2.1, h5.2.2.2⟩

end Go.Proofs.YtedadhoneebfnaaGreatDoor
