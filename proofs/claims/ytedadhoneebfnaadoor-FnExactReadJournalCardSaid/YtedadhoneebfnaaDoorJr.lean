/- Journals read, plain: line by line up to the first that tells no deed. No program in sight. -/
import Derived.Test.YtedadhoneebfnaaDoorRp
set_option linter.unusedSimpArgs false
set_option linter.unusedVariables false
namespace Go.Proofs.YtedadhoneebfnaaDoor

theorem ix_le (c : UInt8) (l : List UInt8) : ix c l ≤ l.length := by unfold ix; exact List.findIdx_le_length
theorem ix_mem {c : UInt8} {l : List UInt8} : c ∈ l ↔ ix c l < l.length := by
  unfold ix
  rw [List.findIdx_lt_length]
  constructor
  · intro h; exact ⟨c, h, by simp⟩
  · rintro ⟨x, hx, e⟩
    have : x = c := by simpa using e
    exact this ▸ hx
theorem bef_len {c : UInt8} {l : List UInt8} : (bef c l).length = ix c l := by unfold bef; rw [List.length_take]; have := ix_le c l; omega
theorem aft_len {c : UInt8} {l : List UInt8} : (aft c l).length = l.length - (ix c l + 1) := by unfold aft; rw [List.length_drop]
theorem aft_lt {c : UInt8} {l : List UInt8} (h : c ∈ l) : (aft c l).length < l.length := by rw [aft_len]; have := ix_mem.1 h; omega
theorem bef_not (c : UInt8) (l : List UInt8) : c ∉ bef c l := by
  intro h
  unfold bef at h
  obtain ⟨j, hj⟩ := List.mem_iff_getElem?.1 h
  obtain ⟨hl, e⟩ := List.getElem?_eq_some_iff.1 hj
  have hl2 := hl
  rw [List.length_take] at hl2
  rw [List.getElem_take] at e
  have := List.not_of_lt_findIdx (p := (· == c)) (xs := l) (i := j) (by unfold ix at hl2; omega)
  simp [e] at this
/-- Cut at its first byte c. -/
theorem cut_mem {c : UInt8} {l : List UInt8} (h : c ∈ l) : l = bef c l ++ c :: aft c l := by
  have h1 := ix_mem.1 h
  unfold bef aft
  have h2 : l[ix c l] = c := by
    have := List.findIdx_getElem (xs := l) (p := (· == c)) (w := by unfold ix at h1; exact h1)
    simp only [beq_iff_eq] at this
    exact this
  conv => lhs; rw [← List.take_append_drop (ix c l) l, List.drop_eq_getElem_cons h1, h2]
theorem cut_is {c : UInt8} {l p r : List UInt8} (h : l = p ++ c :: r) (hp : c ∉ p) : c ∈ l ∧ bef c l = p ∧ aft c l = r := by
  subst h
  exact ⟨by simp, bef_at hp, aft_at hp⟩

noncomputable def jF : Nat → List UInt8 → List Ded × Nat
  | 0, _ => ([], 0)
  | n + 1, l => if (10 : UInt8) ∈ l ∧ (rdeed (ba (bef 10 l))).2 = true then ((rdeed (ba (bef 10 l))).1 :: (jF n (aft 10 l)).1, (bef 10 l).length + 1 + (jF n (aft 10 l)).2) else ([], 0)
theorem jF_fuel : ∀ (n m : Nat) (l : List UInt8), l.length < n → l.length < m → jF n l = jF m l := by
  intro n
  induction n with
  | zero => intro m l h; omega
  | succ n ih =>
    intro m l h1 h2
    cases m with
    | zero => omega
    | succ m =>
      unfold jF
      by_cases h : (10 : UInt8) ∈ l ∧ (rdeed (ba (bef 10 l))).2 = true
      · rw [if_pos h, if_pos h]
        have := aft_lt h.1
        rw [ih m (aft 10 l) (by omega) (by omega)]
      · rw [if_neg h, if_neg h]
/-- The deeds of the lines with which a text begins, and how many bytes these lines have. -/
noncomputable def jL (l : List UInt8) : List Ded × Nat := jF (l.length + 1) l
theorem jL_no {l : List UInt8} (h : ¬ ((10 : UInt8) ∈ l ∧ (rdeed (ba (bef 10 l))).2 = true)) : jL l = ([], 0) := by unfold jL jF; rw [if_neg h]
theorem jL_step {l : List UInt8} {d : Ded} (h : (10 : UInt8) ∈ l) (hd : rdeed (ba (bef 10 l)) = (d, true)) : jL l = (d :: (jL (aft 10 l)).1, (bef 10 l).length + 1 + (jL (aft 10 l)).2) := by
  have := aft_lt h
  unfold jL
  conv => lhs; unfold jF
  rw [if_pos ⟨h, by rw [hd]⟩, hd, jF_fuel l.length ((aft 10 l).length + 1) (aft 10 l) (by omega) (by omega)]
/-- The deeds ds and the first b bytes have been read. -/
structure JAt (l : List UInt8) (b : Nat) (ds : List Ded) : Prop where
  le : b ≤ l.length
  few : ds.length ≤ b
  is : jL l = (ds ++ (jL (l.drop b)).1, b + (jL (l.drop b)).2)
theorem JAt.start (l : List UInt8) : JAt l 0 [] := ⟨Nat.zero_le _, Nat.le_refl _, by simp⟩
theorem JAt.fin {l : List UInt8} {b : Nat} {ds : List Ded} (h : JAt l b ds) (hn : ¬ ((10 : UInt8) ∈ l.drop b ∧ (rdeed (ba (bef 10 (l.drop b)))).2 = true)) : jL l = (ds, b) := by
  rw [h.is, jL_no hn]; simp
theorem JAt.step {l : List UInt8} {b : Nat} {ds : List Ded} {d : Ded} (h : JAt l b ds) (hm : (10 : UInt8) ∈ l.drop b) (hd : rdeed (ba (bef 10 (l.drop b))) = (d, true)) : JAt l (b + ((bef 10 (l.drop b)).length + 1)) (ds ++ [d]) := by
  have h1 := ix_mem.1 hm
  have h2 := h.le
  have h3 := h.few
  have hl : (bef 10 (l.drop b)).length = ix 10 (l.drop b) := bef_len
  rw [List.length_drop] at h1
  refine ⟨by omega, by simp; omega, ?_⟩
  have ha : aft 10 (l.drop b) = l.drop (b + ((bef 10 (l.drop b)).length + 1)) := by
    rw [hl]; unfold aft; rw [List.drop_drop]
  rw [h.is, jL_step hm hd, ha]
  simp only [List.append_assoc, List.cons_append, List.nil_append, Prod.mk.injEq, true_and]
  omega

end Go.Proofs.YtedadhoneebfnaaDoor
