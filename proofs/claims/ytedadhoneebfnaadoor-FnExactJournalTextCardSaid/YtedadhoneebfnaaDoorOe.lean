/- What came in as a row of deeds. -/
import Derived.Test.YtedadhoneebfnaaDoorOl
import Derived.Test.YtedadhoneebfnaaDoorDd
import Derived.Lib.SmallJoins
set_option linter.unusedSimpArgs false
set_option linter.unusedVariables false
namespace Go.Proofs.YtedadhoneebfnaaDoor
open Go.ChangeShapes Go.WideShapes Go.Deep Go.RowKit Go.Joins

section
variable {H : Type} {enc : TypeId × Value → H} {W : World} {a : Option Addr} {len cap : Nat} {d : DataW H} {p : List MemPlace}
set_option maxRecDepth 100000 in
theorem rds_deeds (h : DataW.Trod enc Tryd.prog W 0 (fun _ => true) true 29 (.slice a len cap) d p) : ∃ ds, Rds W (.slice a len cap) ds.length 3 (dcells ds) ∧ DdLen ds := by
  obtain ⟨fuel, hf⟩ := h
  rcases open_slice_fields Tryd.underlying29 Tryd.underlying23 (by kernel_rfl) (by kernel_rfl) hf with ⟨hcs, _⟩ | ⟨x, l, c, m, D, Pl, hcs, _, hl, hm, hmm, _, hi⟩
  · simp [Value.cells] at hcs
    obtain ⟨rfl, rfl, rfl⟩ := hcs
    exact ⟨[], ⟨rfl, by simp, _, _, rfl, Nat.le_refl _, .inl rfl⟩, fun k r h => by simp at h⟩
  · simp [Value.cells] at hcs
    obtain ⟨rfl, rfl, rfl⟩ := hcs
    rw [if_pos rfl] at hmm
    have hone : ∀ i, i < len → ∃ r : Ded, W.cell? (x.add (i * 3 + 0)) = some (.int .i64 r.1) ∧ W.cell? (x.add (i * 3 + 1)) = some (.int .i64 r.2.1) ∧ W.cell? (x.add (i * 3 + 2)) = some (.string r.2.2) ∧ r.2.2.size ≤ maxLen := by
      intro i hil
      obtain ⟨ys, n, _, _, _, hfield⟩ := hi i (by omega)
      obtain ⟨v1, y1, hc1, _, ht1⟩ := hfield 0 _ rfl
      obtain ⟨v2, y2, hc2, _, ht2⟩ := hfield 1 _ rfl
      obtain ⟨v3, y3, hc3, _, ht3⟩ := hfield 2 _ rfl
      obtain ⟨o1, e1, _, _⟩ := DataW.trod_int Tryd.underlying3 ht1
      obtain ⟨o2, e2, _, _⟩ := DataW.trod_int Tryd.underlying3 ht2
      obtain ⟨s, e3, _, hs⟩ := DataW.trod_string Tryd.underlying9 ht3
      simp at e1 e2 e3
      subst e1 e2 e3
      exact ⟨(o1, o2, s), hc1, hc2, hc3, hs⟩
    obtain ⟨rs, hrl, hrs⟩ := list_of len hone
    refine ⟨rs, ⟨dcells_len rs, by omega, _, _, by rw [hrl], by omega, ?_⟩, fun k r hk => (hrs k r hk).2.2.2⟩
    rw [hrl]
    by_cases hl0 : len = 0
    · exact .inl hl0
    · right
      obtain ⟨r0, hr0⟩ : ∃ r, rs[0]? = some r := ⟨_, List.getElem?_eq_getElem (by omega)⟩
      obtain ⟨b, off, rfl, hb⟩ := spot_none (hrs 0 r0 hr0).1
      refine ⟨b, off, rfl, hb, fun i hi2 => ?_⟩
      obtain ⟨r, hr⟩ : ∃ r, rs[i / 3]? = some r := ⟨_, List.getElem?_eq_getElem (by omega)⟩
      obtain ⟨q1, q2, q3⟩ := dcells_at rs (i / 3) r hr
      obtain ⟨g1, g2, g3, _⟩ := hrs (i / 3) r hr
      rw [Addr.add_spot] at g1 g2 g3
      have h3 : i % 3 = 0 ∨ i % 3 = 1 ∨ i % 3 = 2 := by omega
      rcases h3 with h | h | h
      · rw [show i = i / 3 * 3 + 0 by omega, g1]
        rw [show i / 3 * 3 + 0 = i / 3 * 3 by omega, q1]
      · rw [show i = i / 3 * 3 + 1 by omega, g2]
        rw [q2]
      · rw [show i = i / 3 * 3 + 2 by omega, g3]
        rw [q3]
end

end Go.Proofs.YtedadhoneebfnaaDoor
