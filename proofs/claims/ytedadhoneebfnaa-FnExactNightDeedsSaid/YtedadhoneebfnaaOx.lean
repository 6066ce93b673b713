/- What came in as calls, deeds, an exchange, reads as lists. -/
import Derived.Test.YtedadhoneebfnaaOl
import Derived.Test.YtedadhoneebfnaaCc
import Derived.Test.YtedadhoneebfnaaDd
import Derived.Lib.SmallJoins
set_option linter.unusedSimpArgs false
set_option linter.unusedVariables false
namespace Go.Proofs.Ytedadhoneebfnaa
open Go.ChangeShapes Go.WideShapes Go.Deep Go.RowKit Go.Joins

section
variable {H : Type} {enc : TypeId × Value → H} {W : World} {a : Option Addr} {len cap : Nat} {d : DataW H} {p : List MemPlace}
theorem rds_calls (h : DataW.Trod enc Try.prog W 0 (fun _ => true) true 25 (.slice a len cap) d p) : ∃ cs, Rds W (.slice a len cap) cs.length 3 (ccells cs) := by
  obtain ⟨fuel, hf⟩ := h
  rcases open_slice_fields Try.underlying25 Try.underlying114 (by kernel_rfl) (by kernel_rfl) hf with ⟨hcs, _⟩ | ⟨x, l, c, m, D, Pl, hcs, _, hl, hm, hmm, _, hi⟩
  · simp [Value.cells] at hcs
    obtain ⟨rfl, rfl, rfl⟩ := hcs
    exact ⟨[], ⟨rfl, by simp, _, _, rfl, Nat.le_refl _, .inl rfl⟩⟩
  · simp [Value.cells] at hcs
    obtain ⟨rfl, rfl, rfl⟩ := hcs
    rw [if_pos rfl] at hmm
    have hone : ∀ i, i < len → ∃ r : Cl, W.cell? (x.add (i * 3 + 0)) = some (.int .i64 r.1) ∧ W.cell? (x.add (i * 3 + 1)) = some (.int .i64 r.2.1) ∧ W.cell? (x.add (i * 3 + 2)) = some (.int .i64 r.2.2) := by
      intro i hil
      obtain ⟨ys, n, _, _, _, hfield⟩ := hi i (by omega)
      obtain ⟨v1, y1, hc1, _, ht1⟩ := hfield 0 _ rfl
      obtain ⟨v2, y2, hc2, _, ht2⟩ := hfield 1 _ rfl
      obtain ⟨v3, y3, hc3, _, ht3⟩ := hfield 2 _ rfl
      obtain ⟨o1, e1, _, _⟩ := DataW.trod_int Try.underlying3 ht1
      obtain ⟨o2, e2, _, _⟩ := DataW.trod_int Try.underlying3 ht2
      obtain ⟨o3, e3, _, _⟩ := DataW.trod_int Try.underlying3 ht3
      simp at e1 e2 e3
      subst e1 e2 e3
      exact ⟨(o1, o2, o3), hc1, hc2, hc3⟩
    obtain ⟨rs, hrl, hrs⟩ := list_of len hone
    refine ⟨rs, ⟨ccells_len rs, by omega, _, _, by rw [hrl], by omega, ?_⟩⟩
    rw [hrl]
    by_cases hl0 : len = 0
    · exact .inl hl0
    · right
      obtain ⟨r0, hr0⟩ : ∃ r, rs[0]? = some r := ⟨_, List.getElem?_eq_getElem (by omega)⟩
      obtain ⟨b, off, rfl, hb⟩ := spot_none (hrs 0 r0 hr0).1
      refine ⟨b, off, rfl, hb, fun i hi2 => ?_⟩
      obtain ⟨r, hr⟩ : ∃ r, rs[i / 3]? = some r := ⟨_, List.getElem?_eq_getElem (by omega)⟩
      obtain ⟨q1, q2, q3⟩ := ccells_at rs (i / 3) r hr
      obtain ⟨g1, g2, g3⟩ := hrs (i / 3) r hr
      rw [Addr.add_spot] at g1 g2 g3
      have h3 : i % 3 = 0 ∨ i % 3 = 1 ∨ i % 3 = 2 := by omega
      rcases h3 with h | h | h
      · rw [show i = i / 3 * 3 + 0 by omega, g1]
        rw [show i / 3 * 3 + 0 = i / 3 * 3 by omega, q1]
      · rw [show i = i / 3 * 3 + 1 by omega, g2]
        rw [q2]
      · rw [show i = i / 3 * 3 + 2 by omega, g3]
        rw [q3]
theorem rds_deeds (h : DataW.Trod enc Try.prog W 0 (fun _ => true) true 80 (.slice a len cap) d p) : ∃ ds, Rds W (.slice a len cap) ds.length 3 (dcells ds) ∧ DdLen ds := by
  obtain ⟨fuel, hf⟩ := h
  rcases open_slice_fields Try.underlying80 Try.underlying73 (by kernel_rfl) (by kernel_rfl) hf with ⟨hcs, _⟩ | ⟨x, l, c, m, D, Pl, hcs, _, hl, hm, hmm, _, hi⟩
  · simp [Value.cells] at hcs
    obtain ⟨rfl, rfl, rfl⟩ := hcs
    exact ⟨[], ⟨rfl, by simp, _, _, rfl, Nat.le_refl _, .inl rfl⟩, fun k r h => by simp at h⟩
  · simp [Value.cells] at hcs
    obtain ⟨rfl, rfl, rfl⟩ := hcs
    rw [if_pos rfl] at hmm
    have hone : ∀ i, i < len → ∃ r : Ded, W.cell? (x.add (i * 3 + 0)) = some (.int .i64 r.1) ∧ W.cell? (x.add (i * 3 + 1)) = some (.int .i64 r.2.1) ∧ W.cell? (x.add (i * 3 + 2)) = some (.string r.2.2) ∧ r.2.2.size ≤ maxLen := by
      intro i hil
      obtain ⟨ys, n, _, _, _, hfield⟩ := hi i (by omega)
      obtain ⟨v1, y1, hc1, _, ht1⟩ := hfield 0 _ rfl
      obtain ⟨v2, y2, hc2, _, ht2⟩ := hfield 1 _ rfl
      obtain ⟨v3, y3, hc3, _, ht3⟩ := hfield 2 _ rfl
      obtain ⟨o1, e1, _, _⟩ := DataW.trod_int Try.underlying3 ht1
      obtain ⟨o2, e2, _, _⟩ := DataW.trod_int Try.underlying3 ht2
      obtain ⟨s, e3, _, hs⟩ := DataW.trod_string Try.underlying9 ht3
      simp at e1 e2 e3
      subst e1 e2 e3
      exact ⟨(o1, o2, s), hc1, hc2, hc3, hs⟩
    obtain ⟨rs, hrl, hrs⟩ := list_of len hone
    refine ⟨rs, ⟨dcells_len rs, by omega, _, _, by rw [hrl], by omega, ?_⟩, fun k r hk => (hrs k r hk).2.2.2⟩
    rw [hrl]
    by_cases hl0 : len = 0
    · exact .inl hl0
    · right
      obtain ⟨r0, hr0⟩ : ∃ r, rs[0]? = some r := ⟨_, List.getElem?_eq_getElem (by omega)⟩
      obtain ⟨b, off, rfl, hb⟩ := spot_none (hrs 0 r0 hr0).1
      refine ⟨b, off, rfl, hb, fun i hi2 => ?_⟩
      obtain ⟨r, hr⟩ : ∃ r, rs[i / 3]? = some r := ⟨_, List.getElem?_eq_getElem (by omega)⟩
      obtain ⟨q1, q2, q3⟩ := dcells_at rs (i / 3) r hr
      obtain ⟨g1, g2, g3, _⟩ := hrs (i / 3) r hr
      rw [Addr.add_spot] at g1 g2 g3
      have h3 : i % 3 = 0 ∨ i % 3 = 1 ∨ i % 3 = 2 := by omega
      rcases h3 with h | h | h
      · rw [show i = i / 3 * 3 + 0 by omega, g1]
        rw [show i / 3 * 3 + 0 = i / 3 * 3 by omega, q1]
      · rw [show i = i / 3 * 3 + 1 by omega, g2]
        rw [q2]
      · rw [show i = i / 3 * 3 + 2 by omega, g3]
        rw [q3]
end
section
variable {H : Type} {enc : TypeId × Value → H} {W : World} {d : DataW H} {p : List MemPlace} {v : Value}
/-- A slice's one cell. -/
theorem slice_cell {e t : TypeId} {n : Nat} {c : Value} {y : DataW H × List MemPlace} (ht : Try.prog.underlying t = some (.slice e)) (h : DataW.trod enc Try.prog W 0 (fun _ => true) true n t [c] = some y) : ∃ a len cap, c = .slice a len cap := by
  rcases open_slice ht h with ⟨h0, _⟩ | ⟨a, len, cap, _, _, _, _, hcs, _⟩
  · simp at h0; exact ⟨_, _, _, h0⟩
  · simp at hcs; exact ⟨_, _, _, hcs⟩
set_option maxRecDepth 100000 in
/-- An exchange that came in. -/
theorem open_exch {b0 : Nat} (hv : Value.okWide Try.prog W .any b0 27 v) (h : DataW.Trod enc Try.prog W 0 (fun _ => true) true 27 v d p) :
    ∃ (O E M : Int) (vp vc : Value) (ps : List ByteArray) (cs : List Cl), v = .agg #[.int .i64 O, .int .i64 E, .int .i64 M, vp, vc] ∧ Rds W vp ps.length 1 (strs ps) ∧ StLen ps ∧ Rds W vc cs.length 3 (ccells cs) := by
  obtain ⟨c, rfl, hsz⟩ := okWide_struct Try.underlying27 hv
  obtain ⟨l⟩ := c
  match l, hsz.trans (show Try.prog.cellsOf 27 = 5 by kernel_rfl) with
  | [c0, c1, c2, c3, c4], _ =>
    obtain ⟨fuel, hf⟩ := h
    obtain ⟨xs, n, _, hx, _, hlen, hg⟩ := DataW.trod_struct Try.underlying27 hf
    match xs, hlen with
    | [y0, y1, y2], _ =>
      have g0 : DataW.trod enc Try.prog W 0 (fun _ => true) true n 23 ([c0, c1, c2, c3, c4].take (Try.prog.cellsOf 23)) = some y0 := hg 0 _ rfl
      have g1 : DataW.trod enc Try.prog W 0 (fun _ => true) true n 24 ([c3, c4].take (Try.prog.cellsOf 24)) = some y1 := hg 1 _ rfl
      have g2 : DataW.trod enc Try.prog W 0 (fun _ => true) true n 25 ([c4].take (Try.prog.cellsOf 25)) = some y2 := hg 2 _ rfl
      rw [show Try.prog.cellsOf 23 = 3 by kernel_rfl] at g0
      rw [show Try.prog.cellsOf 24 = 1 by kernel_rfl] at g1
      rw [show Try.prog.cellsOf 25 = 1 by kernel_rfl] at g2
      simp only [List.take_succ_cons, List.take_zero] at g0 g1 g2
      obtain ⟨xs, n', hn', hx', _, hlen', hg'⟩ := DataW.trod_struct Try.underlying23 g0
      match xs, hlen' with
      | [z0, z1, z2], _ =>
        have k0 : DataW.trod enc Try.prog W 0 (fun _ => true) true n' 3 ([c0, c1, c2].take (Try.prog.cellsOf 3)) = some z0 := hg' 0 _ rfl
        have k1 : DataW.trod enc Try.prog W 0 (fun _ => true) true n' 3 ([c1, c2].take (Try.prog.cellsOf 3)) = some z1 := hg' 1 _ rfl
        have k2 : DataW.trod enc Try.prog W 0 (fun _ => true) true n' 3 ([c2].take (Try.prog.cellsOf 3)) = some z2 := hg' 2 _ rfl
        rw [show Try.prog.cellsOf 3 = 1 by kernel_rfl] at k0 k1 k2
        simp only [List.take_succ_cons, List.take_zero] at k0 k1 k2
        obtain ⟨O, e0, _, _⟩ := DataW.trod_int Try.underlying3 k0
        obtain ⟨E, e1, _, _⟩ := DataW.trod_int Try.underlying3 k1
        obtain ⟨M, e2, _, _⟩ := DataW.trod_int Try.underlying3 k2
        simp at e0 e1 e2
        subst e0 e1 e2
        obtain ⟨a1, l1, b1, rfl⟩ := slice_cell Try.underlying24 g1
        obtain ⟨a2, l2, b2, rfl⟩ := slice_cell Try.underlying25 g2
        obtain ⟨ps, h1, h2⟩ := rds_strs (enc := enc) (d := y1.1) (p := y1.2) ⟨n, g1⟩
        obtain ⟨cs, h3⟩ := rds_calls (enc := enc) (d := y2.1) (p := y2.2) ⟨n, g2⟩
        exact ⟨O, E, M, _, _, ps, cs, rfl, h1, h2, h3⟩
set_option maxRecDepth 100000 in
/-- A deed that came in. -/
theorem open_deed {b0 : Nat} (hv : Value.okWide Try.prog W .any b0 73 v) (h : DataW.Trod enc Try.prog W 0 (fun _ => true) true 73 v d p) :
    ∃ (k l : Int) (s : ByteArray), v = .agg #[.int .i64 k, .int .i64 l, .string s] ∧ s.size ≤ maxLen := by
  obtain ⟨v0, v1, v2, y0, y1, y2, n, rfl, _, _, h0, h1, h2⟩ := open_agg3 Try.underlying73 (by kernel_rfl) (by kernel_rfl) hv h
  obtain ⟨a, e0, _, _⟩ := DataW.trod_int Try.underlying3 h0
  obtain ⟨b, e1, _, _⟩ := DataW.trod_int Try.underlying3 h1
  obtain ⟨s, e2, _, hs⟩ := DataW.trod_string Try.underlying9 h2
  simp at e0 e1 e2
  subst e0 e1 e2
  exact ⟨a, b, s, rfl, hs⟩
set_option maxRecDepth 100000 in
/-- A shape that came in. -/
theorem open_shape {b0 : Nat} (hv : Value.okWide Try.prog W .any b0 23 v) (h : DataW.Trod enc Try.prog W 0 (fun _ => true) true 23 v d p) :
    ∃ (O E M : Int), v = .agg #[.int .i64 O, .int .i64 E, .int .i64 M] := by
  obtain ⟨v0, v1, v2, y0, y1, y2, n, rfl, _, _, h0, h1, h2⟩ := open_agg3 Try.underlying23 (by kernel_rfl) (by kernel_rfl) hv h
  obtain ⟨a, e0, _, _⟩ := DataW.trod_int Try.underlying3 h0
  obtain ⟨b, e1, _, _⟩ := DataW.trod_int Try.underlying3 h1
  obtain ⟨s, e2, _, _⟩ := DataW.trod_int Try.underlying3 h2
  simp at e0 e1 e2
  subst e0 e1 e2
  exact ⟨a, b, s, rfl⟩
end

end Go.Proofs.Ytedadhoneebfnaa
