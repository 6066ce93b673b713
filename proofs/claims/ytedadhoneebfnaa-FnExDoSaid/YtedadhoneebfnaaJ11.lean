/- Joined texts: Ol, Ox, En. -/
import Derived.Test.YtedadhoneebfnaaJ1
import Derived.Test.YtedadhoneebfnaaRows
import Derived.Handy
import Derived.ProofKit
import Derived.OpenShut
import Derived.ShutString
import Derived.ChangeOld
import Derived.SliceStrings
import Derived.Deep.Slices
import Derived.Deep.Fields
import Derived.ChangeSame
import Derived.Lib.SmallJoins
import Derived.Test.YtedadhoneebfnaaJ4
import Derived.Test.YtedadhoneebfnaaJ8
import Derived.Test.YtedadhoneebfnaaJ10
import Derived.Deep.DeepCutAuto
set_option linter.unusedSimpArgs false
set_option linter.unusedVariables false
/- What came in as a slice of structs or strings reads as a list. -/
namespace Go.Proofs.Ytedadhoneebfnaa
open Go.ChangeShapes Go.WideShapes Go.Deep Go.RowKit

section
variable {H : Type} {enc : TypeId × Value → H} {P : Program} {w : World} {base : Nat} {spare : Nat → Bool} {held : Bool}
theorem open_slice_fields {t e : TypeId} {fs : Array Field} {fuel : Nat} {cs : List Value} {x : DataW H × List MemPlace} (ht : P.underlying t = some (.slice e)) (he : P.underlying e = some (.struct fs))
  (hone : oneCellFields P fs = true) (hC : P.cellsOf e = fs.size) (h : DataW.trod enc P w base spare held fuel t cs = some x) :
  (cs = [.slice none 0 0] ∧ x = (.nil, [])) ∨
  ∃ (a : Addr) (len cap m : Nat) (D : Nat → DataW H) (Pl : Nat → List MemPlace), cs = [.slice (some a) len cap] ∧ base ≤ a.block ∧ len ≤ cap ∧ cap ≤ maxLen ∧ m = (if spare a.block then cap else len) ∧
   x = (.slice ((List.range len).map D) ((List.range (m - len)).map fun j => D (len + j)), MemPlace.row a (m * fs.size) ++ (List.range m).flatMap Pl) ∧
   ∀ i, i < m → ∃ (ys : List (DataW H × List MemPlace)) (n : Nat), D i = .agg (ys.map (·.1)) ∧ Pl i = ys.flatMap (·.2) ∧ ys.length = fs.size ∧
    ∀ (j : Nat) (f : Field), fs[j]? = some f → ∃ (v : Value) (y : DataW H × List MemPlace), w.cell? (a.add (i * fs.size + j)) = some v ∧ ys[j]? = some y ∧ DataW.trod enc P w base spare held n f.type [v] = some y := by
 rcases open_slice ht h with h0 | ⟨a, len, cap, m, n, D, Pl, hcs, hb, hl, hm, hmm, hx, hi⟩
 ·
  exact .inl h0
 ·
  refine .inr ⟨a, len, cap, m, D, Pl, hcs, hb, hl, hm, hmm, by rw [hC] at hx; exact hx, fun i him => ?_⟩
  obtain ⟨cs', hc, ht'⟩ := hi i him
  rw [hC] at hc
  obtain ⟨ys, n', hn', hy, hlen, hyl, hf⟩ := DataW.trod_struct he ht'
  obtain ⟨_, hcl, hat⟩ := World.cells?_some hc
  simp only [Prod.mk.injEq] at hy
  refine ⟨ys, n', hy.1, hy.2, hyl, fun j f hj => ?_⟩
  obtain ⟨ho, hk⟩ := hone_of hone j f hj
  have hjl : j < fs.size := (Array.getElem?_eq_some_iff.1 hj).1
  have hcell := hat j hjl
  have hv : cs'[j]? = some (cs'[j]'(by omega)) := List.getElem?_eq_getElem (by omega)
  have h1 := hf j f hj
  rw [ho, hk] at h1
  have hone' : (cs'.drop j).take 1 = [cs'[j]'(by omega)] := by
   rw [List.drop_eq_getElem_cons (by omega)]
   rfl
  rw [hone'] at h1
  have hys : ys[j]? = some (ys[j]'(by omega)) := List.getElem?_eq_getElem (by omega)
  refine ⟨_, _, ?_, hys, h1.trans hys⟩
  rw [← Go.Deep.add_add, hcell, hv]
end

/-- Finitely many choices are a list. -/
theorem list_of {α : Type} {P : Nat → α → Prop} : ∀ n, (∀ i, i < n → ∃ x, P i x) → ∃ xs : List α, xs.length = n ∧ ∀ i x, xs[i]? = some x → P i x := by
 intro n
 induction n with
 | zero => intro _; exact ⟨[], rfl, fun i x h => by simp at h⟩
 | succ n ih =>
  intro h
  obtain ⟨xs, h1, h2⟩ := ih (fun i hi => h i (by omega))
  obtain ⟨x, hx⟩ := h n (by omega)
  refine ⟨xs ++ [x], by simp [h1], fun i y hy => ?_⟩
  by_cases e : i < xs.length
  ·
   rw [List.getElem?_append_left e] at hy; exact h2 i y hy
  ·
   rw [List.getElem?_append_right (by omega)] at hy
   have : i = xs.length := by
    have := (List.getElem?_eq_some_iff.1 hy).1
    simp at this; omega
   subst this
   simp at hy
   subst hy
   rw [h1]; exact hx
theorem spot_none {w : World} {a : Addr} {v : Value} (h : w.cell? (a.add 0) = some v) : ∃ b off, a = ⟨b, off, none⟩ ∧ b < w.heap.size := by
 obtain ⟨b, off, spot⟩ := a
 have hspot : spot = none := by simpa [Addr.add] using World.cell?_spot h
 subst hspot
 refine ⟨b, off, rfl, ?_⟩
 have hc' : w.cell? ⟨b, off, none⟩ = some v := by simpa [Addr.add] using h
 unfold World.cell? at hc'
 split at hc'
 ·
  rename_i h'; exact lt_of_block h'
 ·
  cases hc'

section
variable {H : Type} {enc : TypeId × Value → H} {W : World} {a : Option Addr} {len cap : Nat} {d : DataW H} {p : List MemPlace}
theorem rds_strs (h : DataW.Trod enc Try.prog W 0 (fun _ => true) true 24 (.slice a len cap) d p) : ∃ ps, Rds W (.slice a len cap) ps.length 1 (strs ps) ∧ StLen ps := by
 obtain ⟨fuel, hf⟩ := h
 rcases Go.ChangeShapes.open_strings Try.underlying24 Try.underlying9 (by kernel_rfl) hf with ⟨hcs, _⟩ | ⟨x, l, c, ss, hcs, _, hl, hm, hss, _, hc, hsz⟩
 ·
  simp [Value.cells] at hcs
  obtain ⟨rfl, rfl, rfl⟩ := hcs
  exact ⟨[], ⟨rfl, by simp, _, _, rfl, Nat.le_refl _, .inl rfl⟩, fun k r h => by simp at h⟩
 ·
  simp [Value.cells] at hcs
  obtain ⟨rfl, rfl, rfl⟩ := hcs
  rw [if_pos rfl] at hss
  have hlen : (ss.take len).length = len := by rw [List.length_take]; omega
  refine ⟨ss.take len, ⟨by rw [strs_len]; omega, by omega, _, _, by rw [hlen], by omega, ?_⟩, fun k s hk => hsz s (List.mem_of_mem_take (List.mem_of_getElem? hk))⟩
  rw [hlen]
  by_cases hl0 : len = 0
  ·
   exact .inl hl0
  ·
   right
   obtain ⟨b, off, rfl, hb⟩ := spot_none (hc 0 (by omega))
   refine ⟨b, off, rfl, hb, fun i hi2 => ?_⟩
   have hi3 : i < len := by omega
   have := hc i (by omega)
   rw [Addr.add_spot] at this
   rw [this]
   obtain ⟨s, hs⟩ : ∃ s, ss[i]? = some s := ⟨_, List.getElem?_eq_getElem (by omega)⟩
   rw [strs_at (ss.take len) i s (by rw [List.getElem?_take_of_lt hi3, hs])]
   simp [List.getD_eq_getElem?_getD, hs]
end

end Go.Proofs.Ytedadhoneebfnaa

/- What came in as calls, deeds, an exchange, reads as lists. -/
namespace Go.Proofs.Ytedadhoneebfnaa
open Go.ChangeShapes Go.WideShapes Go.Deep Go.RowKit Go.Joins

section
variable {H : Type} {enc : TypeId × Value → H} {W : World} {a : Option Addr} {len cap : Nat} {d : DataW H} {p : List MemPlace}
theorem rds_calls (h : DataW.Trod enc Try.prog W 0 (fun _ => true) true 25 (.slice a len cap) d p) : ∃ cs, Rds W (.slice a len cap) cs.length 3 (ccells cs) := by
 obtain ⟨fuel, hf⟩ := h
 rcases open_slice_fields Try.underlying25 Try.underlying114 (by kernel_rfl) (by kernel_rfl) hf with ⟨hcs, _⟩ | ⟨x, l, c, m, D, Pl, hcs, _, hl, hm, hmm, _, hi⟩
 ·
  simp [Value.cells] at hcs
  obtain ⟨rfl, rfl, rfl⟩ := hcs
  exact ⟨[], ⟨rfl, by simp, _, _, rfl, Nat.le_refl _, .inl rfl⟩⟩
 ·
  simp [Value.cells] at hcs
  obtain ⟨rfl, rfl, rfl⟩ := hcs
  rw [if_pos rfl] at hmm
  have hone : ∀ i, i < len → ∃ r : Cl, W.cell? (x.add (i * 3 + 0)) = some (.int .i64 r.1) ∧ W.cell? (x.add (i * 3 + 1)) = some (.int .i64 r.2.1) ∧ W.cell? (x.add (i * 3 + 2)) = some (.int .i64 r.2.2) := by
   intro i hil
   obtain ⟨ys, n, _, _, _, hfield⟩ := hi i (by omega)
   obtain ⟨v1, y1, hc1, _, ht1⟩ := hfield 0 _ rfl
   obtain ⟨v2, y2, hc2, _, ht2⟩ := hfield 1 _ rfl
   obtain ⟨v3, y3, hc3, _, ht3⟩ := hfield 2 _ rfl
   obtain ⟨o1, e1, _, _⟩ := DataW.trod_int Try.underlying3 ht1
   obtain ⟨o2, e2, _, _⟩ := DataW.trod_int Try.underlying3 ht2
   obtain ⟨o3, e3, _, _⟩ := DataW.trod_int Try.underlying3 ht3
   simp at e1 e2 e3
   subst e1 e2 e3
   exact ⟨(o1, o2, o3), hc1, hc2, hc3⟩
  obtain ⟨rs, hrl, hrs⟩ := list_of len hone
  refine ⟨rs, ⟨ccells_len rs, by omega, _, _, by rw [hrl], by omega, ?_⟩⟩
  rw [hrl]
  by_cases hl0 : len = 0
  ·
   exact .inl hl0
  ·
   right
   obtain ⟨r0, hr0⟩ : ∃ r, rs[0]? = some r := ⟨_, List.getElem?_eq_getElem (by omega)⟩
   obtain ⟨b, off, rfl, hb⟩ := spot_none (hrs 0 r0 hr0).1
   refine ⟨b, off, rfl, hb, fun i hi2 => ?_⟩
   obtain ⟨r, hr⟩ : ∃ r, rs[i / 3]? = some r := ⟨_, List.getElem?_eq_getElem (by omega)⟩
   obtain ⟨q1, q2, q3⟩ := ccells_at rs (i / 3) r hr
   obtain ⟨g1, g2, g3⟩ := hrs (i / 3) r hr
   rw [Addr.add_spot] at g1 g2 g3
   have h3 : i % 3 = 0 ∨ i % 3 = 1 ∨ i % 3 = 2 := by omega
   rcases h3 with h | h | h
   ·
    rw [show i = i / 3 * 3 + 0 by omega, g1]
    rw [show i / 3 * 3 + 0 = i / 3 * 3 by omega, q1]
   ·
    rw [show i = i / 3 * 3 + 1 by omega, g2]
    rw [q2]
   ·
    rw [show i = i / 3 * 3 + 2 by omega, g3]
    rw [q3]
theorem rds_deeds (h : DataW.Trod enc Try.prog W 0 (fun _ => true) true 80 (.slice a len cap) d p) : ∃ ds, Rds W (.slice a len cap) ds.length 3 (dcells ds) ∧ DdLen ds := by
 obtain ⟨fuel, hf⟩ := h
 rcases open_slice_fields Try.underlying80 Try.underlying73 (by kernel_rfl) (by kernel_rfl) hf with ⟨hcs, _⟩ | ⟨x, l, c, m, D, Pl, hcs, _, hl, hm, hmm, _, hi⟩
 ·
  simp [Value.cells] at hcs
  obtain ⟨rfl, rfl, rfl⟩ := hcs
  exact ⟨[], ⟨rfl, by simp, _, _, rfl, Nat.le_refl _, .inl rfl⟩, fun k r h => by simp at h⟩
 ·
  simp [Value.cells] at hcs
  obtain ⟨rfl, rfl, rfl⟩ := hcs
  rw [if_pos rfl] at hmm
  have hone : ∀ i, i < len → ∃ r : Ded, W.cell? (x.add (i * 3 + 0)) = some (.int .i64 r.1) ∧ W.cell? (x.add (i * 3 + 1)) = some (.int .i64 r.2.1) ∧ W.cell? (x.add (i * 3 + 2)) = some (.string r.2.2) ∧ r.2.2.size ≤ maxLen := by
   intro i hil
   obtain ⟨ys, n, _, _, _, hfield⟩ := hi i (by omega)
   obtain ⟨v1, y1, hc1, _, ht1⟩ := hfield 0 _ rfl
   obtain ⟨v2, y2, hc2, _, ht2⟩ := hfield 1 _ rfl
   obtain ⟨v3, y3, hc3, _, ht3⟩ := hfield 2 _ rfl
   obtain ⟨o1, e1, _, _⟩ := DataW.trod_int Try.underlying3 ht1
   obtain ⟨o2, e2, _, _⟩ := DataW.trod_int Try.underlying3 ht2
   obtain ⟨s, e3, _, hs⟩ := DataW.trod_string Try.underlying9 ht3
   simp at e1 e2 e3
   subst e1 e2 e3
   exact ⟨(o1, o2, s), hc1, hc2, hc3, hs⟩
  obtain ⟨rs, hrl, hrs⟩ := list_of len hone
  refine ⟨rs, ⟨dcells_len rs, by omega, _, _, by rw [hrl], by omega, ?_⟩, fun k r hk => (hrs k r hk).2.2.2⟩
  rw [hrl]
  by_cases hl0 : len = 0
  ·
   exact .inl hl0
  ·
   right
   obtain ⟨r0, hr0⟩ : ∃ r, rs[0]? = some r := ⟨_, List.getElem?_eq_getElem (by omega)⟩
   obtain ⟨b, off, rfl, hb⟩ := spot_none (hrs 0 r0 hr0).1
   refine ⟨b, off, rfl, hb, fun i hi2 => ?_⟩
   obtain ⟨r, hr⟩ : ∃ r, rs[i / 3]? = some r := ⟨_, List.getElem?_eq_getElem (by omega)⟩
   obtain ⟨q1, q2, q3⟩ := dcells_at rs (i / 3) r hr
   obtain ⟨g1, g2, g3, _⟩ := hrs (i / 3) r hr
   rw [Addr.add_spot] at g1 g2 g3
   have h3 : i % 3 = 0 ∨ i % 3 = 1 ∨ i % 3 = 2 := by omega
   rcases h3 with h | h | h
   ·
    rw [show i = i / 3 * 3 + 0 by omega, g1]
    rw [show i / 3 * 3 + 0 = i / 3 * 3 by omega, q1]
   ·
    rw [show i = i / 3 * 3 + 1 by omega, g2]
    rw [q2]
   ·
    rw [show i = i / 3 * 3 + 2 by omega, g3]
    rw [q3]
end
section
variable {H : Type} {enc : TypeId × Value → H} {W : World} {d : DataW H} {p : List MemPlace} {v : Value}
/-- A slice's one cell. -/
theorem slice_cell {e t : TypeId} {n : Nat} {c : Value} {y : DataW H × List MemPlace} (ht : Try.prog.underlying t = some (.slice e)) (h : DataW.trod enc Try.prog W 0 (fun _ => true) true n t [c] = some y) : ∃ a len cap, c = .slice a len cap := by
 rcases open_slice ht h with ⟨h0, _⟩ | ⟨a, len, cap, _, _, _, _, hcs, _⟩
 ·
  simp at h0; exact ⟨_, _, _, h0⟩
 ·
  simp at hcs; exact ⟨_, _, _, hcs⟩
set_option maxRecDepth 100000 in
/-- An exchange that came in. -/
theorem open_exch {b0 : Nat} (hv : Value.okWide Try.prog W .any b0 27 v) (h : DataW.Trod enc Try.prog W 0 (fun _ => true) true 27 v d p) :
  ∃ (O E M : Int) (vp vc : Value) (ps : List ByteArray) (cs : List Cl), v = .agg #[.int .i64 O, .int .i64 E, .int .i64 M, vp, vc] ∧ Rds W vp ps.length 1 (strs ps) ∧ StLen ps ∧ Rds W vc cs.length 3 (ccells cs) := by
 obtain ⟨c, rfl, hsz⟩ := okWide_struct Try.underlying27 hv
 obtain ⟨l⟩ := c
 match l, hsz.trans (show Try.prog.cellsOf 27 = 5 by kernel_rfl) with
 | [c0, c1, c2, c3, c4], _ =>
  obtain ⟨fuel, hf⟩ := h
  obtain ⟨xs, n, _, hx, _, hlen, hg⟩ := DataW.trod_struct Try.underlying27 hf
  match xs, hlen with
  | [y0, y1, y2], _ =>
   have g0 : DataW.trod enc Try.prog W 0 (fun _ => true) true n 23 ([c0, c1, c2, c3, c4].take (Try.prog.cellsOf 23)) = some y0 := hg 0 _ rfl
   have g1 : DataW.trod enc Try.prog W 0 (fun _ => true) true n 24 ([c3, c4].take (Try.prog.cellsOf 24)) = some y1 := hg 1 _ rfl
   have g2 : DataW.trod enc Try.prog W 0 (fun _ => true) true n 25 ([c4].take (Try.prog.cellsOf 25)) = some y2 := hg 2 _ rfl
   rw [show Try.prog.cellsOf 23 = 3 by kernel_rfl] at g0
   rw [show Try.prog.cellsOf 24 = 1 by kernel_rfl] at g1
   rw [show Try.prog.cellsOf 25 = 1 by kernel_rfl] at g2
   simp only [List.take_succ_cons, List.take_zero] at g0 g1 g2
   obtain ⟨xs, n', hn', hx', _, hlen', hg'⟩ := DataW.trod_struct Try.underlying23 g0
   match xs, hlen' with
   | [z0, z1, z2], _ =>
    have k0 : DataW.trod enc Try.prog W 0 (fun _ => true) true n' 3 ([c0, c1, c2].take (Try.prog.cellsOf 3)) = some z0 := hg' 0 _ rfl
    have k1 : DataW.trod enc Try.prog W 0 (fun _ => true) true n' 3 ([c1, c2].take (Try.prog.cellsOf 3)) = some z1 := hg' 1 _ rfl
    have k2 : DataW.trod enc Try.prog W 0 (fun _ => true) true n' 3 ([c2].take (Try.prog.cellsOf 3)) = some z2 := hg' 2 _ rfl
    rw [show Try.prog.cellsOf 3 = 1 by kernel_rfl] at k0 k1 k2
    simp only [List.take_succ_cons, List.take_zero] at k0 k1 k2
    obtain ⟨O, e0, _, _⟩ := DataW.trod_int Try.underlying3 k0
    obtain ⟨E, e1, _, _⟩ := DataW.trod_int Try.underlying3 k1
    obtain ⟨M, e2, _, _⟩ := DataW.trod_int Try.underlying3 k2
    simp at e0 e1 e2
    subst e0 e1 e2
    obtain ⟨a1, l1, b1, rfl⟩ := slice_cell Try.underlying24 g1
    obtain ⟨a2, l2, b2, rfl⟩ := slice_cell Try.underlying25 g2
    obtain ⟨ps, h1, h2⟩ := rds_strs (enc := enc) (d := y1.1) (p := y1.2) ⟨n, g1⟩
    obtain ⟨cs, h3⟩ := rds_calls (enc := enc) (d := y2.1) (p := y2.2) ⟨n, g2⟩
    exact ⟨O, E, M, _, _, ps, cs, rfl, h1, h2, h3⟩
set_option maxRecDepth 100000 in
/-- A deed that came in. -/
theorem open_deed {b0 : Nat} (hv : Value.okWide Try.prog W .any b0 73 v) (h : DataW.Trod enc Try.prog W 0 (fun _ => true) true 73 v d p) :
  ∃ (k l : Int) (s : ByteArray), v = .agg #[.int .i64 k, .int .i64 l, .string s] ∧ s.size ≤ maxLen := by
 obtain ⟨v0, v1, v2, y0, y1, y2, n, rfl, _, _, h0, h1, h2⟩ := open_agg3 Try.underlying73 (by kernel_rfl) (by kernel_rfl) hv h
 obtain ⟨a, e0, _, _⟩ := DataW.trod_int Try.underlying3 h0
 obtain ⟨b, e1, _, _⟩ := DataW.trod_int Try.underlying3 h1
 obtain ⟨s, e2, _, hs⟩ := DataW.trod_string Try.underlying9 h2
 simp at e0 e1 e2
 subst e0 e1 e2
 exact ⟨a, b, s, rfl, hs⟩
set_option maxRecDepth 100000 in
/-- A shape that came in. -/
theorem open_shape {b0 : Nat} (hv : Value.okWide Try.prog W .any b0 23 v) (h : DataW.Trod enc Try.prog W 0 (fun _ => true) true 23 v d p) :
  ∃ (O E M : Int), v = .agg #[.int .i64 O, .int .i64 E, .int .i64 M] := by
 obtain ⟨v0, v1, v2, y0, y1, y2, n, rfl, _, _, h0, h1, h2⟩ := open_agg3 Try.underlying23 (by kernel_rfl) (by kernel_rfl) hv h
 obtain ⟨a, e0, _, _⟩ := DataW.trod_int Try.underlying3 h0
 obtain ⟨b, e1, _, _⟩ := DataW.trod_int Try.underlying3 h1
 obtain ⟨s, e2, _, _⟩ := DataW.trod_int Try.underlying3 h2
 simp at e0 e1 e2
 subst e0 e1 e2
 exact ⟨a, b, s, rfl⟩
end

end Go.Proofs.Ytedadhoneebfnaa

/- Contracts of ExchangeNew (program and reference). -/
namespace Go.Proofs.Ytedadhoneebfnaa
open Go.RowKit

theorem own_len8 {w : World} {base n : Nat} {E : TypeId} {size : Nat} {v : Value} {xs : List Value} (h : w.ownsRow base E size v n xs) : ∃ a c, v = .slice a n c := by
 rcases h.2 with ⟨rfl, rfl⟩ | ⟨g, cap, cur, rfl, _⟩
 ·
  exact ⟨_, _, rfl⟩
 ·
  exact ⟨_, _, rfl⟩
def sliceLen (v : Value) : Nat := match v with
 | .slice _ n _ => n
 | _ => 0
noncomputable def newE (O E M : Int) (ps : List ByteArray) : Int × Int × Int × List ByteArray := if exB O E M ps [] = true then (O, E, M, ps) else (0, 0, 0, [])
def NewPost (O E M : Int) (ps : List ByteArray) (w : World) (e : Ending) (w' : World) : Prop :=
 ∃ vp vc, e = .returned (.agg #[.int .i64 (newE O E M ps).1, .int .i64 (newE O E M ps).2.1, .int .i64 (newE O E M ps).2.2.1, vp, vc]) ∧ ExOwn w' w.heap.size vp vc (newE O E M ps).2.2.2 [] ∧ Below w.heap.size w w'

set_option maxRecDepth 100000 in
set_option maxHeartbeats 4000000 in
theorem iExchangeNew_any (O E M : Int) (v : Value) (ps : List ByteArray) (w : World) (hv : Rds w v ps.length 1 (strs ps)) (hn : v = .slice none 0 0 ∨ ∃ b off c, v = .slice (some ⟨b, off, none⟩) ps.length c) (hl : ps.length ≤ 2000000) (hL : StLen ps) :
  Calls Try.prog 30 #[.agg #[.int .i64 O, .int .i64 E, .int .i64 M], v] w (NewPost O E M ps w) := by
 have hB := (Blk.new (w := w) (cs := #[.int .i64 O, .int .i64 E, .int .i64 M]) (T := 30) rfl).alloc (.cells #[.int .i64 0, .int .i64 0, .int .i64 0, .slice none 0 0, .slice none 0 0] 33)
 have hR1 := Blk.new (w := w.alloc (.cells #[.int .i64 O, .int .i64 E, .int .i64 M] 30)) (cs := #[.int .i64 0, .int .i64 0, .int .i64 0, .slice none 0 0, .slice none 0 0]) (T := 33) (b := w.heap.size + 1) (by simp)
 have hbel0 : Below w.heap.size w ((w.alloc (.cells #[.int .i64 O, .int .i64 E, .int .i64 M] 30)).alloc (.cells #[.int .i64 0, .int .i64 0, .int .i64 0, .slice none 0 0, .slice none 0 0] 33)) := by (exact grownA)
 have HV := Lib.hid hv
 have HNN := Lib.hid hn
 have HL := Lib.hid hL
 have K1 : Hid (∀ W : World, Below w.heap.size w W → Calls Try.prog 75 #[v] W (StOut ps W)) := fun W hW => cloneSt_any v ps W (hv.below hW) hn hl
 obtain ⟨t1, t2, t3, _, _, _, tlt⟩ := hB.three
 clear hv hn hL
 go_enter Try.func30, Try.ntmps30
 go_upto_region 1 with fail
 go_cut [5] (fun t5 wc => ∃ (be : Nat) (v' : Value), t5 = .pointer (some ⟨be, 0, none⟩) ∧ Blk wc be #[.int .i64 O, .int .i64 E, .int .i64 M, v', .slice none 0 0] 33 ∧ wc.ownsRow (w.heap.size + 2) 9 1 v' ps.length (strs ps) ∧ (∀ k, v'.ownBlock = some k → k ≠ be) ∧ w.heap.size + 1 < be ∧ Below w.heap.size w wc ∧ Blk wc (w.heap.size + 1) #[.int .i64 0, .int .i64 0, .int .i64 0, .slice none 0 0, .slice none 0 0] 33)
 case first =>
  go_wp2_with fail
  refine wp_region_held_drew (S := fun w' => w'.cell? ⟨w.heap.size, 0, none⟩ = some (.int .i64 O) ∧ w'.cell? ⟨w.heap.size, 1, none⟩ = some (.int .i64 E) ∧ w'.cell? ⟨w.heap.size, 2, none⟩ = some (.int .i64 M)) (by kernel_rfl) (by (try dsimp only); (exact keepA)) (fun hHeld => ?_)
  refine take_y 0 6 (v := ?_) rfl ?_ ?_; rotate_left; focus (intro w hSw; (try dsimp only at hSw); go_simp; (try rw [if_neg (by omega)]); (try with_reducible rfl))
  try simp only [Act.put, zp1, zp2, zp3]
  refine take_y 1 7 (v := ?_) rfl ?_ ?_; rotate_left; focus (intro w hSw; (try dsimp only at hSw); go_simp; (try rw [if_neg (by omega)]); (try with_reducible rfl))
  try simp only [Act.put, zp1, zp2, zp3]
  refine wpAnyH_ready (rs := [2, 4]) (by kernel_rfl) (by simp) ?_
  refine AllReadyH.cons rfl (fun K hK => ?_) (AllReadyH.cons rfl (fun K hK => ?_) AllReadyH.nil)
  ·
   go_simp
   refine (K1.out _ hbel0.drew).mono ?_
   rintro e w2 ⟨v2, rfl, ho2, hb2⟩
   obtain ⟨a2, c2, rfl⟩ := own_len8 ho2
   refine hK.out _ _ againA (fun hHeld2 => ?_); clear hHeld hK K; have hHeld := hHeld2; clear hHeld2; (try simp only [Act.put, zp1, zp2, zp3])
   have hHc := hHeld
   obtain ⟨e0, e1, e2⟩ := hHc
   have hbel2 : Below w.heap.size w w2 := by (exact grownA)
   have hR2 := hR1.drew.belowAll hb2
   have hz2 := hb2.size
   simp at hz2
   have hlt2 := own_lt ho2
   have hge2 := own_ge ho2
   simp at hge2
   clear hb2
   refine take_y 3 9 (v := ?_) rfl ?_ ?_; rotate_left; focus (intro w hSw; (try dsimp only at hSw); go_simp; (try rw [if_neg (by omega)]); (try with_reducible rfl))
   try simp only [Act.put, zp1, zp2, zp3]
   refine wpAnyH_ready (rs := [4]) (by kernel_rfl) (by simp) ?_
   refine AllReadyH.cons rfl (fun K hK => ?_) AllReadyH.nil
   go_simp
   refine hK.out _ _ againA (fun hHeld2 => ?_); clear hHeld hK K; have hHeld := hHeld2; clear hHeld2; (try simp only [Act.put, zp1, zp2, zp3])
   refine wpAnyH_ready (rs := [5]) (by kernel_rfl) (by simp) ?_
   refine AllReadyH.cons rfl (fun K hK => ?_) AllReadyH.nil
   go_simp
   refine hK.out _ _ againA (fun hHeld2 => ?_); clear hHeld hK K; have hHeld := hHeld2; clear hHeld2; (try simp only [Act.put, zp1, zp2, zp3])
   refine wpAnyH_done (by kernel_rfl) ?_ _
   clear hHeld
   go_wp2_with fail
   go_meet
   refine ⟨w2.heap.size, .slice a2 ps.length c2, rfl, Blk.new rfl, ?_, ?_, by omega, hbel2.alloc (by omega) _, hR2.alloc _⟩
   ·
    exact owns_base (by simp) (ho2.alloc _)
   ·
    intro k hk; have := hlt2 k hk; omega
  ·
   go_simp
   refine hK.out _ _ againA (fun hHeld2 => ?_); clear hHeld hK K; have hHeld := hHeld2; clear hHeld2; (try simp only [Act.put, zp1, zp2, zp3])
   have hE := Blk.new (w := (w.alloc (.cells #[.int .i64 O, .int .i64 E, .int .i64 M] 30)).alloc (.cells #[.int .i64 0, .int .i64 0, .int .i64 0, .slice none 0 0, .slice none 0 0] 33)) (cs := #[.int .i64 0, .int .i64 0, .int .i64 0, .slice none 0 0, .slice none 0 0]) (T := 33) (b := w.heap.size + 1 + 1) (by simp)
   have hR1' := hR1.alloc (.cells #[.int .i64 0, .int .i64 0, .int .i64 0, .slice none 0 0, .slice none 0 0] 33)
   have hbel1 : Below w.heap.size w (((w.alloc (.cells #[.int .i64 O, .int .i64 E, .int .i64 M] 30)).alloc (.cells #[.int .i64 0, .int .i64 0, .int .i64 0, .slice none 0 0, .slice none 0 0] 33)).alloc (.cells #[.int .i64 0, .int .i64 0, .int .i64 0, .slice none 0 0, .slice none 0 0] 33)) := by (exact grownA)
   refine wpAnyH_ready (rs := [2]) (by kernel_rfl) (by simp) ?_
   refine AllReadyH.cons rfl (fun K hK => ?_) AllReadyH.nil
   go_simp
   refine (K1.out _ hbel1.drew).mono ?_
   rintro e w2 ⟨v2, rfl, ho2, hb2⟩
   obtain ⟨a2, c2, rfl⟩ := own_len8 ho2
   refine hK.out _ _ againA (fun hHeld2 => ?_); clear hHeld hK K; have hHeld := hHeld2; clear hHeld2; (try simp only [Act.put, zp1, zp2, zp3])
   have hHc := hHeld
   obtain ⟨e0, e1, e2⟩ := hHc
   have hbel2 : Below w.heap.size w w2 := (hbel1.drew).trans (Below.mono hb2 (hbel1.drew).size)
   have hR2 := hR1'.drew.belowAll hb2
   have hE2 := hE.drew.belowAll hb2
   have hz2 := hb2.size
   simp at hz2
   have hlt2 := own_lt ho2
   have hge2 := own_ge ho2
   simp at hge2
   clear hb2 hbel1 hE hR1'
   obtain ⟨q0, q1, q2, q3, q4, k0, k1, k2, k3, k4, qlt⟩ := hE2.five
   refine take_y 3 9 (v := ?_) rfl ?_ ?_; rotate_left; focus (intro w hSw; (try dsimp only at hSw); go_simp; (try rw [if_neg (by omega)]); (try with_reducible rfl))
   try simp only [Act.put, zp1, zp2, zp3]
   refine wpAnyH_ready (rs := [5]) (by kernel_rfl) (by simp) ?_
   refine AllReadyH.cons rfl (fun K hK => ?_) AllReadyH.nil
   go_simp
   refine hK.out _ _ againA (fun hHeld2 => ?_); clear hHeld hK K; have hHeld := hHeld2; clear hHeld2; (try simp only [Act.put, zp1, zp2, zp3])
   refine wpAnyH_done (by kernel_rfl) ?_ _
   clear hHeld
   go_wp2_with fail
   go_meet
   have hne2 : Value.ownBlock (.slice a2 ps.length c2) = none ∨ Value.ownBlock (.slice a2 ps.length c2) ≠ some (w.heap.size + 1 + 1) := by
    cases hv : Value.ownBlock (.slice a2 ps.length c2) with
    | none => exact .inl rfl
    | some x => exact .inr (fun e => by have := hge2 x hv; cases e; omega)
   refine ⟨w.heap.size + 1 + 1, .slice a2 ps.length c2, rfl, ?_, ?_, ?_, by omega, ?_, ?_⟩
   ·
    exact ((((hE2.set (i := 0) (u := .int .i64 O) rfl).set (i := 1) (u := .int .i64 E) rfl).set (i := 2) (u := .int .i64 M) rfl).set (i := 3) (u := .slice a2 ps.length c2) rfl).set (i := 4) (u := .slice none 0 0) rfl
   ·
    have hg : w2.grownBy (((((w2.setCell ⟨w.heap.size + 1 + 1, 0, none⟩ (.int .i64 O)).setCell ⟨w.heap.size + 1 + 1, 1, none⟩ (.int .i64 E)).setCell ⟨w.heap.size + 1 + 1, 2, none⟩ (.int .i64 M)).setCell ⟨w.heap.size + 1 + 1, 3, none⟩ (.slice a2 ps.length c2)).setCell ⟨w.heap.size + 1 + 1, 4, none⟩ (.slice none 0 0)) (some (w.heap.size + 1 + 1)) := gb_set (gb_set (gb_set (gb_set (gb_set (World.grownBy.refl _ _)))))
    exact owns_base (by first | (simp; done) | (simp; omega)) (ho2.kept hg hne2)
   ·
    intro k hk; have := hge2 k hk; omega
   ·
    exact ((((hbel2.setCell (by simp; omega) _).setCell (by simp; omega) _).setCell (by simp; omega) _).setCell (by simp; omega) _).setCell (by simp; omega) _
   ·
    exact (((((hR2.other (by simp)).other (by simp)).other (by simp)).other (by simp)).other (by simp))
 case rest =>
  obtain ⟨be, v', rfl, hBe, ho, hne, hbe, hbel, hR⟩ := hcut
  obtain ⟨a2, c2, rfl⟩ := own_len8 ho
  obtain ⟨p0, p1, p2, p3, p4, _, _, _, _, _, plt⟩ := hBe.five
  have hge := own_ge ho
  clear t1 t2 t3 tlt
  go_wp2_with fail
  refine (iExchangeValid_any O E M _ _ ps [] _ ⟨Rds.ofOwns ho, ⟨rfl, by simp, _, _, rfl, Nat.le_refl _, .inl rfl⟩⟩ HL.out).mono ?_
  rintro e w3 ⟨rfl, hb3⟩
  have hbel3 : Below w.heap.size w w3 := by (exact grownA)
  have hBe3 := hBe.belowAll hb3
  have hR3 := hR.belowAll hb3
  have ho3 := owns_below hb3 ho
  clear hBe hR ho hb3 p0 p1 p2 p3 p4 plt
  obtain ⟨p0, p1, p2, p3, p4, _, _, _, _, _, plt⟩ := hBe3.five
  obtain ⟨q0, q1, q2, q3, q4, k0, k1, k2, k3, k4, qlt⟩ := hR3.five
  obtain ⟨d, hd⟩ : ∃ d, exB O E M ps [] = d := ⟨_, rfl⟩
  have HD := Lib.hid hd
  rw [hd]
  clear hd
  have hne1 : ∀ k, Value.ownBlock (.slice a2 ps.length c2) = some k → k ≠ w.heap.size + 1 := fun k hk => by have := hge k hk; omega
  have hne2 : Value.ownBlock (.slice a2 ps.length c2) = none ∨ Value.ownBlock (.slice a2 ps.length c2) ≠ some (w.heap.size + 1) := by
   cases hv : Value.ownBlock (.slice a2 ps.length c2) with
   | none => exact .inl rfl
   | some x => exact .inr (fun e => by have := hne1 x hv; cases e; omega)
  cases d
  ·
   have HF : Hid (newE O E M ps = (0, 0, 0, [])) := by unfold Hid newE; rw [HD.out]; rfl
   go_wp2
   refine bodyPost_ret (v := .agg #[.int .i64 0, .int .i64 0, .int .i64 0, .slice none 0 0, .slice none 0 0]) (by simp [results, Try.results30, go_sem, q0, q1, q2, q3, q4]) rfl ?_
   unfold NewPost
   rw [HF.out]
   exact ⟨_, _, rfl, ExOwn.nothing _ _, by (exact grownA)⟩
  ·
   have HF : Hid (newE O E M ps = (O, E, M, ps)) := by unfold Hid newE; rw [HD.out]; rfl
   go_wp2
   refine bodyPost_ret (v := .agg #[.int .i64 O, .int .i64 E, .int .i64 M, .slice a2 ps.length c2, .slice none 0 0]) (by simp [results, Try.results30, go_sem, q0, q1, q2, q3, q4]) rfl ?_
   unfold NewPost
   rw [HF.out]
   have hg : w3.grownBy (((((w3.setCell ⟨w.heap.size + 1, 0, none⟩ (.int .i64 O)).setCell ⟨w.heap.size + 1, 1, none⟩ (.int .i64 E)).setCell ⟨w.heap.size + 1, 2, none⟩ (.int .i64 M)).setCell ⟨w.heap.size + 1, 3, none⟩ (.slice a2 ps.length c2)).setCell ⟨w.heap.size + 1, 4, none⟩ (.slice none 0 0)) (some (w.heap.size + 1)) := gb_set (gb_set (gb_set (gb_set (gb_set (World.grownBy.refl _ _)))))
   have hap : Value.ownBlock (.slice a2 ps.length c2) = none ∨ Value.ownBlock (.slice a2 ps.length c2) ≠ Value.ownBlock (.slice none 0 0) := by
    cases hv : Value.ownBlock (.slice a2 ps.length c2) with
    | none => exact .inl rfl
    | some x => exact .inr (fun e => by cases e)
   exact ⟨_, _, rfl, ⟨owns_base (by omega) (ho3.kept hg hne2), World.ownsRow_nil _ _ _ _, hap⟩, ((((hbel3.setCell (by simp) _).setCell (by simp) _).setCell (by simp) _).setCell (by simp) _).setCell (by simp) _⟩

end Go.Proofs.Ytedadhoneebfnaa
