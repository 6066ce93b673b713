/- Plain mathematics of routes: which of them matter. No program in sight. -/
import Derived.Test.YtcacedcbboidoaaRo
set_option linter.unusedSimpArgs false
set_option linter.unusedVariables false
namespace Go.Proofs.Ytcacedcbboidoaa
open Go.RowKit

/-! Which routes matter. -/
theorem routes_pair {rs : List Rt} : RoutesOk rs ↔ rs.length ≤ 8 ∧ (∀ r ∈ rs, rtB r = true) ∧ rs.Pairwise (fun r s => r.1 ≠ s.1) := by
  constructor
  · intro h
    refine ⟨h.1, fun r hr => ?_, ?_⟩
    · obtain ⟨k, hk⟩ := List.mem_iff_getElem?.1 hr
      exact h.at k r hk
    · rw [List.pairwise_iff_getElem]
      intro i j hi hj hij
      exact h.2.2 i j rs[i] rs[j] hij hj (List.getElem?_eq_getElem hi) (List.getElem?_eq_getElem hj)
  · intro ⟨h1, h2, h3⟩
    refine ⟨h1, fun j r _ hr => h2 r (List.mem_of_getElem? hr), fun i j r s hij hj hr hs => ?_⟩
    rw [List.pairwise_iff_getElem] at h3
    obtain ⟨hi, e1⟩ := List.getElem?_eq_some_iff.1 hr
    obtain ⟨hj', e2⟩ := List.getElem?_eq_some_iff.1 hs
    have := h3 i j hi hj' hij
    rw [e1, e2] at this
    exact this
theorem RoutesOk.inj {rs : List Rt} (h : RoutesOk rs) {r s : Rt} (hr : r ∈ rs) (hs : s ∈ rs) (e : r.1 = s.1) : r = s := by
  obtain ⟨i, hi⟩ := List.mem_iff_getElem?.1 hr
  obtain ⟨j, hj⟩ := List.mem_iff_getElem?.1 hs
  have li := (List.getElem?_eq_some_iff.1 hi).1
  have lj := (List.getElem?_eq_some_iff.1 hj).1
  rcases Nat.lt_trichotomy i j with hl | hl | hl
  · exact absurd e (h.2.2 i j r s hl lj hi hj)
  · subst hl; rw [hi] at hj; exact Option.some.inj hj
  · exact absurd e.symm (h.2.2 j i s r hl li hj hi)
/-- The table without what begins with b. -/
def Wo (rs : List Rt) (b : ByteArray) : List Rt := rs.filter fun r => decide (r.1 ≠ b)
theorem Wo.mem {rs : List Rt} {b : ByteArray} {r : Rt} : r ∈ Wo rs b ↔ r ∈ rs ∧ r.1 ≠ b := by simp [Wo, List.mem_filter]
theorem Wo.ok {rs : List Rt} (h : RoutesOk rs) (b : ByteArray) : RoutesOk (Wo rs b) := by
  rw [routes_pair] at h ⊢
  exact ⟨Nat.le_trans (List.length_filter_le _ _) h.1, fun r hr => h.2.1 r (Wo.mem.1 hr).1, h.2.2.sublist List.filter_sublist⟩
theorem Wo.of {rs : List Rt} (h : rs.Pairwise (fun r s => r.1 ≠ s.1)) : ∀ {k : Nat} {r : Rt}, rs[k]? = some r → rs.eraseIdx k = Wo rs r.1 := by
  induction rs with
  | nil => intro k r hk; simp at hk
  | cons x rs ih =>
    intro k r hk
    rw [List.pairwise_cons] at h
    cases k with
    | zero =>
      simp at hk
      subst hk
      rw [Wo, List.filter_cons_of_neg (by simp), List.eraseIdx_cons_zero]
      exact (List.filter_eq_self.2 fun y hy => by simp; exact fun e => h.1 y hy e.symm).symm
    | succ k =>
      have hk' : rs[k]? = some r := by simpa using hk
      have hne := h.1 r (List.mem_of_getElem? hk')
      rw [List.eraseIdx_cons_succ, ih h.2 hk', Wo, Wo, List.filter_cons_of_pos (by simpa using hne)]

/-- The outlet of the longest beginning; -1 if there is none. -/
def Best (rs : List Rt) (s : ByteArray) (o : Int) : Prop :=
  (∃ r ∈ rs, preB s r.1 = true ∧ (∀ t ∈ rs, preB s t.1 = true → t.1.size ≤ r.1.size) ∧ o = r.2) ∨ (∀ r ∈ rs, preB s r.1 = false) ∧ o = -1
theorem Best.congr {rs us : List Rt} {s : ByteArray} {o : Int} (h : ∀ r, r ∈ rs ↔ r ∈ us) (hb : Best rs s o) : Best us s o := by
  rcases hb with ⟨r, h1, h2, h3, h4⟩ | ⟨h1, h2⟩
  · exact .inl ⟨r, (h r).1 h1, h2, fun t ht => h3 t ((h t).2 ht), h4⟩
  · exact .inr ⟨fun r hr => h1 r ((h r).2 hr), h2⟩
theorem pre_le {s a : ByteArray} (h : preB s a = true) : a.size ≤ s.size := by
  unfold preB at h
  rw [List.isPrefixOf_iff_prefix] at h
  simpa using h.length_le
theorem pre_trans {s a b : ByteArray} (h : preB s a = true) (h' : preB a b = true) : preB s b = true := by
  unfold preB at *
  rw [List.isPrefixOf_iff_prefix] at *
  exact h'.trans h
theorem pre_of_le {s a b : ByteArray} (h : preB s a = true) (h' : preB s b = true) (hl : a.size ≤ b.size) : preB b a = true := by
  unfold preB at *
  rw [List.isPrefixOf_iff_prefix] at *
  exact List.prefix_of_prefix_length_le h h' (by simpa using hl)
theorem pre_eq {s a b : ByteArray} (h : preB s a = true) (h' : preB s b = true) (hl : a.size = b.size) : a = b := by
  have h1 := pre_of_le h h' (Nat.le_of_eq hl)
  unfold preB at h1
  rw [List.isPrefixOf_iff_prefix] at h1
  exact bytes_ext (h1.eq_of_length (by simpa using hl))
theorem Best.unique {rs : List Rt} (hok : RoutesOk rs) {s : ByteArray} {o p : Int} (h : Best rs s o) (h' : Best rs s p) : o = p := by
  rcases h with ⟨r, h1, h2, h3, rfl⟩ | ⟨h1, rfl⟩
  · rcases h' with ⟨t, g1, g2, g3, rfl⟩ | ⟨g1, rfl⟩
    · have e := pre_eq h2 g2 (Nat.le_antisymm (g3 r h1 h2) (h3 t g1 g2))
      rw [hok.inj h1 g1 e]
    · rw [g1 r h1] at h2; cases h2
  · rcases h' with ⟨t, g1, g2, g3, rfl⟩ | ⟨g1, rfl⟩
    · rw [h1 t g1] at g2; cases g2
    · rfl
theorem routeTo_best (s : ByteArray) (rs : List Rt) : ∀ k, k ≤ rs.length →
    ((routeTo s rs k).2 = -1 ∧ (routeTo s rs k).1 = -1 ∧ (∀ r ∈ rs.take k, preB s r.1 = false)) ∨
    (∃ r ∈ rs.take k, preB s r.1 = true ∧ (∀ t ∈ rs.take k, preB s t.1 = true → t.1.size ≤ r.1.size) ∧ (routeTo s rs k).1 = r.2 ∧ (routeTo s rs k).2 = r.1.size) := by
  intro k
  induction k with
  | zero => intro _; left; simp [routeTo]
  | succ k ih =>
    intro hk
    obtain ⟨r, hr⟩ : ∃ r, rs[k]? = some r := ⟨_, List.getElem?_eq_getElem (by omega)⟩
    have hmem : ∀ t, t ∈ rs.take (k + 1) ↔ t ∈ rs.take k ∨ t = r := by
      intro t; rw [List.take_add_one, hr]; simp
    rw [routeTo_step s rs k r hr, routeStep]
    rcases ih (by omega) with ⟨h1, h2, h3⟩ | ⟨t, h1, h2, h3, h4, h5⟩
    · by_cases hp : preB s r.1 = true
      · right
        rw [if_pos (by rw [hp, h1]; simp; omega)]
        refine ⟨r, (hmem r).2 (.inr rfl), hp, fun t ht htp => ?_, rfl, rfl⟩
        rcases (hmem t).1 ht with ht | rfl
        · rw [h3 t ht] at htp; cases htp
        · exact Nat.le_refl _
      · left
        rw [if_neg (by simp [hp])]
        refine ⟨h1, h2, fun t ht => ?_⟩
        rcases (hmem t).1 ht with ht | rfl
        · exact h3 t ht
        · simpa using hp
    · right
      by_cases hp : preB s r.1 = true ∧ t.1.size < r.1.size
      · rw [if_pos (by rw [hp.1, h5]; simp; omega)]
        refine ⟨r, (hmem r).2 (.inr rfl), hp.1, fun u hu hup => ?_, rfl, rfl⟩
        rcases (hmem u).1 hu with hu | rfl
        · have := h3 u hu hup; omega
        · exact Nat.le_refl _
      · rw [if_neg (by rw [h5, Bool.and_eq_true, decide_eq_true_eq]; intro e; exact hp ⟨e.1, by omega⟩)]
        refine ⟨t, (hmem t).2 (.inl h1), h2, fun u hu hup => ?_, h4, h5⟩
        rcases (hmem u).1 hu with hu | rfl
        · exact h3 u hu hup
        · refine Classical.byContradiction fun hn => hp ⟨hup, by omega⟩
theorem routeR_best {rs : List Rt} (hok : RoutesOk rs) {s : ByteArray} (hs : digsB s = true) : Best rs s (routeR rs s) := by
  rw [routeR, if_pos (by rw [(routesB_iff rs).2 hok, hs]; rfl)]
  rcases routeTo_best s rs rs.length (Nat.le_refl _) with ⟨_, h2, h3⟩ | ⟨r, h1, h2, h3, h4, _⟩
  · right; rw [List.take_length] at h3; exact ⟨h3, h2⟩
  · left; rw [List.take_length] at h1 h3; exact ⟨r, h1, h2, h3, h4⟩
theorem routeR_iff {rs : List Rt} (hok : RoutesOk rs) {s : ByteArray} (hs : digsB s = true) (o : Int) : routeR rs s = o ↔ Best rs s o :=
  ⟨fun e => e ▸ routeR_best hok hs, fun h => Best.unique hok (routeR_best hok hs) h⟩
/-- What does not matter can go. -/
theorem Best.without {rs : List Rt} (hok : RoutesOk rs) {r : Rt} (hr : r ∈ rs) (hm : Best (Wo rs r.1) r.1 r.2) {s : ByteArray} {o : Int} (h : Best rs s o) : Best (Wo rs r.1) s o := by
  have hcase : preB s r.1 = true → (∀ t ∈ rs, preB s t.1 = true → t.1.size ≤ r.1.size) → Best (Wo rs r.1) s r.2 := by
    intro h2 h3
    rcases hm with ⟨u, g1, g2, g3, g4⟩ | ⟨g1, g2⟩
    · refine .inl ⟨u, g1, pre_trans h2 g2, fun t ht htp => ?_, g4⟩
      exact g3 t ht (pre_of_le htp h2 (h3 t (Wo.mem.1 ht).1 htp))
    · refine .inr ⟨fun t ht => ?_, g2⟩
      rw [Bool.eq_false_iff]
      intro htp
      have := g1 t ht
      rw [pre_of_le htp h2 (h3 t (Wo.mem.1 ht).1 htp)] at this
      cases this
  rcases h with ⟨u, h1, h2, h3, rfl⟩ | ⟨h1, rfl⟩
  · by_cases e : u.1 = r.1
    · have := hok.inj h1 hr e
      subst this
      exact hcase h2 h3
    · exact .inl ⟨u, Wo.mem.2 ⟨h1, e⟩, h2, fun t ht => h3 t (Wo.mem.1 ht).1, rfl⟩
  · exact .inr ⟨fun t ht => h1 t (Wo.mem.1 ht).1, rfl⟩
/-- What cannot be meant can go. -/
theorem Best.other {rs : List Rt} {b s : ByteArray} {o : Int} (hb : preB s b = false) : Best (Wo rs b) s o ↔ Best rs s o := by
  have hne : ∀ t : Rt, preB s t.1 = true → t.1 ≠ b := fun t ht e => by rw [e, hb] at ht; cases ht
  constructor
  · rintro (⟨u, h1, h2, h3, h4⟩ | ⟨h1, h2⟩)
    · exact .inl ⟨u, (Wo.mem.1 h1).1, h2, fun t ht htp => h3 t (Wo.mem.2 ⟨ht, hne t htp⟩) htp, h4⟩
    · refine .inr ⟨fun t ht => ?_, h2⟩
      rw [Bool.eq_false_iff]
      intro htp
      have := h1 t (Wo.mem.2 ⟨ht, hne t htp⟩)
      rw [htp] at this; cases this
  · rintro (⟨u, h1, h2, h3, h4⟩ | ⟨h1, h2⟩)
    · exact .inl ⟨u, Wo.mem.2 ⟨h1, hne u h2⟩, h2, fun t ht htp => h3 t (Wo.mem.1 ht).1 htp, h4⟩
    · exact .inr ⟨fun t ht => h1 t (Wo.mem.1 ht).1, h2⟩

/-- Whether the route matters. -/
def Matters (rs : List Rt) (r : Rt) : Prop := ¬ Best (Wo rs r.1) r.1 r.2
theorem rt_digs {rs : List Rt} (h : RoutesOk rs) {r : Rt} (hr : r ∈ rs) : digsB r.1 = true ∧ r.1.size ≤ 3 ∧ 0 ≤ r.2 := by
  have := (routes_pair.1 h).2.1 r hr
  simp only [rtB, Bool.and_eq_true, decide_eq_true_eq] at this
  exact ⟨this.1.2, this.1.1, this.2.1⟩
theorem Best.exists {rs : List Rt} (hok : RoutesOk rs) {s : ByteArray} (hs : digsB s = true) : ∃ o, Best rs s o := ⟨_, routeR_best hok hs⟩
/-- Where a route is taken away that is no longer and does not matter, the others go on to matter. -/
theorem Matters.keep {rs : List Rt} (hok : RoutesOk rs) {r t : Rt} (hr : r ∈ rs) (ht : t ∈ rs) (hne : r.1 ≠ t.1) (hl : t.1.size ≤ r.1.size) (hm : Matters rs r) (hb : Best (Wo rs t.1) t.1 t.2) : Matters (Wo rs t.1) r := by
  intro hbest
  have hswap : ∀ x, x ∈ Wo (Wo rs t.1) r.1 ↔ x ∈ Wo (Wo rs r.1) t.1 := by
    intro x; simp only [Wo.mem]
    exact ⟨fun h => ⟨⟨h.1.1, h.2⟩, h.1.2⟩, fun h => ⟨⟨h.1.1, h.2⟩, h.1.2⟩⟩
  have hnp : preB t.1 r.1 = false := by
    rw [Bool.eq_false_iff]
    intro hp
    have h1 := pre_le hp
    have hpre : preB t.1 t.1 = true := by unfold preB; rw [List.isPrefixOf_iff_prefix]; exact List.prefix_refl _
    exact hne (pre_eq hp hpre (by omega))
  have h1 : Best (Wo (Wo rs r.1) t.1) t.1 t.2 := ((Best.other hnp).2 hb).congr hswap
  have htm : t ∈ Wo rs r.1 := Wo.mem.2 ⟨ht, fun e => hne e.symm⟩
  obtain ⟨o, ho⟩ := Best.exists (Wo.ok hok r.1) (rt_digs hok hr).1
  have h2 := Best.without (Wo.ok hok r.1) htm h1 ho
  have h3 := Best.unique (Wo.ok (Wo.ok hok r.1) t.1) h2 (hbest.congr hswap)
  subst h3
  exact hm ho

/-- One pass over the routes with beginnings of length L, from the place k on. -/
noncomputable def lessTo (L : Nat) (rs : List Rt) (k : Nat) : List Rt :=
  if h : k < rs.length then
    if (decide (rs[k].1.size = L) && decide (routeR (rs.eraseIdx k) rs[k].1 = rs[k].2)) = true then lessTo L (rs.eraseIdx k) k else lessTo L rs (k + 1)
  else rs
termination_by rs.length - k
decreasing_by
  · rw [List.length_eraseIdx_of_lt h]; omega
  · omega
theorem lessTo_end {L : Nat} {rs : List Rt} {k : Nat} (h : rs.length ≤ k) : lessTo L rs k = rs := by
  rw [lessTo, dif_neg (by omega)]
theorem lessTo_go {L : Nat} {rs : List Rt} {k : Nat} {r : Rt} (hr : rs[k]? = some r) (h1 : r.1.size = L) (h2 : routeR (rs.eraseIdx k) r.1 = r.2) : lessTo L rs k = lessTo L (rs.eraseIdx k) k := by
  obtain ⟨hk, e⟩ := List.getElem?_eq_some_iff.1 hr
  rw [lessTo, dif_pos hk, if_pos (by rw [e]; simp [h1, h2])]
theorem lessTo_stay {L : Nat} {rs : List Rt} {k : Nat} {r : Rt} (hr : rs[k]? = some r) (h : ¬ (r.1.size = L ∧ routeR (rs.eraseIdx k) r.1 = r.2)) : lessTo L rs k = lessTo L rs (k + 1) := by
  obtain ⟨hk, e⟩ := List.getElem?_eq_some_iff.1 hr
  conv => lhs; rw [lessTo]
  rw [dif_pos hk, if_neg (by rw [e, Bool.and_eq_true, decide_eq_true_eq, decide_eq_true_eq]; exact h)]
/-- The passes over lengths below n, from the longest on. -/
noncomputable def lessFrom : Nat → List Rt → List Rt
  | 0, rs => rs
  | n + 1, rs => lessFrom n (lessTo n rs 0)
noncomputable def lessR (rs : List Rt) : List Rt := if routesB rs = true then lessFrom 4 rs else []

/-- What the passes keep: the same outlets; and those looked at matter. -/
def LessOk (rs us : List Rt) : Prop := RoutesOk us ∧ us.length ≤ rs.length ∧ ∀ s o, digsB s = true → Best rs s o → Best us s o
theorem lessTo_ok (L : Nat) (rs us : List Rt) (k : Nat) (h : LessOk rs us) (hm : ∀ (j : Nat) (r : Rt), us[j]? = some r → (L < r.1.size ∨ r.1.size = L ∧ j < k) → Matters us r) :
    LessOk rs (lessTo L us k) ∧ ∀ r ∈ lessTo L us k, L ≤ r.1.size → Matters (lessTo L us k) r := by
  by_cases hk : k < us.length
  · obtain ⟨hok, hlen, hbest⟩ := h
    have hr := List.getElem?_eq_getElem hk
    generalize us[k] = r at hr
    have hrm := List.mem_of_getElem? hr
    have hwo := Wo.of (routes_pair.1 hok).2.2 hr
    by_cases hgo : r.1.size = L ∧ routeR (us.eraseIdx k) r.1 = r.2
    · have hwok := Wo.ok hok r.1
      have hb : Best (Wo us r.1) r.1 r.2 := (routeR_iff hwok (rt_digs hok hrm).1 _).1 (by rw [← hwo]; exact hgo.2)
      have hlt : (Wo us r.1).length < us.length := by rw [← hwo, List.length_eraseIdx_of_lt hk]; omega
      rw [lessTo_go hr hgo.1 hgo.2, hwo]
      refine lessTo_ok L rs (Wo us r.1) k ⟨hwok, by omega, fun s o hs hso => Best.without hok hrm hb (hbest s o hs hso)⟩ ?_
      intro j t ht hjt
      have htm := Wo.mem.1 (List.mem_of_getElem? ht)
      have hold : Matters us t := by
        rcases hjt with hjt | ⟨h1, h2⟩
        · obtain ⟨i, hi⟩ := List.mem_iff_getElem?.1 htm.1
          exact hm i t hi (.inl hjt)
        · refine hm j t ?_ (.inr ⟨h1, h2⟩)
          rw [← hwo, List.getElem?_eraseIdx_of_lt h2] at ht
          exact ht
      exact hold.keep hok htm.1 hrm htm.2 (by omega) hb
    · rw [lessTo_stay hr hgo]
      refine lessTo_ok L rs us (k + 1) ⟨hok, hlen, hbest⟩ ?_
      intro j t ht hjt
      rcases hjt with hjt | ⟨h1, h2⟩
      · exact hm j t ht (.inl hjt)
      · by_cases e : j = k
        · subst e
          rw [hr] at ht
          cases ht
          intro hb
          exact hgo ⟨h1, by rw [hwo]; exact (routeR_iff (Wo.ok hok r.1) (rt_digs hok hrm).1 _).2 hb⟩
        · exact hm j t ht (.inr ⟨h1, by omega⟩)
  · rw [lessTo_end (by omega)]
    refine ⟨h, fun r hr hl => ?_⟩
    obtain ⟨j, hj⟩ := List.mem_iff_getElem?.1 hr
    have := (List.getElem?_eq_some_iff.1 hj).1
    exact hm j r hj (by omega)
termination_by us.length - k
theorem lessFrom_ok (rs : List Rt) : ∀ (n : Nat) (us : List Rt), LessOk rs us → (∀ r ∈ us, n ≤ r.1.size → Matters us r) → LessOk rs (lessFrom n us) ∧ ∀ r ∈ lessFrom n us, Matters (lessFrom n us) r := by
  intro n
  induction n with
  | zero => intro us h hm; exact ⟨h, fun r hr => hm r hr (Nat.zero_le _)⟩
  | succ n ih =>
    intro us h hm
    obtain ⟨h1, h2⟩ := lessTo_ok n rs us 0 h (fun j r hj hr => hm r (List.mem_of_getElem? hj) (by omega))
    exact ih _ h1 h2
theorem lessR_ok {rs : List Rt} (h : RoutesOk rs) : RoutesOk (lessR rs) ∧ (lessR rs).length ≤ rs.length ∧ (∀ s, digsB s = true → routeR (lessR rs) s = routeR rs s) ∧
    ∀ (k : Nat) (r : Rt), (lessR rs)[k]? = some r → routeR ((lessR rs).eraseIdx k) r.1 ≠ r.2 := by
  rw [lessR, if_pos ((routesB_iff rs).2 h)]
  obtain ⟨⟨h1, h2, h3⟩, h4⟩ := lessFrom_ok rs 4 rs ⟨h, Nat.le_refl _, fun _ _ _ hb => hb⟩ (fun r hr hl => absurd (rt_digs h hr).2.1 (by omega))
  refine ⟨h1, h2, fun s hs => ?_, fun k r hk e => ?_⟩
  · exact (routeR_iff h1 hs _).2 (h3 s _ hs (routeR_best h hs))
  · have hm := List.mem_of_getElem? hk
    rw [Wo.of (routes_pair.1 h1).2.2 hk] at e
    exact h4 r hm ((routeR_iff (Wo.ok h1 r.1) (rt_digs h1 hm).1 _).1 e)

end Go.Proofs.Ytcacedcbboidoaa
