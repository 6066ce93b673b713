/- Joining the four rarest groups again and again is cheapest. Plain lists and numbers; no program in sight. -/
namespace Go.Proofs.Ytcacedcbboidoaa

/-- A group: how often it is dialled, and how long its number is. -/
abbrev WL := Int × Nat
def wsum : List WL → Int
  | [] => 0
  | p :: ps => p.1 + wsum ps
def costL : List WL → Int
  | [] => 0
  | p :: ps => p.1 * p.2 + costL ps
def krf (L : Nat) : List WL → Nat
  | [] => 0
  | p :: ps => 4 ^ (L - p.2) + krf L ps
def lenS : List WL → Nat
  | [] => 0
  | p :: ps => p.2 + lenS ps
theorem perm_costL {ps qs : List WL} (h : ps.Perm qs) : costL ps = costL qs := by
  induction h with
  | nil => rfl
  | cons x _ ih => simp only [costL, ih]
  | swap x y l => simp only [costL]; omega
  | trans _ _ i1 i2 => exact i1.trans i2
theorem perm_wsum {ps qs : List WL} (h : ps.Perm qs) : wsum ps = wsum qs := by
  induction h with
  | nil => rfl
  | cons x _ ih => simp only [wsum, ih]
  | swap x y l => simp only [wsum]; omega
  | trans _ _ i1 i2 => exact i1.trans i2
theorem perm_krf {ps qs : List WL} (L : Nat) (h : ps.Perm qs) : krf L ps = krf L qs := by
  induction h with
  | nil => rfl
  | cons x _ ih => simp only [krf, ih]
  | swap x y l => simp only [krf]; omega
  | trans _ _ i1 i2 => exact i1.trans i2
theorem perm_lenS {ps qs : List WL} (h : ps.Perm qs) : lenS ps = lenS qs := by
  induction h with
  | nil => rfl
  | cons x _ ih => simp only [lenS, ih]
  | swap x y l => simp only [lenS]; omega
  | trans _ _ i1 i2 => exact i1.trans i2

/-- All lengths at most L, and the shares not too great. -/
def Fits (L : Nat) (ps : List WL) : Prop := (∀ p ∈ ps, p.2 ≤ L) ∧ krf L ps ≤ 4 ^ L
theorem Fits.perm {L : Nat} {ps qs : List WL} (h : ps.Perm qs) (hf : Fits L ps) : Fits L qs :=
  ⟨fun p hp => hf.1 p (h.mem_iff.2 hp), by rw [← perm_krf L h]; exact hf.2⟩

theorem perm_pull {α β : Type} {f : α → β} : ∀ {ps : List α} {x : β} {ys : List β}, (ps.map f).Perm (x :: ys) → ∃ p qs, ps.Perm (p :: qs) ∧ f p = x ∧ (qs.map f).Perm ys := by
  intro ps x ys h
  have hx : x ∈ ps.map f := h.mem_iff.2 (by simp)
  obtain ⟨p, hp, rfl⟩ := List.mem_map.1 hx
  obtain ⟨l1, l2, rfl⟩ := List.append_of_mem hp
  have hperm : (l1 ++ p :: l2).Perm (p :: (l1 ++ l2)) := List.perm_middle
  refine ⟨p, l1 ++ l2, hperm, rfl, ?_⟩
  have := (hperm.map f).symm.trans h
  simpa using this
theorem perm_lift {α β : Type} {f : α → β} : ∀ (xs : List β) {ps : List α}, (ps.map f).Perm xs → ∃ qs, ps.Perm qs ∧ qs.map f = xs := by
  intro xs
  induction xs with
  | nil => intro ps h; have := h.eq_nil; simp at this; exact ⟨[], by rw [this], rfl⟩
  | cons x xs ih =>
    intro ps h
    obtain ⟨p, qs, h1, h2, h3⟩ := perm_pull h
    obtain ⟨rs, h4, h5⟩ := ih h3
    exact ⟨p :: rs, h1.trans (h4.cons p), by simp [h2, h5]⟩

theorem pow4_mod3 (n : Nat) : 4 ^ n % 3 = 1 := by
  induction n with
  | zero => rfl
  | succ n ih => rw [Nat.pow_succ]; omega
theorem krf_mod3 (L : Nat) (ps : List WL) : krf L ps % 3 = ps.length % 3 := by
  induction ps with
  | nil => rfl
  | cons p ps ih => have := pow4_mod3 (L - p.2); simp only [krf, List.length_cons]; omega
theorem pow4_pos (n : Nat) : 0 < 4 ^ n := Nat.pow_pos (by decide)
theorem pow4_lt {L l : Nat} (h : l < L) : 4 ^ (L - l) % 4 = 0 := by
  obtain ⟨k, hk⟩ : ∃ k, L - l = k + 1 := ⟨L - l - 1, by omega⟩
  rw [hk, Nat.pow_succ]; omega
theorem krf_mod4 (L : Nat) (ps : List WL) (h : ∀ p ∈ ps, p.2 < L) : krf L ps % 4 = 0 := by
  induction ps with
  | nil => rfl
  | cons p ps ih =>
    have h1 := pow4_lt (h p (by simp))
    have h2 := ih (fun q hq => h q (by simp [hq]))
    simp only [krf]; omega
theorem krf_less (L : Nat) (ps : List WL) (h : ∀ p ∈ ps, p.2 ≤ L) : krf (L + 1) ps = 4 * krf L ps := by
  induction ps with
  | nil => rfl
  | cons p ps ih =>
    have h1 := h p (by simp)
    have h2 := ih (fun q hq => h q (by simp [hq]))
    have e : L + 1 - p.2 = (L - p.2) + 1 := by omega
    simp only [krf, h2, e, Nat.pow_succ]; omega
theorem krf_app (L : Nat) (ps qs : List WL) : krf L (ps ++ qs) = krf L ps + krf L qs := by
  induction ps with
  | nil => simp [krf]
  | cons p ps ih => simp only [List.cons_append, krf, ih]; omega
theorem costL_app (ps qs : List WL) : costL (ps ++ qs) = costL ps + costL qs := by
  induction ps with
  | nil => simp [costL]
  | cons p ps ih => simp only [List.cons_append, costL, ih]; omega
theorem krf_all (L : Nat) (ps : List WL) (h : ∀ p ∈ ps, p.2 = L) : krf L ps = ps.length := by
  induction ps with
  | nil => rfl
  | cons p ps ih =>
    have h1 := h p (by simp)
    have h2 := ih (fun q hq => h q (by simp [hq]))
    simp only [krf, h2, h1, Nat.sub_self, List.length_cons]; omega
theorem costL_all (L : Nat) (ps : List WL) (h : ∀ p ∈ ps, p.2 = L) : costL ps = wsum ps * L := by
  induction ps with
  | nil => simp [costL, wsum]
  | cons p ps ih =>
    have h1 := h p (by simp)
    have h2 := ih (fun q hq => h q (by simp [hq]))
    simp only [costL, wsum, h2, h1, Int.add_mul]

/-- The four that are joined, and the others: what it costs at least. -/
theorem low_step (S : Int) (rest : List Int) (t : Int) (hmod : rest.length % 3 = 0)
    (IH : ∀ (ps : List WL) (L : Nat), (ps.map Prod.fst).Perm (S :: rest) → Fits L ps → t ≤ costL ps) :
    ∀ (M L : Nat) (fs qs : List WL), 5 * L + 5 * (lenS fs + lenS qs) + lenS qs ≤ M → fs.length = 4 → wsum fs = S → (qs.map Prod.fst).Perm rest →
      (∀ p ∈ fs, ∀ q ∈ qs, p.1 ≤ q.1) → (∀ p ∈ fs, 0 ≤ p.1) → Fits L (fs ++ qs) → S + t ≤ costL fs + costL qs := by
  intro M
  induction M with
  | zero =>
    intro L fs qs hM h4 hS hq hle h0 hf
    have hL : L = 0 := by omega
    subst hL
    have h1 := hf.2
    rw [krf_app] at h1
    have h2 := krf_all 0 fs (fun p hp => by have := hf.1 p (by simp [hp]); omega)
    omega
  | succ M ih =>
    intro L fs qs hM h4 hS hq hle h0 hf
    cases L with
    | zero =>
      have h1 := hf.2
      rw [krf_app] at h1
      have h2 := krf_all 0 fs (fun p hp => by have := hf.1 p (by simp [hp]); omega)
      omega
    | succ L =>
      by_cases hall : ∀ p ∈ fs, p.2 = L + 1
      · have hk := krf_all (L + 1) fs hall
        have hc := costL_all (L + 1) fs hall
        have hf2 := hf.2
        rw [krf_app, hk, h4] at hf2
        have := IH ((S, L) :: qs) (L + 1) (by simpa using hq) ⟨by
          intro p hp
          rcases List.mem_cons.1 hp with rfl | hp
          · simp
          · exact hf.1 p (by simp [hp]), by
          simp only [krf]
          have : L + 1 - L = 1 := by omega
          rw [this]; omega⟩
        simp only [costL] at this
        rw [hc, hS]
        rw [show S * ((L + 1 : Nat) : Int) = S * (L : Int) + S by rw [Int.natCast_add, Int.mul_add]; simp]
        omega
      · obtain ⟨p, hp, hpl⟩ : ∃ p ∈ fs, p.2 < L + 1 := by
          have : ∃ p ∈ fs, ¬ p.2 = L + 1 := by
            refine Classical.byContradiction fun hn => hall fun p hp => ?_
            exact Classical.byContradiction fun hne => hn ⟨p, hp, hne⟩
          obtain ⟨p, hp, hne⟩ := this
          exact ⟨p, hp, by have := hf.1 p (by simp [hp]); omega⟩
        by_cases hex : ∃ q ∈ qs, q.2 = L + 1
        · obtain ⟨q, hqm, hql⟩ := hex
          obtain ⟨f1, f2, rfl⟩ := List.append_of_mem hp
          obtain ⟨q1, q2, rfl⟩ := List.append_of_mem hqm
          have pf : (f1 ++ p :: f2).Perm (p :: (f1 ++ f2)) := List.perm_middle
          have pq : (q1 ++ q :: q2).Perm (q :: (q1 ++ q2)) := List.perm_middle
          have hle1 := hle p hp q hqm
          have hM' := hM
          rw [perm_lenS pf, perm_lenS pq] at hM'
          rw [perm_costL pf, perm_costL pq]
          rw [perm_wsum pf] at hS
          have hf' := hf.perm (pf.append pq)
          simp only [lenS] at hM'
          have := ih (L + 1) ((p.1, L + 1) :: (f1 ++ f2)) ((q.1, p.2) :: (q1 ++ q2)) (by simp only [lenS]; omega) (by have := pf.length_eq; rw [h4] at this; rw [List.length_cons] at this ⊢; exact this.symm) (by simpa [wsum] using hS)
            (by have := (pq.map Prod.fst).symm.trans hq; simpa using this)
            (by
              intro x hx y hy
              have hx' : ∃ x' ∈ f1 ++ p :: f2, x'.1 = x.1 := by
                rcases List.mem_cons.1 hx with rfl | hx
                · exact ⟨p, by simp, rfl⟩
                · exact ⟨x, by simp at hx ⊢; rcases hx with h | h <;> simp [h], rfl⟩
              have hy' : ∃ y' ∈ q1 ++ q :: q2, y'.1 = y.1 := by
                rcases List.mem_cons.1 hy with rfl | hy
                · exact ⟨q, by simp, rfl⟩
                · exact ⟨y, by simp at hy ⊢; rcases hy with h | h <;> simp [h], rfl⟩
              obtain ⟨x', hx1, hx2⟩ := hx'
              obtain ⟨y', hy1, hy2⟩ := hy'
              rw [← hx2, ← hy2]; exact hle x' hx1 y' hy1)
            (by
              intro x hx
              rcases List.mem_cons.1 hx with rfl | hx
              · exact h0 p hp
              · exact h0 x (by simp at hx ⊢; rcases hx with h | h <;> simp [h]))
            ⟨by
              intro x hx
              rcases List.mem_append.1 hx with hx | hx
              · rcases List.mem_cons.1 hx with rfl | hx
                · simp
                · exact hf'.1 x (by simp at hx ⊢; rcases hx with h | h <;> simp [h])
              · rcases List.mem_cons.1 hx with rfl | hx
                · simp; omega
                · exact hf'.1 x (by simp at hx ⊢; rcases hx with h | h <;> simp [h]), by
              have := hf'.2
              simp only [List.cons_append, krf, krf_app] at this ⊢
              rw [hql] at this
              omega⟩
          simp only [costL] at this ⊢
          rw [hql]
          have hprod : 0 ≤ (q.1 - p.1) * ((L + 1 : Nat) - (p.2 : Int)) := Int.mul_nonneg (by omega) (by omega)
          rw [Int.sub_mul, Int.mul_sub, Int.mul_sub] at hprod
          omega
        · have hqs : ∀ q ∈ qs, q.2 < L + 1 := fun q hq' => by
            have h1 := hf.1 q (by simp [hq'])
            have h2 : q.2 ≠ L + 1 := fun e => hex ⟨q, hq', e⟩
            omega
          by_cases hex2 : ∃ r ∈ fs, r.2 = L + 1
          · obtain ⟨r, hr, hrl⟩ := hex2
            obtain ⟨f1, f2, rfl⟩ := List.append_of_mem hr
            have pf : (f1 ++ r :: f2).Perm (r :: (f1 ++ f2)) := List.perm_middle
            have hM' := hM
            rw [perm_lenS pf] at hM'
            rw [perm_costL pf]
            rw [perm_wsum pf] at hS
            have hf' := hf.perm (pf.append_right qs)
            have hp' : p ∈ f1 ++ f2 := by
              have := pf.mem_iff.1 hp
              rcases List.mem_cons.1 this with h | h
              · subst h; omega
              · exact h
            obtain ⟨g1, g2, hg⟩ := List.append_of_mem hp'
            have pg : (f1 ++ f2).Perm (p :: (g1 ++ g2)) := by rw [hg]; exact List.perm_middle
            have hlen : (g1 ++ g2).length = 2 := by
              have h1 := pf.length_eq
              have h2 := pg.length_eq
              simp only [List.length_cons] at h1 h2
              omega
            obtain ⟨x, y, hxy⟩ : ∃ x y, g1 ++ g2 = [x, y] := by
              cases hgg : g1 ++ g2 with
              | nil => rw [hgg] at hlen; simp at hlen
              | cons x l =>
                cases l with
                | nil => rw [hgg] at hlen; simp at hlen
                | cons y l =>
                  cases l with
                  | nil => exact ⟨x, y, rfl⟩
                  | cons z l => rw [hgg] at hlen; simp at hlen
            rw [hxy] at pg
            have hkx : ∀ z ∈ [x, y], 4 ^ (L + 1 - z.2) % 4 = 0 ∨ 4 ^ (L + 1 - z.2) = 1 := by
              intro z hz
              have hzm : z ∈ f1 ++ r :: f2 := pf.mem_iff.2 (List.mem_cons_of_mem _ (pg.mem_iff.2 (List.mem_cons_of_mem _ hz)))
              have := hf.1 z (by simp at hzm ⊢; rcases hzm with h | h | h <;> simp [h])
              by_cases e : z.2 = L + 1
              · right; rw [e, Nat.sub_self]
              · left; exact pow4_lt (by omega)
            have hx1 := hkx x (by simp)
            have hy1 := hkx y (by simp)
            have hp1 := pow4_lt hpl
            have hq1 := krf_mod4 (L + 1) qs hqs
            have hk := hf'.2
            have hlenq := hq.length_eq
            rw [List.length_map] at hlenq
            have hm3 := krf_mod3 (L + 1) (r :: (f1 ++ f2) ++ qs)
            have hl4 := pf.length_eq
            rw [h4] at hl4
            rw [List.length_append, ← hl4, hlenq] at hm3
            have h43 := pow4_mod3 (L + 1)
            have h44 : 4 ^ (L + 1) % 4 = 0 := by rw [Nat.pow_succ]; omega
            have hkr : krf (L + 1) (r :: (f1 ++ f2) ++ qs) = 1 + (krf (L + 1) (f1 ++ f2) + krf (L + 1) qs) := by
              simp only [List.cons_append, krf]
              rw [hrl, Nat.sub_self, krf_app]
            have hkf : krf (L + 1) (f1 ++ f2) = 4 ^ (L + 1 - p.2) + (4 ^ (L + 1 - x.2) + (4 ^ (L + 1 - y.2) + 0)) := by
              rw [perm_krf _ pg]; rfl
            rw [hkr] at hk hm3
            have hslack : 1 + (krf (L + 1) (f1 ++ f2) + krf (L + 1) qs) + 3 ≤ 4 ^ (L + 1) := by
              generalize 4 ^ (L + 1) = A at *
              generalize krf (L + 1) qs = B at *
              generalize 4 ^ (L + 1 - p.2) = C at *
              generalize 4 ^ (L + 1 - x.2) = D at *
              generalize 4 ^ (L + 1 - y.2) = E at *
              omega
            simp only [lenS] at hM'
            have := ih (L + 1) ((r.1, L) :: (f1 ++ f2)) qs (by simp only [lenS]; omega) (by rw [List.length_cons] at hl4 ⊢; exact hl4.symm) (by simpa [wsum] using hS) hq
              (by
                intro z hz w hw
                have hz' : ∃ z' ∈ f1 ++ r :: f2, z'.1 = z.1 := by
                  rcases List.mem_cons.1 hz with rfl | hz
                  · exact ⟨r, by simp, rfl⟩
                  · exact ⟨z, by simp at hz ⊢; rcases hz with h | h <;> simp [h], rfl⟩
                obtain ⟨z', hz1, hz2⟩ := hz'
                rw [← hz2]; exact hle z' hz1 w hw)
              (by
                intro z hz
                rcases List.mem_cons.1 hz with rfl | hz
                · exact h0 r hr
                · exact h0 z (by simp at hz ⊢; rcases hz with h | h <;> simp [h]))
              ⟨by
                intro z hz
                rcases List.mem_append.1 hz with hz | hz
                · rcases List.mem_cons.1 hz with rfl | hz
                  · simp
                  · exact hf'.1 z (by simp at hz ⊢; rcases hz with h | h <;> simp [h])
                · exact hf'.1 z (by simp [hz]), by
                simp only [List.cons_append, krf]
                rw [show L + 1 - L = 1 by omega, krf_app]
                omega⟩
            simp only [costL] at this ⊢
            rw [hrl]
            have hr0 := h0 r hr
            rw [show r.1 * ((L + 1 : Nat) : Int) = r.1 * (L : Int) + r.1 by rw [Int.natCast_add, Int.mul_add]; simp]
            omega
          · refine ih L fs qs (by omega) h4 hS hq hle h0 ⟨?_, ?_⟩
            · intro z hz
              rcases List.mem_append.1 hz with hz | hz
              · have h1 := hf.1 z (by simp [hz])
                have h2 : z.2 ≠ L + 1 := fun e => hex2 ⟨z, hz, e⟩
                omega
              · have := hqs z hz; omega
            · have h1 : ∀ z ∈ fs ++ qs, z.2 ≤ L := by
                intro z hz
                rcases List.mem_append.1 hz with hz | hz
                · have h1 := hf.1 z (by simp [hz])
                  have h2 : z.2 ≠ L + 1 := fun e => hex2 ⟨z, hz, e⟩
                  omega
                · have := hqs z hz; omega
              have h2 := krf_less L (fs ++ qs) h1
              have h3 := hf.2
              rw [h2, Nat.pow_succ] at h3
              omega

/-- The four rarest are joined, again and again: what that costs. -/
inductive HR : List Int → Int → Prop
  | one (x : Int) : HR [x] 0
  | join (a b c d : Int) (rest ws : List Int) (t : Int) (hp : ws.Perm (a :: b :: c :: d :: rest)) (hm : ∀ x ∈ [a, b, c, d], ∀ y ∈ rest, x ≤ y) (h : HR ((a + b + c + d) :: rest) t) : HR ws (a + b + c + d + t)

theorem HR.mod {ws : List Int} {t : Int} (h : HR ws t) : ws.length % 3 = 1 := by
  induction h with
  | one x => rfl
  | join a b c d rest ws t hp hm h ih => have := hp.length_eq; simp at this ih; omega

theorem costL_nonneg (ps : List WL) (h : ∀ p ∈ ps, 0 ≤ p.1) : 0 ≤ costL ps := by
  induction ps with
  | nil => simp [costL]
  | cons p ps ih =>
    have h1 := h p (by simp)
    have h2 := ih (fun q hq => h q (by simp [hq]))
    have h3 : 0 ≤ p.1 * (p.2 : Int) := Int.mul_nonneg h1 (by omega)
    simp only [costL]; omega

theorem HR.low {ws : List Int} {t : Int} (h : HR ws t) : (∀ w ∈ ws, 0 ≤ w) → ∀ (ps : List WL) (L : Nat), (ps.map Prod.fst).Perm ws → Fits L ps → t ≤ costL ps := by
  induction h with
  | one x =>
    intro h0 ps L hp hf
    exact costL_nonneg ps fun p hpm => h0 p.1 (hp.mem_iff.1 (List.mem_map_of_mem hpm))
  | join a b c d rest ws t hp hm h ih =>
    intro h0 ps L hps hf
    have hmod := h.mod
    rw [List.length_cons] at hmod
    obtain ⟨pa, p1, e1, ea, h1⟩ := perm_pull (hps.trans hp)
    obtain ⟨pb, p2, e2, eb, h2⟩ := perm_pull h1
    obtain ⟨pc, p3, e3, ec, h3⟩ := perm_pull h2
    obtain ⟨pd, p4, e4, ed, h4⟩ := perm_pull h3
    have e : ps.Perm ([pa, pb, pc, pd] ++ p4) := e1.trans ((e2.trans ((e3.trans (e4.cons pc)).cons pb)).cons pa)
    have hmem : ∀ p ∈ [pa, pb, pc, pd], p.1 ∈ [a, b, c, d] := by
      intro p hp
      simp at hp
      rcases hp with rfl | rfl | rfl | rfl <;> simp [ea, eb, ec, ed]
    have hnn : ∀ w ∈ a :: b :: c :: d :: rest, 0 ≤ w := fun w hw => h0 w (hp.mem_iff.2 hw)
    have hS : wsum [pa, pb, pc, pd] = a + b + c + d := by simp only [wsum, ea, eb, ec, ed]; omega
    have := low_step (a + b + c + d) rest t (by omega) (fun ps L hp hf => ih (by
        intro w hw
        rcases List.mem_cons.1 hw with rfl | hw
        · have := hnn a (by simp); have := hnn b (by simp); have := hnn c (by simp); have := hnn d (by simp); omega
        · exact hnn w (by simp [hw])) ps L hp hf) _ L [pa, pb, pc, pd] p4 (Nat.le_refl _) rfl hS h4
      (by intro p hp q hq; exact hm p.1 (hmem p hp) q.1 (h4.mem_iff.1 (List.mem_map_of_mem hq)))
      (by intro p hp; exact hnn p.1 (by have := hmem p hp; simp at this ⊢; rcases this with h | h | h | h <;> simp [h]))
      (hf.perm e)
    rw [perm_costL e, costL_app]
    exact this

theorem HR.up {ws : List Int} {t : Int} (h : HR ws t) : ∃ (ps : List WL) (L : Nat), (ps.map Prod.fst).Perm ws ∧ Fits L ps ∧ costL ps = t := by
  induction h with
  | one x => exact ⟨[(x, 0)], 0, by simp, ⟨by simp, by simp [krf]⟩, by simp [costL]⟩
  | join a b c d rest ws t hp hm h ih =>
    obtain ⟨ps, L, h1, hf, hc⟩ := ih
    obtain ⟨p, qs, e1, e2, h2⟩ := perm_pull h1
    have hf' := hf.perm e1
    rw [perm_costL e1] at hc
    have hpl := hf'.1 p (by simp)
    have hk := hf'.2
    simp only [krf] at hk
    have hq : ∀ q ∈ qs, q.2 ≤ L := fun q hq => hf'.1 q (by simp [hq])
    refine ⟨(a, p.2 + 1) :: (b, p.2 + 1) :: (c, p.2 + 1) :: (d, p.2 + 1) :: qs, L + 1, ?_, ⟨?_, ?_⟩, ?_⟩
    · refine List.Perm.trans ?_ hp.symm
      simpa using h2
    · intro x hx
      simp only [List.mem_cons] at hx
      rcases hx with rfl | rfl | rfl | rfl | hx
      · simp; omega
      · simp; omega
      · simp; omega
      · simp; omega
      · have := hq x hx; omega
    · simp only [krf]
      rw [krf_less L qs hq, show L + 1 - (p.2 + 1) = L - p.2 by omega, Nat.pow_succ]
      omega
    · simp only [costL] at hc ⊢
      rw [e2] at hc
      rw [← hc]
      have e : ∀ z : Int, z * ((p.2 + 1 : Nat) : Int) = z * (p.2 : Int) + z := fun z => by rw [Int.natCast_add, Int.mul_add]; simp
      rw [e, e, e, e, Int.add_mul, Int.add_mul, Int.add_mul]
      omega

theorem HR.unique {ws : List Int} {t u : Int} (h0 : ∀ w ∈ ws, 0 ≤ w) (h : HR ws t) (h' : HR ws u) : t = u := by
  obtain ⟨ps, L, h1, h2, h3⟩ := h.up
  obtain ⟨qs, M, h4, h5, h6⟩ := h'.up
  have := h.low h0 qs M h4 h5
  have := h'.low h0 ps L h1 h2
  omega

def isum : List Int → Int
  | [] => 0
  | x :: xs => x + isum xs
theorem isum_perm {xs ys : List Int} (h : xs.Perm ys) : isum xs = isum ys := by
  induction h with
  | nil => rfl
  | cons x _ ih => simp only [isum, ih]
  | swap x y l => simp only [isum]; omega
  | trans _ _ i1 i2 => exact i1.trans i2
theorem isum_app (xs ys : List Int) : isum (xs ++ ys) = isum xs + isum ys := by
  induction xs with
  | nil => simp [isum]
  | cons x xs ih => simp only [List.cons_append, isum, ih]; omega
theorem isum_zeros (n : Nat) : isum (List.replicate n 0) = 0 := by
  induction n with
  | zero => rfl
  | succ n ih => simp [List.replicate_succ, isum, ih]
theorem wsum_isum (ps : List WL) : wsum ps = isum (ps.map Prod.fst) := by
  induction ps with
  | nil => rfl
  | cons p ps ih => simp [wsum, isum, ih]

theorem HR.perm {ws us : List Int} {t : Int} (h : HR ws t) (hp : ws.Perm us) : HR us t := by
  cases h with
  | one x => obtain rfl : us = [x] := List.perm_singleton.1 hp.symm; exact HR.one x
  | join a b c d rest ws t hp' hm h => exact HR.join a b c d rest us t (hp.symm.trans hp') hm h
theorem HR.step {ws four rest : List Int} {t : Int} (hp : ws.Perm (four ++ rest)) (h4 : four.length = 4) (hm : ∀ x ∈ four, ∀ y ∈ rest, x ≤ y) (h : HR (isum four :: rest) t) : HR ws (isum four + t) := by
  match four, h4 with
  | [a, b, c, d], _ =>
    have e : isum [a, b, c, d] = a + b + c + d := by simp only [isum]; omega
    rw [e] at h ⊢
    exact HR.join a b c d rest ws t hp hm h

/-- How many groups of nobody are wanted. -/
def padN (n : Nat) : Nat := (3 - (n + 2) % 3) % 3
theorem padN_mod (n : Nat) : (n + padN n) % 3 = 1 := by unfold padN; omega
/-- What the joining costs. -/
def Huf (zs : List Int) (t : Int) : Prop := HR (zs ++ List.replicate (padN zs.length) 0) t
theorem padded_nonneg {zs : List Int} (h : ∀ z ∈ zs, 0 ≤ z) (n : Nat) : ∀ z ∈ zs ++ List.replicate n 0, 0 ≤ z := by
  intro z hz
  rcases List.mem_append.1 hz with hz | hz
  · exact h z hz
  · have := (List.mem_replicate.1 hz).2; omega
theorem Huf.unique {zs : List Int} {t u : Int} (h0 : ∀ z ∈ zs, 0 ≤ z) (h : Huf zs t) (h' : Huf zs u) : t = u := HR.unique (padded_nonneg h0 _) h h'

theorem fits_pos {ps : List WL} {L : Nat} (hf : Fits L ps) (hl : 2 ≤ ps.length) : ∀ p ∈ ps, 1 ≤ p.2 := by
  intro p hp
  obtain ⟨l1, l2, rfl⟩ := List.append_of_mem hp
  have pf : (l1 ++ p :: l2).Perm (p :: (l1 ++ l2)) := List.perm_middle
  have h1 := (hf.perm pf).2
  have h2 := pf.length_eq
  simp only [krf, List.length_cons] at h1 h2
  have hlen : 1 ≤ (l1 ++ l2).length := by omega
  cases hq : l1 ++ l2 with
  | nil => rw [hq] at hlen; simp at hlen
  | cons q qs =>
    rw [hq] at h1
    simp only [krf] at h1
    have := pow4_pos (L - q.2)
    rcases Nat.eq_zero_or_pos p.2 with e | e
    · rw [e, Nat.sub_zero] at h1; omega
    · exact e
theorem cost_ge {ps : List WL} (h0 : ∀ p ∈ ps, 0 ≤ p.1) (h1 : ∀ p ∈ ps, 1 ≤ p.2) : wsum ps ≤ costL ps := by
  induction ps with
  | nil => simp [wsum, costL]
  | cons p ps ih =>
    have a0 := h0 p (by simp)
    have a1 := h1 p (by simp)
    have := ih (fun q hq => h0 q (by simp [hq])) (fun q hq => h1 q (by simp [hq]))
    have h3 : 0 ≤ p.1 * ((p.2 : Int) - 1) := Int.mul_nonneg a0 (by omega)
    rw [Int.mul_sub] at h3
    simp only [wsum, costL]; omega
theorem Huf.sum {zs : List Int} {t : Int} (h0 : ∀ z ∈ zs, 0 ≤ z) (hl : 2 ≤ zs.length) (h : Huf zs t) : isum zs ≤ t := by
  obtain ⟨ps, L, h1, hf, hc⟩ := HR.up h
  have hlen := h1.length_eq
  simp only [List.length_map, List.length_append, List.length_replicate] at hlen
  have hp := fits_pos hf (by omega)
  have := cost_ge (fun p hpm => padded_nonneg h0 _ p.1 (h1.mem_iff.1 (List.mem_map_of_mem hpm))) hp
  rw [wsum_isum, isum_perm h1, isum_app, isum_zeros] at this
  omega
theorem Huf.four {zs : List Int} {t : Int} (h0 : ∀ z ∈ zs, 0 ≤ z) (hl : 2 ≤ zs.length) (hl4 : zs.length ≤ 4) (h : Huf zs t) : t = isum zs := by
  have h1 := h.sum h0 hl
  have hlen : (zs ++ List.replicate (padN zs.length) (0 : Int)).length = 4 := by
    have : zs.length = 2 ∨ zs.length = 3 ∨ zs.length = 4 := by omega
    rw [List.length_append, List.length_replicate]
    rcases this with e | e | e <;> rw [e] <;> rfl
  have hall : ∀ p ∈ (zs ++ List.replicate (padN zs.length) (0 : Int)).map (fun z => ((z, 1) : WL)), p.2 = 1 := by
    intro p hp; obtain ⟨z, _, rfl⟩ := List.mem_map.1 hp; rfl
  have := HR.low h (padded_nonneg h0 _) ((zs ++ List.replicate (padN zs.length) (0 : Int)).map (fun z => (z, 1))) 1 (by rw [List.map_map]; simp [Function.comp_def])
    ⟨fun p hp => by rw [hall p hp]; exact Nat.le_refl _, by rw [krf_all 1 _ hall, List.length_map, hlen]; decide⟩
  rw [costL_all 1 _ hall, wsum_isum, List.map_map] at this
  rw [show (Prod.fst ∘ fun z : Int => ((z, 1) : WL)) = id from rfl, List.map_id, isum_app, isum_zeros] at this
  omega
theorem Huf.more {l1 l2 : List Int} {z x y : Int} (h0 : ∀ w ∈ l1 ++ z :: l2, 0 ≤ w) (hl : 2 ≤ (l1 ++ z :: l2).length) (h : Huf (l1 ++ z :: l2) x) (h' : Huf (l1 ++ (z + 1) :: l2) y) : x + 1 ≤ y := by
  obtain ⟨ps, L, h1, hf, hc⟩ := HR.up h'
  have e1 : (l1 ++ (z + 1) :: l2).length = (l1 ++ z :: l2).length := by simp
  rw [e1] at h1
  obtain ⟨n, hn⟩ : ∃ n, padN (l1 ++ z :: l2).length = n := ⟨_, rfl⟩
  unfold Huf at h
  rw [hn] at h1 h
  have hlen := h1.length_eq
  rw [List.length_map, List.length_append, e1] at hlen
  have hpos := fits_pos hf (by omega)
  have hperm : (l1 ++ (z + 1) :: l2 ++ List.replicate n (0 : Int)).Perm ((z + 1) :: (l1 ++ l2 ++ List.replicate n 0)) := by
    rw [← List.cons_append]; exact List.perm_middle.append_right _
  obtain ⟨p, qs, e2, e3, h2⟩ := perm_pull (h1.trans hperm)
  have hp1 := hpos p (e2.mem_iff.2 (by simp))
  have hf' := hf.perm e2
  rw [perm_costL e2] at hc
  have hperm2 : ((z :: (l1 ++ l2 ++ List.replicate n (0 : Int)))).Perm (l1 ++ z :: l2 ++ List.replicate n 0) := by
    rw [← List.cons_append]; exact (List.perm_middle.symm).append_right _
  have := HR.low h (padded_nonneg h0 _) ((z, p.2) :: qs) L (by
      refine List.Perm.trans ?_ hperm2
      simpa using h2) ⟨by
      intro q hq
      rcases List.mem_cons.1 hq with rfl | hq
      · exact hf'.1 p (by simp)
      · exact hf'.1 q (by simp [hq]), by have := hf'.2; simpa [krf] using this⟩
  simp only [costL] at this hc
  rw [e3, Int.add_mul] at hc
  omega

/-- What numbers of these lengths cost. -/
def costZ : List Int → List Int → Int
  | x :: xs, l :: ls => x * l + costZ xs ls
  | _, _ => 0
def sharesZ : List Int → Nat
  | [] => 0
  | l :: ls => 4 ^ (3 - l.toNat) + sharesZ ls
def zipL : List Int → List Int → List WL
  | x :: xs, l :: ls => (x, l.toNat) :: zipL xs ls
  | _, _ => []
theorem zipL_fst : ∀ (xs ls : List Int), xs.length = ls.length → (zipL xs ls).map Prod.fst = xs := by
  intro xs
  induction xs with
  | nil => intro ls h; cases ls <;> rfl
  | cons x xs ih => intro ls h; cases ls with
    | nil => simp at h
    | cons l ls => simp [zipL, ih ls (by simpa using h)]
theorem zipL_cost : ∀ (xs ls : List Int), (∀ l ∈ ls, 0 ≤ l) → costL (zipL xs ls) = costZ xs ls := by
  intro xs
  induction xs with
  | nil => intro ls h; cases ls <;> rfl
  | cons x xs ih => intro ls h; cases ls with
    | nil => rfl
    | cons l ls =>
      have h1 := h l (by simp)
      have h2 := ih ls (fun m hm => h m (by simp [hm]))
      simp only [zipL, costL, costZ, h2, Int.toNat_of_nonneg h1]
theorem zipL_krf : ∀ (xs ls : List Int), xs.length = ls.length → krf 3 (zipL xs ls) = sharesZ ls := by
  intro xs
  induction xs with
  | nil => intro ls h; cases ls with
    | nil => rfl
    | cons l ls => simp at h
  | cons x xs ih => intro ls h; cases ls with
    | nil => simp at h
    | cons l ls => simp only [zipL, krf, sharesZ, ih ls (by simpa using h)]
theorem zipL_le : ∀ (xs ls : List Int), (∀ l ∈ ls, l ≤ 3) → ∀ p ∈ zipL xs ls, p.2 ≤ 3 := by
  intro xs
  induction xs with
  | nil => intro ls h p hp; cases ls <;> simp [zipL] at hp
  | cons x xs ih => intro ls h p hp; cases ls with
    | nil => simp [zipL] at hp
    | cons l ls =>
      rcases List.mem_cons.1 hp with rfl | hp
      · have := h l (by simp); simp; omega
      · exact ih ls (fun m hm => h m (by simp [hm])) p hp
theorem costL_zeros (n l : Nat) : costL (List.replicate n ((0, l) : WL)) = 0 := by
  induction n with
  | zero => rfl
  | succ n ih => simp [List.replicate_succ, costL, ih]
theorem Huf.cost {xs ls : List Int} {t : Int} (h0 : ∀ x ∈ xs, 0 ≤ x) (hl : xs.length = ls.length) (hls : ∀ l ∈ ls, 1 ≤ l ∧ l ≤ 3) (hs : sharesZ ls ≤ 64) (h : Huf xs t) : t ≤ costZ xs ls := by
  obtain ⟨n, hn⟩ : ∃ n, padN xs.length = n := ⟨_, rfl⟩
  unfold Huf at h
  rw [hn] at h
  have hall : ∀ p ∈ List.replicate n ((0, 3) : WL), p.2 = 3 := fun p hp => by rw [(List.mem_replicate.1 hp).2]
  have hk := zipL_krf xs ls hl
  have hm := krf_mod3 3 (zipL xs ls)
  have hzl : (zipL xs ls).length = xs.length := by have := congrArg List.length (zipL_fst xs ls hl); simpa using this
  rw [hk, hzl] at hm
  have hpm := padN_mod xs.length
  rw [hn] at hpm
  have hn3 : n < 3 := by rw [← hn]; unfold padN; omega
  have := HR.low h (padded_nonneg h0 _) (zipL xs ls ++ List.replicate n (0, 3)) 3 (by rw [List.map_append, zipL_fst xs ls hl]; simp) ⟨by
    intro p hp
    rcases List.mem_append.1 hp with hp | hp
    · exact zipL_le xs ls (fun l hl' => (hls l hl').2) p hp
    · rw [hall p hp]; exact Nat.le_refl _, by
    rw [krf_app, hk, krf_all 3 _ hall, List.length_replicate]
    show _ ≤ 64
    omega⟩
  rw [costL_app, zipL_cost xs ls (fun l hl' => by have := (hls l hl').1; omega), costL_zeros] at this
  omega
end Go.Proofs.Ytcacedcbboidoaa
