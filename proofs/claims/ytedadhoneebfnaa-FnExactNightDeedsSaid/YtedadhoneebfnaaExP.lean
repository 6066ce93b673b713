/- Exchanges, plain: when they are valid, who is connected with whom, deeds. No program in sight. -/
import Derived.Test.YtedadhoneebfnaaClP
import Derived.Test.YtedadhoneebfnaaPlP
set_option linter.unusedSimpArgs false
set_option linter.unusedVariables false
namespace Go.Proofs.Ytedadhoneebfnaa

/-- No line is the input of a call and the output of a call. -/
def PartOk (cs : List Cl) : Prop := ∀ c ∈ cs, ∀ d ∈ cs, c.1 ≠ d.2.1
structure ExOk (O E M : Int) (ps : List ByteArray) (cs : List Cl) : Prop where
  calls : CallsOk O E M cs
  en : E ≤ M
  plan : PlanOk ps
  len : (ps.length : Int) = O * E
  part : PartOk cs
open Classical in
noncomputable def exB (O E M : Int) (ps : List ByteArray) (cs : List Cl) : Bool := decide (ExOk O E M ps cs)
theorem exB_iff (O E M : Int) (ps : List ByteArray) (cs : List Cl) : exB O E M ps cs = true ↔ ExOk O E M ps cs := by simp [exB]
theorem exB_no {O E M : Int} {ps : List ByteArray} {cs : List Cl} (h : ¬ ExOk O E M ps cs) : exB O E M ps cs = false := by
  rw [Bool.eq_false_iff]; exact fun e => h ((exB_iff _ _ _ _ _).1 e)
theorem ExOk.lines {O E M : Int} {ps : List ByteArray} {cs : List Cl} (h : ExOk O E M ps cs) : 1 ≤ ps.length ∧ ps.length ≤ 10 := by
  have ho := h.calls.sh.o
  have he := h.calls.sh.e
  have h1 : 1 * 1 ≤ O * E := Int.le_trans (Int.mul_le_mul_of_nonneg_right ho.1 (by omega)) (Int.mul_le_mul_of_nonneg_left he.1 (by omega))
  have h2 := h.len
  exact ⟨by omega, h.plan.1⟩
/-- There are as many calls as lines at most. -/
theorem nodupI_len : ∀ {n : Nat} {xs : List Int}, xs.Nodup → (∀ x ∈ xs, 0 ≤ x ∧ x < n) → xs.length ≤ n := by
  intro n xs h hl
  have h1 : (xs.map Int.toNat).Nodup := by
    rw [List.nodup_iff_pairwise_ne, List.pairwise_map]
    refine List.Pairwise.imp_of_mem ?_ (List.nodup_iff_pairwise_ne.1 h)
    intro a b ha hb hab e
    have := hl a ha; have := hl b hb; omega
  have := nodup_len (n := n) h1 (fun k hk => by
    obtain ⟨x, hx, rfl⟩ := List.mem_map.1 hk
    have := hl x hx; omega)
  simpa using this
theorem CallsOk.ins {O E M : Int} {cs : List Cl} (h : CallsOk O E M cs) : (cs.map (·.1)).Nodup ∧ (cs.map (·.2.1)).Nodup := by
  have hp : cs.Pairwise fun d c => d.1 ≠ c.1 ∧ d.2.1 ≠ c.2.1 := by
    rw [List.pairwise_iff_getElem]
    intro i j hi hj hij
    have := h.apart i j cs[i] cs[j] hij (List.getElem?_eq_getElem hi) (List.getElem?_eq_getElem hj)
    exact ⟨this.1, this.2.1⟩
  constructor
  · rw [List.nodup_iff_pairwise_ne, List.pairwise_map]; exact hp.imp fun h => h.1
  · rw [List.nodup_iff_pairwise_ne, List.pairwise_map]; exact hp.imp fun h => h.2
theorem CallsOk.mem {O E M : Int} {cs : List Cl} (h : CallsOk O E M cs) {c : Cl} (hc : c ∈ cs) : (0 ≤ c.1 ∧ c.1 < O * E) ∧ (0 ≤ c.2.1 ∧ c.2.1 < O * E) ∧ 0 ≤ c.2.2 ∧ c.2.2 < M := by
  obtain ⟨k, hk⟩ := List.mem_iff_getElem?.1 hc
  exact h.at' k c hk
theorem CallsOk.count {O E M : Int} {cs : List Cl} (h : CallsOk O E M cs) (hOE : O * E ≤ 12) : cs.length ≤ 12 := by
  have h1 := nodupI_len (n := 12) h.ins.1 (fun x hx => by
    obtain ⟨c, hc, rfl⟩ := List.mem_map.1 hx
    have := h.mem hc; omega)
  simpa using h1
theorem CallsOk.one {O E M : Int} {cs : List Cl} (h : CallsOk O E M cs) {c d : Cl} (hc : c ∈ cs) (hd : d ∈ cs) (e : c.1 = d.1 ∨ c.2.1 = d.2.1) : c = d := by
  obtain ⟨j, hj⟩ := List.mem_iff_getElem?.1 hc
  obtain ⟨k, hk⟩ := List.mem_iff_getElem?.1 hd
  rcases Nat.lt_trichotomy j k with h1 | h1 | h1
  · have := h.apart j k c d h1 hj hk
    rcases e with e | e
    · exact absurd e this.1
    · exact absurd e this.2.1
  · subst h1; rw [hj] at hk; exact Option.some.inj hk
  · have := h.apart k j d c h1 hk hj
    rcases e with e | e
    · exact absurd e.symm this.1
    · exact absurd e.symm this.2.1

/-! Which lines are engaged by the first k calls. -/
def engB (cs : List Cl) (k : Nat) (x : Int) : Bool := (cs.take k).any fun c => decide (c.1 = x) || decide (c.2.1 = x)
theorem engB_zero (cs : List Cl) (x : Int) : engB cs 0 x = false := by simp [engB]
theorem engB_succ {cs : List Cl} {k : Nat} {c : Cl} (hc : cs[k]? = some c) (x : Int) : engB cs (k + 1) x = (engB cs k x || (decide (c.1 = x) || decide (c.2.1 = x))) := by
  obtain ⟨hk, rfl⟩ := List.getElem?_eq_some_iff.1 hc
  unfold engB
  rw [List.take_succ_eq_append_getElem hk, List.any_append]; simp
theorem engB_mem {cs : List Cl} {k : Nat} {x : Int} : engB cs k x = true ↔ ∃ j c, j < k ∧ cs[j]? = some c ∧ (c.1 = x ∨ c.2.1 = x) := by
  simp only [engB, List.any_eq_true, Bool.or_eq_true, decide_eq_true_eq]
  constructor
  · rintro ⟨c, hc, h⟩
    obtain ⟨j, hj⟩ := List.mem_iff_getElem?.1 hc
    have hl := (List.getElem?_eq_some_iff.1 hj).1
    rw [List.length_take] at hl
    rw [List.getElem?_take_of_lt (by omega)] at hj
    exact ⟨j, c, by omega, hj, h⟩
  · rintro ⟨j, c, hjk, hj, h⟩
    exact ⟨c, List.mem_of_getElem? (by rw [List.getElem?_take_of_lt hjk]; exact hj), h⟩
/-- The first k calls are apart. -/
def PartTo (cs : List Cl) (k : Nat) : Prop := ∀ i j c d, i < k → j < k → cs[i]? = some c → cs[j]? = some d → c.1 ≠ d.2.1
theorem PartTo.zero (cs : List Cl) : PartTo cs 0 := fun i j c d h => absurd h (by omega)
theorem PartTo.all {cs : List Cl} (h : PartTo cs cs.length) : PartOk cs := by
  intro c hc d hd
  obtain ⟨i, hi⟩ := List.mem_iff_getElem?.1 hc
  obtain ⟨j, hj⟩ := List.mem_iff_getElem?.1 hd
  exact h i j c d (List.getElem?_eq_some_iff.1 hi).1 (List.getElem?_eq_some_iff.1 hj).1 hi hj
theorem PartTo.step {cs : List Cl} {k : Nat} {c : Cl} (h : PartTo cs k) (hc : cs[k]? = some c) (h1 : c.1 ≠ c.2.1) (h2 : engB cs k c.1 = false) (h3 : engB cs k c.2.1 = false) : PartTo cs (k + 1) := by
  intro i j x y hi hj hx hy e
  have n2 : ∀ i x, i < k → cs[i]? = some x → x.2.1 ≠ c.1 := fun i x hi hx e => by
    have := engB_mem.2 ⟨i, x, hi, hx, .inr e⟩; rw [h2] at this; cases this
  have n3 : ∀ i x, i < k → cs[i]? = some x → x.1 ≠ c.2.1 := fun i x hi hx e => by
    have := engB_mem.2 ⟨i, x, hi, hx, .inl e⟩; rw [h3] at this; cases this
  by_cases hik : i = k
  · subst hik
    rw [hc] at hx; cases hx
    by_cases hjk : j = i
    · subst hjk; rw [hc] at hy; cases hy; exact h1 e
    · exact n2 j y (by omega) hy e.symm
  · by_cases hjk : j = k
    · subst hjk; rw [hc] at hy; cases hy; exact n3 i x (by omega) hx e
    · exact h i j x y (by omega) (by omega) hx hy e
theorem part_no {O E M : Int} {ps : List ByteArray} {cs : List Cl} {c d : Cl} (hc : c ∈ cs) (hd : d ∈ cs) (e : c.1 = d.2.1) : exB O E M ps cs = false :=
  exB_no fun h => h.part c hc d hd e
theorem eng_no {O E M : Int} {ps : List ByteArray} {cs : List Cl} {k : Nat} {c : Cl} (hok : CallsOk O E M cs) (hc : cs[k]? = some c) (h : engB cs k c.1 = true ∨ engB cs k c.2.1 = true) : exB O E M ps cs = false := by
  rcases h with h | h
  · obtain ⟨j, d, hj, hd, e⟩ := engB_mem.1 h
    rcases e with e | e
    · exact absurd e (hok.apart j k d c hj hd hc).1
    · exact part_no (List.mem_of_getElem? hc) (List.mem_of_getElem? hd) e.symm
  · obtain ⟨j, d, hj, hd, e⟩ := engB_mem.1 h
    rcases e with e | e
    · exact part_no (List.mem_of_getElem? hd) (List.mem_of_getElem? hc) e
    · exact absurd e (hok.apart j k d c hj hd hc).2.1
/-- The reference: for the first k calls, with the first j ones. -/
def SprTo (cs : List Cl) (k : Nat) : Prop := ∀ (i j : Nat) (c d : Cl), i < k → cs[i]? = some c → cs[j]? = some d → c.1 ≠ d.2.1
theorem SprTo.all {cs : List Cl} (h : SprTo cs cs.length) : PartOk cs := by
  intro c hc d hd
  obtain ⟨i, hi⟩ := List.mem_iff_getElem?.1 hc
  obtain ⟨j, hj⟩ := List.mem_iff_getElem?.1 hd
  exact h i j c d (List.getElem?_eq_some_iff.1 hi).1 hi hj

/-! Who is connected with whom. -/
def hasE (x : Int) (c : Cl) : Bool := decide (c.1 = x) || decide (c.2.1 = x)
def peerL (cs : List Cl) (x : Int) : Int := match cs.find? (hasE x) with
  | some c => c.1 + c.2.1 - x
  | none => -1
def noneTo (cs : List Cl) (x : Int) (k : Nat) : Prop := ∀ j c, j < k → cs[j]? = some c → hasE x c = false
theorem find_at {cs : List Cl} {x : Int} {k : Nat} {c : Cl} (h : noneTo cs x k) (hc : cs[k]? = some c) (h1 : hasE x c = true) : cs.find? (hasE x) = some c := by
  rw [List.find?_eq_some_iff_getElem]
  obtain ⟨hk, rfl⟩ := List.getElem?_eq_some_iff.1 hc
  refine ⟨h1, k, hk, rfl, fun j hj => ?_⟩
  have := h j cs[j] hj (List.getElem?_eq_getElem (by omega))
  simp [this]
theorem find_none {cs : List Cl} {x : Int} (h : noneTo cs x cs.length) : cs.find? (hasE x) = none := by
  rw [List.find?_eq_none]
  intro c hc
  obtain ⟨j, hj⟩ := List.mem_iff_getElem?.1 hc
  rw [h j c (List.getElem?_eq_some_iff.1 hj).1 hj]; simp
theorem noneTo.succ {cs : List Cl} {x : Int} {k : Nat} {c : Cl} (h : noneTo cs x k) (hc : cs[k]? = some c) (h1 : hasE x c = false) : noneTo cs x (k + 1) := by
  intro j d hj hd
  by_cases e : j = k
  · subst e; rw [hc] at hd; cases hd; exact h1
  · exact h j d (by omega) hd
theorem peer_some {cs : List Cl} {x : Int} {c : Cl} (h : cs.find? (hasE x) = some c) : peerL cs x = c.1 + c.2.1 - x := by simp [peerL, h]
theorem peer_none {cs : List Cl} {x : Int} (h : cs.find? (hasE x) = none) : peerL cs x = -1 := by simp [peerL, h]
theorem peer_neg {O E M : Int} {cs : List Cl} (hok : CallsOk O E M cs) (x : Int) : peerL cs x = -1 ∧ cs.find? (hasE x) = none ∨ ∃ c, cs.find? (hasE x) = some c ∧ c ∈ cs ∧ (c.1 = x ∧ peerL cs x = c.2.1 ∨ c.2.1 = x ∧ peerL cs x = c.1) ∧ 0 ≤ peerL cs x ∧ peerL cs x < O * E := by
  cases h : cs.find? (hasE x) with
  | none => exact .inl ⟨peer_none h, rfl⟩
  | some c =>
    have hm := List.mem_of_find?_eq_some h
    have h1 := List.find?_some h
    have h2 := hok.mem hm
    have h3 := peer_some h
    simp only [hasE, Bool.or_eq_true, decide_eq_true_eq] at h1
    refine .inr ⟨c, rfl, hm, ?_, ?_, ?_⟩
    · rcases h1 with h1 | h1
      · exact .inl ⟨h1, by omega⟩
      · exact .inr ⟨h1, by omega⟩
    · omega
    · omega
/-- The place of a number in a plan. -/
def lineL (ps : List ByteArray) (s : ByteArray) : Int := match ps.findIdx? fun p => decide (p = s) with
  | some k => (k : Int)
  | none => -1
def neTo (ps : List ByteArray) (s : ByteArray) (k : Nat) : Prop := ∀ j p, j < k → ps[j]? = some p → p ≠ s
theorem line_at {ps : List ByteArray} {s : ByteArray} {k : Nat} (h : neTo ps s k) (hk : ps[k]? = some s) : lineL ps s = k := by
  have : (ps.findIdx? fun p => decide (p = s)) = some k := by
    rw [List.findIdx?_eq_some_iff_getElem]
    obtain ⟨hl, e⟩ := List.getElem?_eq_some_iff.1 hk
    refine ⟨hl, by simp [e], fun j hj => ?_⟩
    have := h j ps[j] hj (List.getElem?_eq_getElem (by omega))
    simpa using this
  simp [lineL, this]
theorem line_none {ps : List ByteArray} {s : ByteArray} (h : neTo ps s ps.length) : lineL ps s = -1 := by
  have : (ps.findIdx? fun p => decide (p = s)) = none := by
    rw [List.findIdx?_eq_none_iff]
    intro p hp
    obtain ⟨j, hj⟩ := List.mem_iff_getElem?.1 hp
    have := h j p (List.getElem?_eq_some_iff.1 hj).1 hj
    simpa using this
  simp [lineL, this]
theorem line_is {ps : List ByteArray} {s : ByteArray} : lineL ps s = -1 ∧ neTo ps s ps.length ∨ ∃ k : Nat, lineL ps s = k ∧ ps[k]? = some s ∧ neTo ps s k := by
  cases h : (ps.findIdx? fun p => decide (p = s)) with
  | none =>
    refine .inl ⟨by simp [lineL, h], fun j p _ hp e => ?_⟩
    rw [List.findIdx?_eq_none_iff] at h
    have := h p (List.mem_of_getElem? hp)
    simp [e] at this
  | some k =>
    refine .inr ⟨k, by simp [lineL, h], ?_⟩
    rw [List.findIdx?_eq_some_iff_getElem] at h
    obtain ⟨hl, e, hj⟩ := h
    simp at e
    refine ⟨by rw [List.getElem?_eq_getElem hl, e], fun j p hjk hp e2 => ?_⟩
    obtain ⟨hl2, rfl⟩ := List.getElem?_eq_some_iff.1 hp
    have := hj j hjk
    simp [e2] at this

end Go.Proofs.Ytedadhoneebfnaa
