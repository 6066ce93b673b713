/- Joined texts: PlP, ExP, DoP. -/
import Derived.Test.YtedadhoneebfnaaGreatDoorJ1
import Derived.Test.YtedadhoneebfnaaGreatDoorJ3
set_option linter.unusedSimpArgs false
set_option linter.unusedVariables false
/- Plain mathematics of numbering plans: validity, shares, the plan with given lengths, dialling. No program in sight. -/
namespace Go.Proofs.YtedadhoneebfnaaGreatDoor
open Go.RowKit

/-- The numbers of a plan. -/
def numB (s : ByteArray) : Bool := decide (1 ≤ s.size) && decide (s.size ≤ 3) && digsB s
/-- The first k numbers of a plan are in order. -/
def PlOk (ps : List ByteArray) (k : Nat) : Prop := (∀ j s, j < k → ps[j]? = some s → numB s = true) ∧ ∀ i j s t, i < j → j < k → ps[i]? = some s → ps[j]? = some t → preB t s = false ∧ preB s t = false
def PlanOk (ps : List ByteArray) : Prop := ps.length ≤ 10 ∧ PlOk ps ps.length
noncomputable def planB (ps : List ByteArray) : Bool := @decide (PlanOk ps) (Classical.propDecidable _)
theorem planB_iff (ps : List ByteArray) : planB ps = true ↔ PlanOk ps := by unfold planB; exact @decide_eq_true_iff _ (Classical.propDecidable _)
theorem planB_no {ps : List ByteArray} (h : ¬ PlanOk ps) : planB ps = false := by
 rw [Bool.eq_false_iff]; exact fun e => h ((planB_iff ps).1 e)
theorem PlOk.zero (ps : List ByteArray) : PlOk ps 0 := ⟨fun j r h => absurd h (by omega), fun i j r s _ h => absurd h (by omega)⟩
theorem PlOk.succ {ps : List ByteArray} {k : Nat} {s : ByteArray} (h : PlOk ps k) (hs : ps[k]? = some s) (h1 : numB s = true) (h2 : ∀ j t, j < k → ps[j]? = some t → preB s t = false ∧ preB t s = false) : PlOk ps (k + 1) := by
 refine ⟨fun j t hj ht => ?_, fun i j t u hij hj ht hu => ?_⟩
 ·
  by_cases e : j = k
  ·
   subst e; rw [hs] at ht; cases ht; exact h1
  ·
   exact h.1 j t (by omega) ht
 ·
  by_cases e : j = k
  ·
   subst e; rw [hs] at hu; cases hu; exact h2 i t hij ht
  ·
   exact h.2 i j t u hij (by omega) ht hu
theorem lt_of_some {α : Type} {xs : List α} {k : Nat} {x : α} (h : xs[k]? = some x) : k < xs.length := (List.getElem?_eq_some_iff.1 h).1
theorem PlanOk.at {ps : List ByteArray} (h : PlanOk ps) (k : Nat) (s : ByteArray) (hs : ps[k]? = some s) : numB s = true := h.2.1 k s (lt_of_some hs) hs
theorem PlanOk.apart {ps : List ByteArray} (h : PlanOk ps) {i j : Nat} {s t : ByteArray} (hij : i ≠ j) (hs : ps[i]? = some s) (ht : ps[j]? = some t) : preB t s = false := by
 rcases Nat.lt_or_gt_of_ne hij with hl | hl
 ·
  exact (h.2.2 i j s t hl (lt_of_some ht) hs ht).1
 ·
  exact (h.2.2 j i t s hl (lt_of_some hs) ht hs).2
theorem plan_no_at {ps : List ByteArray} {k : Nat} {s : ByteArray} (hs : ps[k]? = some s) (h : numB s = false) : planB ps = false :=
 planB_no fun ok => by have := ok.at k s hs; rw [h] at this; cases this
theorem plan_no_pair {ps : List ByteArray} {i j : Nat} {s t : ByteArray} (hij : i ≠ j) (hs : ps[i]? = some s) (ht : ps[j]? = some t) (h : preB t s = true) : planB ps = false :=
 planB_no fun ok => by have := ok.apart hij hs ht; rw [h] at this; cases this
theorem numB_size {s : ByteArray} (h : numB s = true) : 1 ≤ s.size ∧ s.size ≤ 3 ∧ digsB s = true := by
 simp only [numB, Bool.and_eq_true, decide_eq_true_eq] at h; exact ⟨h.1.1, h.1.2, h.2⟩
theorem PlanOk.nil : PlanOk [] := ⟨by simp, PlOk.zero []⟩
/-! No plan has more shares than there are. -/
def three (n : Nat) : List UInt8 := [UInt8.ofNat (48 + n / 16 % 4), UInt8.ofNat (48 + n / 4 % 4), UInt8.ofNat (48 + n % 4)]
/-! The plan with given lengths. -/
def belowS (zs : List Int) (l : Int) : Nat := (zs.map fun z => if z < l then shareN z else 0).sum
def sameS (zs : List Int) (l : Int) : Nat := (zs.map fun z => if z = l then shareN z else 0).sum
/-- The next number, where all shorter lengths and the first k of this length have been served. -/
def nextAt (zs : List Int) (l : Int) (k : Nat) : Nat := belowS zs l + sameS (zs.take k) l
theorem nextAt_step (zs : List Int) (l : Int) (k : Nat) (z : Int) (h : zs[k]? = some z) : nextAt zs l (k + 1) = nextAt zs l k + if z = l then shareN z else 0 := by
 simp [nextAt, sameS, List.take_add_one, h]; omega
theorem below_next (zs : List Int) (l : Int) : belowS zs (l + 1) = belowS zs l + sameS zs l := by
 induction zs with
 | nil => rfl
 | cons z zs ih =>
  simp only [belowS, sameS, List.map_cons, List.sum_cons] at ih ⊢
  rw [ih]
  by_cases h1 : z < l
  ·
   rw [if_pos (by omega), if_pos h1, if_neg (by omega)]; omega
  ·
   by_cases h2 : z = l
   ·
    rw [if_pos (by omega), if_neg h1, if_pos h2]; omega
   ·
    rw [if_neg (by omega), if_neg h1, if_neg h2]; omega
theorem nextAt_next (zs : List Int) (l : Int) : nextAt zs (l + 1) 0 = nextAt zs l zs.length := by
 simp [nextAt, below_next, sameS]
theorem nextAt_first {zs : List Int} (h : ∀ z ∈ zs, 1 ≤ z) : nextAt zs 1 0 = 0 := by
 have : belowS zs 1 = 0 := by
  induction zs with
  | nil => rfl
  | cons z zs ih =>
   have h1 := h z (by simp)
   have h2 := ih (fun y hy => h y (by simp [hy]))
   simp only [belowS, List.map_cons, List.sum_cons] at h2 ⊢
   rw [if_neg (by omega), h2]
 simp [nextAt, this, sameS]
theorem nextAt_last {zs : List Int} (h : ∀ z ∈ zs, z ≤ 3) : nextAt zs 4 0 = (zs.map shareN).sum := by
 have : belowS zs 4 = (zs.map shareN).sum := by
  induction zs with
  | nil => rfl
  | cons z zs ih =>
   have h1 := h z (by simp)
   have h2 := ih (fun y hy => h y (by simp [hy]))
   simp only [belowS, List.map_cons, List.sum_cons] at h2 ⊢
   rw [if_pos (by omega), h2]
 simp [nextAt, this, sameS]
theorem sum_take_le (f : Int → Nat) : ∀ (zs : List Int) (k j : Nat), k ≤ j → ((zs.take k).map f).sum ≤ ((zs.take j).map f).sum := by
 intro zs
 induction zs with
 | nil => intro k j h; simp
 | cons z zs ih =>
  intro k j h
  cases k with
  | zero => simp
  | succ k =>
   cases j with
   | zero => omega
   | succ j => have := ih k j (by omega); simp only [List.take_succ_cons, List.map_cons, List.sum_cons]; omega
theorem nextAt_mono (zs : List Int) (l : Int) {k j : Nat} (h : k ≤ j) : nextAt zs l k ≤ nextAt zs l j := by
 have := sum_take_le (fun z => if z = l then shareN z else 0) zs k j h
 simp only [nextAt, sameS]; omega
theorem below_mono (zs : List Int) {l m : Int} (h : l ≤ m) : belowS zs l ≤ belowS zs m := by
 induction zs with
 | nil => exact Nat.le_refl _
 | cons z zs ih =>
  simp only [belowS, List.map_cons, List.sum_cons] at ih ⊢
  by_cases h1 : z < l
  ·
   rw [if_pos h1, if_pos (by omega)]; omega
  ·
   rw [if_neg h1]; omega
theorem nextAt_lex (zs : List Int) {l m : Int} {k j : Nat} (hk : k ≤ zs.length) (h : l < m ∨ l = m ∧ k ≤ j) : nextAt zs l k ≤ nextAt zs m j := by
 rcases h with h | ⟨rfl, h⟩
 ·
  have h1 := nextAt_mono zs l hk
  have h2 := nextAt_next zs l
  have h3 := below_mono zs (show l + 1 ≤ m by omega)
  have h4 : nextAt zs (l + 1) 0 = belowS zs (l + 1) := by simp [nextAt, sameS]
  have h5 : belowS zs m ≤ nextAt zs m j := by simp only [nextAt]; omega
  omega
 ·
  exact nextAt_mono zs l h
/-- The first digits of a number of three digits. -/
def num3 (x l : Nat) : ByteArray := ⟨((three x).take l).toArray⟩
/-- Whether length z at place j has been served, where those of length l have been up to k. -/
def served (l : Int) (k : Nat) (p : Int × Nat) : Bool := decide (p.1 < l) || (decide (p.1 = l) && decide (p.2 < k))
def planTo (zs : List Int) (l : Int) (k : Nat) : List ByteArray := zs.zipIdx.map fun p => if served l k p = true then num3 (nextAt zs p.1 p.2) p.1.toNat else ByteArray.empty
def planFor (zs : List Int) : List ByteArray := zs.zipIdx.map fun p => num3 (nextAt zs p.1 p.2) p.1.toNat
theorem planTo_len (zs : List Int) (l : Int) (k : Nat) : (planTo zs l k).length = zs.length := by simp [planTo]
theorem planFor_len (zs : List Int) : (planFor zs).length = zs.length := by simp [planFor]
theorem planFor_at (zs : List Int) (k : Nat) (z : Int) (h : zs[k]? = some z) : (planFor zs)[k]? = some (num3 (nextAt zs z k) z.toNat) := by
 simp [planFor, h]
theorem planTo_at (zs : List Int) (l : Int) (m k : Nat) (z : Int) (h : zs[k]? = some z) : (planTo zs l m)[k]? = some (if served l m (z, k) = true then num3 (nextAt zs z k) z.toNat else ByteArray.empty) := by
 simp [planTo, h]
theorem planTo_first {zs : List Int} (h : ∀ z ∈ zs, 1 ≤ z) : planTo zs 1 0 = List.replicate zs.length ByteArray.empty := by
 apply List.ext_getElem?
 intro k
 by_cases hk : k < zs.length
 ·
  have h1 := h zs[k] (List.getElem_mem hk)
  rw [planTo_at zs 1 0 k zs[k] (List.getElem?_eq_getElem hk), List.getElem?_replicate, if_pos hk, if_neg]
  simp [served]; omega
 ·
  rw [List.getElem?_eq_none (by rw [planTo_len]; omega), List.getElem?_eq_none (by simp; omega)]
theorem planTo_next (zs : List Int) (l : Int) : planTo zs (l + 1) 0 = planTo zs l zs.length := by
 apply List.ext_getElem?
 intro k
 by_cases hk : k < zs.length
 ·
  rw [planTo_at zs _ _ k zs[k] (List.getElem?_eq_getElem hk), planTo_at zs _ _ k zs[k] (List.getElem?_eq_getElem hk)]
  have e : served (l + 1) 0 (zs[k], k) = served l zs.length (zs[k], k) := by
   rw [Bool.eq_iff_iff]; simp [served, hk]; omega
  rw [e]
 ·
  rw [List.getElem?_eq_none (by rw [planTo_len]; omega), List.getElem?_eq_none (by rw [planTo_len]; omega)]
theorem planTo_last {zs : List Int} (h : ∀ z ∈ zs, z ≤ 3) : planTo zs 4 0 = planFor zs := by
 apply List.ext_getElem?
 intro k
 by_cases hk : k < zs.length
 ·
  have h1 := h zs[k] (List.getElem_mem hk)
  rw [planTo_at zs _ _ k zs[k] (List.getElem?_eq_getElem hk), planFor_at zs k zs[k] (List.getElem?_eq_getElem hk), if_pos]
  simp [served]; omega
 ·
  rw [List.getElem?_eq_none (by rw [planTo_len]; omega), List.getElem?_eq_none (by rw [planFor_len]; omega)]
theorem planTo_step (zs : List Int) (l : Int) (k : Nat) (z : Int) (h : zs[k]? = some z) : planTo zs l (k + 1) = if z = l then (planTo zs l k).set k (num3 (nextAt zs l k) l.toNat) else planTo zs l k := by
 apply List.ext_getElem?
 intro j
 by_cases hj : j < zs.length
 ·
  have hzj := List.getElem?_eq_getElem hj
  rw [planTo_at zs _ _ j zs[j] hzj]
  by_cases hjk : j = k
  ·
   subst hjk
   rw [hzj] at h
   cases h
   split
   ·
    rename_i hs
    split
    ·
     rename_i e; rw [List.getElem?_set_self (by rw [planTo_len]; exact hj), e]
    ·
     rename_i e
     rw [planTo_at zs _ _ j zs[j] hzj, if_pos]
     simp [served, e] at hs ⊢; exact hs
   ·
    rename_i hs
    split
    ·
     rename_i e; simp [served, e] at hs
    ·
     rename_i e
     rw [planTo_at zs _ _ j zs[j] hzj, if_neg]
     simp [served, e] at hs ⊢; exact hs
  ·
   have e : served l (k + 1) (zs[j], j) = served l k (zs[j], j) := by
    rw [Bool.eq_iff_iff]; simp [served]; omega
   rw [e]
   split
   ·
    split
    ·
     rw [List.getElem?_set_ne (by omega), planTo_at zs _ _ j zs[j] hzj, if_pos (by assumption)]
    ·
     rw [planTo_at zs _ _ j zs[j] hzj, if_pos (by assumption)]
   ·
    split
    ·
     rw [List.getElem?_set_ne (by omega), planTo_at zs _ _ j zs[j] hzj, if_neg (by assumption)]
    ·
     rw [planTo_at zs _ _ j zs[j] hzj, if_neg (by assumption)]
 ·
  rw [List.getElem?_eq_none (by rw [planTo_len]; omega)]
  split
  ·
   rw [List.getElem?_eq_none (by rw [List.length_set, planTo_len]; omega)]
  ·
   rw [List.getElem?_eq_none (by rw [planTo_len]; omega)]

/-- Where a length has its number, below 64. -/
theorem nextAt_room {zs : List Int} (hz : ∀ z ∈ zs, 1 ≤ z ∧ z ≤ 3) (hs : (zs.map shareN).sum ≤ 64) {k : Nat} {z : Int} (h : zs[k]? = some z) : nextAt zs z k + shareN z ≤ 64 := by
 have hk := lt_of_some h
 have h1 := nextAt_step zs z k z h
 rw [if_pos rfl] at h1
 have h2 := (hz z (List.mem_of_getElem? h)).2
 have h3 := nextAt_lex zs (l := z) (m := 4) (k := k + 1) (j := 0) (by omega) (.inl (by omega))
 rw [nextAt_last (fun y hy => (hz y hy).2)] at h3
 omega
theorem lensB_mem {zs : List Int} (h : lensB zs = true) : ∀ z ∈ zs, 1 ≤ z ∧ z ≤ 3 := by
 intro z hz
 obtain ⟨k, hk⟩ := List.mem_iff_getElem?.1 hz
 exact lensB_at h k z hk
end Go.Proofs.YtedadhoneebfnaaGreatDoor

/- Exchanges, plain: when they are valid, who is connected with whom, deeds. No program in sight. -/
namespace Go.Proofs.YtedadhoneebfnaaGreatDoor

/-- No line is the input of a call and the output of a call. -/
def PartOk (cs : List Cl) : Prop := ∀ c ∈ cs, ∀ d ∈ cs, c.1 ≠ d.2.1
structure ExOk (O E M : Int) (ps : List ByteArray) (cs : List Cl) : Prop where
 calls : CallsOk O E M cs
 en : E ≤ M
 plan : PlanOk ps
 len : (ps.length : Int) = O * E
 part : PartOk cs
open Classical in
noncomputable def exB (O E M : Int) (ps : List ByteArray) (cs : List Cl) : Bool := decide (ExOk O E M ps cs)
theorem exB_iff (O E M : Int) (ps : List ByteArray) (cs : List Cl) : exB O E M ps cs = true ↔ ExOk O E M ps cs := by simp [exB]
theorem exB_no {O E M : Int} {ps : List ByteArray} {cs : List Cl} (h : ¬ ExOk O E M ps cs) : exB O E M ps cs = false := by
 rw [Bool.eq_false_iff]; exact fun e => h ((exB_iff _ _ _ _ _).1 e)
theorem ExOk.lines {O E M : Int} {ps : List ByteArray} {cs : List Cl} (h : ExOk O E M ps cs) : 1 ≤ ps.length ∧ ps.length ≤ 10 := by
 have ho := h.calls.sh.o
 have he := h.calls.sh.e
 have h1 : 1 * 1 ≤ O * E := Int.le_trans (Int.mul_le_mul_of_nonneg_right ho.1 (by omega)) (Int.mul_le_mul_of_nonneg_left he.1 (by omega))
 have h2 := h.len
 exact ⟨by omega, h.plan.1⟩
/-- There are as many calls as lines at most. -/
theorem nodupI_len : ∀ {n : Nat} {xs : List Int}, xs.Nodup → (∀ x ∈ xs, 0 ≤ x ∧ x < n) → xs.length ≤ n := by
 intro n xs h hl
 have h1 : (xs.map Int.toNat).Nodup := by
  rw [List.nodup_iff_pairwise_ne, List.pairwise_map]
  refine List.Pairwise.imp_of_mem ?_ (List.nodup_iff_pairwise_ne.1 h)
  intro a b ha hb hab e
  have := hl a ha; have := hl b hb; omega
 have := nodup_len (n := n) h1 (fun k hk => by
  obtain ⟨x, hx, rfl⟩ := List.mem_map.1 hk
  have := hl x hx; omega)
 simpa using this
theorem CallsOk.ins {O E M : Int} {cs : List Cl} (h : CallsOk O E M cs) : (cs.map (·.1)).Nodup ∧ (cs.map (·.2.1)).Nodup := by
 have hp : cs.Pairwise fun d c => d.1 ≠ c.1 ∧ d.2.1 ≠ c.2.1 := by
  rw [List.pairwise_iff_getElem]
  intro i j hi hj hij
  have := h.apart i j cs[i] cs[j] hij (List.getElem?_eq_getElem hi) (List.getElem?_eq_getElem hj)
  exact ⟨this.1, this.2.1⟩
 constructor
 ·
  rw [List.nodup_iff_pairwise_ne, List.pairwise_map]; exact hp.imp fun h => h.1
 ·
  rw [List.nodup_iff_pairwise_ne, List.pairwise_map]; exact hp.imp fun h => h.2
theorem CallsOk.mem {O E M : Int} {cs : List Cl} (h : CallsOk O E M cs) {c : Cl} (hc : c ∈ cs) : (0 ≤ c.1 ∧ c.1 < O * E) ∧ (0 ≤ c.2.1 ∧ c.2.1 < O * E) ∧ 0 ≤ c.2.2 ∧ c.2.2 < M := by
 obtain ⟨k, hk⟩ := List.mem_iff_getElem?.1 hc
 exact h.at' k c hk
theorem CallsOk.count {O E M : Int} {cs : List Cl} (h : CallsOk O E M cs) (hOE : O * E ≤ 12) : cs.length ≤ 12 := by
 have h1 := nodupI_len (n := 12) h.ins.1 (fun x hx => by
  obtain ⟨c, hc, rfl⟩ := List.mem_map.1 hx
  have := h.mem hc; omega)
 simpa using h1
theorem CallsOk.one {O E M : Int} {cs : List Cl} (h : CallsOk O E M cs) {c d : Cl} (hc : c ∈ cs) (hd : d ∈ cs) (e : c.1 = d.1 ∨ c.2.1 = d.2.1) : c = d := by
 obtain ⟨j, hj⟩ := List.mem_iff_getElem?.1 hc
 obtain ⟨k, hk⟩ := List.mem_iff_getElem?.1 hd
 rcases Nat.lt_trichotomy j k with h1 | h1 | h1
 ·
  have := h.apart j k c d h1 hj hk
  rcases e with e | e
  ·
   exact absurd e this.1
  ·
   exact absurd e this.2.1
 ·
  subst h1; rw [hj] at hk; exact Option.some.inj hk
 ·
  have := h.apart k j d c h1 hk hj
  rcases e with e | e
  ·
   exact absurd e.symm this.1
  ·
   exact absurd e.symm this.2.1

/-! Which lines are engaged by the first k calls. -/
def engB (cs : List Cl) (k : Nat) (x : Int) : Bool := (cs.take k).any fun c => decide (c.1 = x) || decide (c.2.1 = x)
theorem engB_zero (cs : List Cl) (x : Int) : engB cs 0 x = false := by simp [engB]
theorem engB_succ {cs : List Cl} {k : Nat} {c : Cl} (hc : cs[k]? = some c) (x : Int) : engB cs (k + 1) x = (engB cs k x || (decide (c.1 = x) || decide (c.2.1 = x))) := by
 obtain ⟨hk, rfl⟩ := List.getElem?_eq_some_iff.1 hc
 unfold engB
 rw [List.take_succ_eq_append_getElem hk, List.any_append]; simp
theorem engB_mem {cs : List Cl} {k : Nat} {x : Int} : engB cs k x = true ↔ ∃ j c, j < k ∧ cs[j]? = some c ∧ (c.1 = x ∨ c.2.1 = x) := by
 simp only [engB, List.any_eq_true, Bool.or_eq_true, decide_eq_true_eq]
 constructor
 ·
  rintro ⟨c, hc, h⟩
  obtain ⟨j, hj⟩ := List.mem_iff_getElem?.1 hc
  have hl := (List.getElem?_eq_some_iff.1 hj).1
  rw [List.length_take] at hl
  rw [List.getElem?_take_of_lt (by omega)] at hj
  exact ⟨j, c, by omega, hj, h⟩
 ·
  rintro ⟨j, c, hjk, hj, h⟩
  exact ⟨c, List.mem_of_getElem? (by rw [List.getElem?_take_of_lt hjk]; exact hj), h⟩
/-- The first k calls are apart. -/
def PartTo (cs : List Cl) (k : Nat) : Prop := ∀ i j c d, i < k → j < k → cs[i]? = some c → cs[j]? = some d → c.1 ≠ d.2.1
theorem PartTo.zero (cs : List Cl) : PartTo cs 0 := fun i j c d h => absurd h (by omega)
theorem PartTo.all {cs : List Cl} (h : PartTo cs cs.length) : PartOk cs := by
 intro c hc d hd
 obtain ⟨i, hi⟩ := List.mem_iff_getElem?.1 hc
 obtain ⟨j, hj⟩ := List.mem_iff_getElem?.1 hd
 exact h i j c d (List.getElem?_eq_some_iff.1 hi).1 (List.getElem?_eq_some_iff.1 hj).1 hi hj
theorem PartTo.step {cs : List Cl} {k : Nat} {c : Cl} (h : PartTo cs k) (hc : cs[k]? = some c) (h1 : c.1 ≠ c.2.1) (h2 : engB cs k c.1 = false) (h3 : engB cs k c.2.1 = false) : PartTo cs (k + 1) := by
 intro i j x y hi hj hx hy e
 have n2 : ∀ i x, i < k → cs[i]? = some x → x.2.1 ≠ c.1 := fun i x hi hx e => by
  have := engB_mem.2 ⟨i, x, hi, hx, .inr e⟩; rw [h2] at this; cases this
 have n3 : ∀ i x, i < k → cs[i]? = some x → x.1 ≠ c.2.1 := fun i x hi hx e => by
  have := engB_mem.2 ⟨i, x, hi, hx, .inl e⟩; rw [h3] at this; cases this
 by_cases hik : i = k
 ·
  subst hik
  rw [hc] at hx; cases hx
  by_cases hjk : j = i
  ·
   subst hjk; rw [hc] at hy; cases hy; exact h1 e
  ·
   exact n2 j y (by omega) hy e.symm
 ·
  by_cases hjk : j = k
  ·
   subst hjk; rw [hc] at hy; cases hy; exact n3 i x (by omega) hx e
  ·
   exact h i j x y (by omega) (by omega) hx hy e
theorem part_no {O E M : Int} {ps : List ByteArray} {cs : List Cl} {c d : Cl} (hc : c ∈ cs) (hd : d ∈ cs) (e : c.1 = d.2.1) : exB O E M ps cs = false :=
 exB_no fun h => h.part c hc d hd e
theorem eng_no {O E M : Int} {ps : List ByteArray} {cs : List Cl} {k : Nat} {c : Cl} (hok : CallsOk O E M cs) (hc : cs[k]? = some c) (h : engB cs k c.1 = true ∨ engB cs k c.2.1 = true) : exB O E M ps cs = false := by
 rcases h with h | h
 ·
  obtain ⟨j, d, hj, hd, e⟩ := engB_mem.1 h
  rcases e with e | e
  ·
   exact absurd e (hok.apart j k d c hj hd hc).1
  ·
   exact part_no (List.mem_of_getElem? hc) (List.mem_of_getElem? hd) e.symm
 ·
  obtain ⟨j, d, hj, hd, e⟩ := engB_mem.1 h
  rcases e with e | e
  ·
   exact part_no (List.mem_of_getElem? hd) (List.mem_of_getElem? hc) e
  ·
   exact absurd e (hok.apart j k d c hj hd hc).2.1
/-- The reference: for the first k calls, with the first j ones. -/
def SprTo (cs : List Cl) (k : Nat) : Prop := ∀ (i j : Nat) (c d : Cl), i < k → cs[i]? = some c → cs[j]? = some d → c.1 ≠ d.2.1
theorem SprTo.all {cs : List Cl} (h : SprTo cs cs.length) : PartOk cs := by
 intro c hc d hd
 obtain ⟨i, hi⟩ := List.mem_iff_getElem?.1 hc
 obtain ⟨j, hj⟩ := List.mem_iff_getElem?.1 hd
 exact h i j c d (List.getElem?_eq_some_iff.1 hi).1 hi hj

/-! Who is connected with whom. -/
def hasE (x : Int) (c : Cl) : Bool := decide (c.1 = x) || decide (c.2.1 = x)
def peerL (cs : List Cl) (x : Int) : Int := match cs.find? (hasE x) with
 | some c => c.1 + c.2.1 - x
 | none => -1
def noneTo (cs : List Cl) (x : Int) (k : Nat) : Prop := ∀ j c, j < k → cs[j]? = some c → hasE x c = false
theorem find_at {cs : List Cl} {x : Int} {k : Nat} {c : Cl} (h : noneTo cs x k) (hc : cs[k]? = some c) (h1 : hasE x c = true) : cs.find? (hasE x) = some c := by
 rw [List.find?_eq_some_iff_getElem]
 obtain ⟨hk, rfl⟩ := List.getElem?_eq_some_iff.1 hc
 refine ⟨h1, k, hk, rfl, fun j hj => ?_⟩
 have := h j cs[j] hj (List.getElem?_eq_getElem (by omega))
 simp [this]
theorem find_none {cs : List Cl} {x : Int} (h : noneTo cs x cs.length) : cs.find? (hasE x) = none := by
 rw [List.find?_eq_none]
 intro c hc
 obtain ⟨j, hj⟩ := List.mem_iff_getElem?.1 hc
 rw [h j c (List.getElem?_eq_some_iff.1 hj).1 hj]; simp
theorem noneTo.succ {cs : List Cl} {x : Int} {k : Nat} {c : Cl} (h : noneTo cs x k) (hc : cs[k]? = some c) (h1 : hasE x c = false) : noneTo cs x (k + 1) := by
 intro j d hj hd
 by_cases e : j = k
 ·
  subst e; rw [hc] at hd; cases hd; exact h1
 ·
  exact h j d (by omega) hd
theorem peer_some {cs : List Cl} {x : Int} {c : Cl} (h : cs.find? (hasE x) = some c) : peerL cs x = c.1 + c.2.1 - x := by simp [peerL, h]
theorem peer_none {cs : List Cl} {x : Int} (h : cs.find? (hasE x) = none) : peerL cs x = -1 := by simp [peerL, h]
theorem peer_neg {O E M : Int} {cs : List Cl} (hok : CallsOk O E M cs) (x : Int) : peerL cs x = -1 ∧ cs.find? (hasE x) = none ∨ ∃ c, cs.find? (hasE x) = some c ∧ c ∈ cs ∧ (c.1 = x ∧ peerL cs x = c.2.1 ∨ c.2.1 = x ∧ peerL cs x = c.1) ∧ 0 ≤ peerL cs x ∧ peerL cs x < O * E := by
 cases h : cs.find? (hasE x) with
 | none => exact .inl ⟨peer_none h, rfl⟩
 | some c =>
  have hm := List.mem_of_find?_eq_some h
  have h1 := List.find?_some h
  have h2 := hok.mem hm
  have h3 := peer_some h
  simp only [hasE, Bool.or_eq_true, decide_eq_true_eq] at h1
  refine .inr ⟨c, rfl, hm, ?_, ?_, ?_⟩
  ·
   rcases h1 with h1 | h1
   ·
    exact .inl ⟨h1, by omega⟩
   ·
    exact .inr ⟨h1, by omega⟩
  ·
   omega
  ·
   omega
/-- The place of a number in a plan. -/
def lineL (ps : List ByteArray) (s : ByteArray) : Int := match ps.findIdx? fun p => decide (p = s) with
 | some k => (k : Int)
 | none => -1
def neTo (ps : List ByteArray) (s : ByteArray) (k : Nat) : Prop := ∀ j p, j < k → ps[j]? = some p → p ≠ s
theorem line_at {ps : List ByteArray} {s : ByteArray} {k : Nat} (h : neTo ps s k) (hk : ps[k]? = some s) : lineL ps s = k := by
 have : (ps.findIdx? fun p => decide (p = s)) = some k := by
  rw [List.findIdx?_eq_some_iff_getElem]
  obtain ⟨hl, e⟩ := List.getElem?_eq_some_iff.1 hk
  refine ⟨hl, by simp [e], fun j hj => ?_⟩
  have := h j ps[j] hj (List.getElem?_eq_getElem (by omega))
  simpa using this
 simp [lineL, this]
theorem line_none {ps : List ByteArray} {s : ByteArray} (h : neTo ps s ps.length) : lineL ps s = -1 := by
 have : (ps.findIdx? fun p => decide (p = s)) = none := by
  rw [List.findIdx?_eq_none_iff]
  intro p hp
  obtain ⟨j, hj⟩ := List.mem_iff_getElem?.1 hp
  have := h j p (List.getElem?_eq_some_iff.1 hj).1 hj
  simpa using this
 simp [lineL, this]
theorem line_is {ps : List ByteArray} {s : ByteArray} : lineL ps s = -1 ∧ neTo ps s ps.length ∨ ∃ k : Nat, lineL ps s = k ∧ ps[k]? = some s ∧ neTo ps s k := by
 cases h : (ps.findIdx? fun p => decide (p = s)) with
 | none =>
  refine .inl ⟨by simp [lineL, h], fun j p _ hp e => ?_⟩
  rw [List.findIdx?_eq_none_iff] at h
  have := h p (List.mem_of_getElem? hp)
  simp [e] at this
 | some k =>
  refine .inr ⟨k, by simp [lineL, h], ?_⟩
  rw [List.findIdx?_eq_some_iff_getElem] at h
  obtain ⟨hl, e, hj⟩ := h
  simp at e
  refine ⟨by rw [List.getElem?_eq_getElem hl, e], fun j p hjk hp e2 => ?_⟩
  obtain ⟨hl2, rfl⟩ := List.getElem?_eq_some_iff.1 hp
  have := hj j hjk
  simp [e2] at this

end Go.Proofs.YtedadhoneebfnaaGreatDoor

/- Deeds of an exchange, plain: what they do, and that they keep it valid. No program in sight. -/
namespace Go.Proofs.YtedadhoneebfnaaGreatDoor

/-- All ends of calls are different lines. -/
theorem ExOk.only {O E M : Int} {ps : List ByteArray} {cs : List Cl} (h : ExOk O E M ps cs) {c d : Cl} {x : Int} (hc : c ∈ cs) (hd : d ∈ cs) (h1 : hasE x c = true) (h2 : hasE x d = true) : c = d := by
 simp only [hasE, Bool.or_eq_true, decide_eq_true_eq] at h1 h2
 rcases h1 with h1 | h1 <;> rcases h2 with h2 | h2
 ·
  exact h.calls.one hc hd (.inl (by omega))
 ·
  exact absurd (show c.1 = d.2.1 by omega) (h.part c hc d hd)
 ·
  exact absurd (show d.1 = c.2.1 by omega) (h.part d hd c hc)
 ·
  exact h.calls.one hc hd (.inr (by omega))
theorem ExOk.apart {O E M : Int} {ps : List ByteArray} {cs : List Cl} (h : ExOk O E M ps cs) {c : Cl} (hc : c ∈ cs) : c.1 ≠ c.2.1 := h.part c hc c hc
theorem ExOk.bare {O E M : Int} {ps : List ByteArray} {cs : List Cl} (h : ExOk O E M ps cs) : ExOk O E M ps [] :=
 ⟨⟨h.calls.sh, fun k c hc => by simp at hc, fun j k d c _ hd => by simp at hd⟩, h.en, h.plan, h.len, fun c hc => by simp at hc⟩
theorem hasE_in (c : Cl) : hasE c.1 c = true := by simp [hasE]
/-! The ends alone. -/
def ends (c : Cl) : Int × Int := (c.1, c.2.1)
theorem flip_ends (a b : Int) (ch : List Nat) (cs : List Cl) : (flipL a b ch cs).map ends = cs.map ends := by
 apply List.ext_getElem?
 intro k
 cases hk : cs[k]? with
 | none =>
  have : cs.length ≤ k := by rw [List.getElem?_eq_none_iff] at hk; exact hk
  rw [List.getElem?_eq_none (by simp [flipL]; omega), List.getElem?_eq_none (by simp; omega)]
 | some c => rw [List.getElem?_map, List.getElem?_map, flipL_at hk, hk]; rfl
theorem move_ends (E M : Int) (cs : List Cl) (x y : Int) : (moveL E M cs x y).map ends = cs.map ends ++ [(x, y)] := by
 unfold moveL
 split
 ·
  simp [ends]
 ·
  simp only [List.map_append, flip_ends]; simp [ends]
theorem mem_ends {cs : List Cl} {p : Int × Int} : p ∈ cs.map ends ↔ ∃ c ∈ cs, ends c = p := by simp [List.mem_map]
theorem part_ends {cs : List Cl} : PartOk cs ↔ ∀ p ∈ cs.map ends, ∀ q ∈ cs.map ends, p.1 ≠ q.2 := by
 constructor
 ·
  intro h p hp q hq
  obtain ⟨c, hc, rfl⟩ := mem_ends.1 hp
  obtain ⟨d, hd, rfl⟩ := mem_ends.1 hq
  exact h c hc d hd
 ·
  intro h c hc d hd
  exact h (ends c) (mem_ends.2 ⟨c, hc, rfl⟩) (ends d) (mem_ends.2 ⟨d, hd, rfl⟩)
theorem find_free {cs : List Cl} {x : Int} (h : cs.find? (hasE x) = none) : ∀ c ∈ cs, c.1 ≠ x ∧ c.2.1 ≠ x := by
 intro c hc
 rw [List.find?_eq_none] at h
 have := h c hc
 simp [hasE] at this
 exact this

/-! Deeds. -/
def dropL (cs : List Cl) (x : Int) : List Cl := cs.filter fun c => !decide (c.1 = x)
noncomputable def doL (E M : Int) (ps : List ByteArray) (cs : List Cl) (kind line : Int) (num : ByteArray) : Option (List ByteArray × List Cl) :=
 if line < 0 ∨ (ps.length : Int) ≤ line then none
 else if kind = 0 then
  (if lineL ps num < 0 ∨ lineL ps num = line ∨ 0 ≤ peerL cs line ∨ 0 ≤ peerL cs (lineL ps num) then none else some (ps, moveL E M cs line (lineL ps num)))
 else if kind = 1 then
  (if num ≠ ByteArray.empty then none else match cs.find? (hasE line) with
   | none => none
   | some c => some (ps, dropL cs c.1))
 else if kind = 2 then
  (if ps[line.toNat]? = some num ∨ planB (ps.set line.toNat num) = false then none else some (ps.set line.toNat num, cs))
 else none
theorem dropL_ok {O E M : Int} {cs : List Cl} (h : CallsOk O E M cs) (x : Int) : CallsOk O E M (dropL cs x) := by
 have hp : (dropL cs x).Pairwise fun d c => d.1 ≠ c.1 ∧ d.2.1 ≠ c.2.1 ∧ ∀ s, swC E s d = swC E s c → d.2.2 ≠ c.2.2 := by
  refine List.Pairwise.filter _ ?_
  rw [List.pairwise_iff_getElem]
  intro i j hi hj hij
  exact h.apart i j _ _ hij (List.getElem?_eq_getElem hi) (List.getElem?_eq_getElem hj)
 refine ⟨h.sh, fun k c hc => ?_, fun j k d c hjk hd hc => ?_⟩
 ·
  exact h.mem (List.mem_filter.1 (List.mem_of_getElem? hc)).1
 ·
  obtain ⟨hj, rfl⟩ := List.getElem?_eq_some_iff.1 hd
  obtain ⟨hk, rfl⟩ := List.getElem?_eq_some_iff.1 hc
  exact List.pairwise_iff_getElem.1 hp j k hj hk hjk
theorem dropL_mem {cs : List Cl} {x : Int} {c : Cl} : c ∈ dropL cs x ↔ c ∈ cs ∧ c.1 ≠ x := by simp [dropL, List.mem_filter]
theorem dropL_len {cs : List Cl} {x : Int} : (dropL cs x).length ≤ cs.length := List.length_filter_le _ _
theorem dropL_lt {cs : List Cl} {c : Cl} (hc : c ∈ cs) : (dropL cs c.1).length < cs.length := by
 unfold dropL
 rw [List.length_filter_lt_length_iff_exists]
 exact ⟨c, hc, by simp⟩
theorem free_of {cs : List Cl} {x : Int} (hok : ∃ O E M, CallsOk O E M cs) (h : ¬ 0 ≤ peerL cs x) : cs.find? (hasE x) = none := by
 obtain ⟨O, E, M, hok⟩ := hok
 rcases peer_neg hok x with ⟨_, h2⟩ | ⟨c, _, _, _, h3, _⟩
 ·
  exact h2
 ·
  omega
theorem do_call {O E M : Int} {ps : List ByteArray} {cs : List Cl} (h : ExOk O E M ps cs) {x y : Int} (hx : 0 ≤ x ∧ x < ps.length) (hy : 0 ≤ y ∧ y < ps.length) (hxy : y ≠ x) (h1 : cs.find? (hasE x) = none) (h2 : cs.find? (hasE y) = none) : ExOk O E M ps (moveL E M cs x y) := by
 have f1 := find_free h1
 have f2 := find_free h2
 have hl := h.len
 refine ⟨moveL_ok h.calls h.en (by omega) (by omega) (fun c hc => ⟨(f1 c hc).1, (f2 c hc).2⟩), h.en, h.plan, h.len, ?_⟩
 rw [part_ends, move_ends]
 intro p hp q hq
 rcases List.mem_append.1 hp with hp | hp <;> rcases List.mem_append.1 hq with hq | hq
 ·
  exact part_ends.1 h.part p hp q hq
 ·
  obtain ⟨c, hc, rfl⟩ := mem_ends.1 hp
  simp at hq; subst hq
  exact (f2 c hc).1
 ·
  obtain ⟨c, hc, rfl⟩ := mem_ends.1 hq
  simp at hp; subst hp
  exact fun e => (f1 c hc).2 e.symm
 ·
  simp at hp hq; subst hp; subst hq
  exact fun e => hxy e.symm
theorem line_lt {ps : List ByteArray} {s : ByteArray} (h : 0 ≤ lineL ps s) : lineL ps s < ps.length := by
 rcases line_is (ps := ps) (s := s) with ⟨h1, _⟩ | ⟨k, h1, h2, _⟩
 ·
  omega
 ·
  have := (List.getElem?_eq_some_iff.1 h2).1; omega
theorem do_ok {O E M : Int} {ps : List ByteArray} {cs : List Cl} (h : ExOk O E M ps cs) {kind line : Int} {num : ByteArray} {ps' : List ByteArray} {cs' : List Cl} (hd : doL E M ps cs kind line num = some (ps', cs')) : ExOk O E M ps' cs' := by
 unfold doL at hd
 split at hd
 ·
  cases hd
 rename_i hl
 split at hd
 ·
  split at hd
  ·
   cases hd
  rename_i hc
  simp only [not_or] at hc hl
  cases hd
  exact do_call h (by omega) ⟨by omega, line_lt (by omega)⟩ hc.2.1 (free_of ⟨O, E, M, h.calls⟩ hc.2.2.1) (free_of ⟨O, E, M, h.calls⟩ hc.2.2.2)
 split at hd
 ·
  split at hd
  ·
   cases hd
  split at hd
  ·
   cases hd
  ·
   cases hd
   exact ⟨dropL_ok h.calls _, h.en, h.plan, h.len, fun c hc d hd => h.part c (dropL_mem.1 hc).1 d (dropL_mem.1 hd).1⟩
 split at hd
 ·
  split at hd
  ·
   cases hd
  rename_i hc
  cases hd
  simp only [not_or, Bool.not_eq_false] at hc
  exact ⟨h.calls, h.en, (planB_iff _).1 hc.2, by rw [List.length_set]; exact h.len, h.part⟩
 ·
  cases hd

/-! Deeds one after the other. -/
abbrev Dd := Int × Int × ByteArray
noncomputable def stepL (E M : Int) (x : (List ByteArray × List Cl) × Nat) (d : Dd) : (List ByteArray × List Cl) × Nat :=
 match doL E M x.1.1 x.1.2 d.1 d.2.1 d.2.2 with
 | some y => (y, x.2 + 1)
 | none => x
noncomputable def runL (E M : Int) (ps : List ByteArray) (cs : List Cl) (ds : List Dd) : (List ByteArray × List Cl) × Nat := ds.foldl (stepL E M) ((ps, cs), 0)
theorem run_snoc {E M : Int} {ps : List ByteArray} {cs : List Cl} {ds : List Dd} {k : Nat} {d : Dd} (h : ds[k]? = some d) : runL E M ps cs (ds.take (k + 1)) = stepL E M (runL E M ps cs (ds.take k)) d := by
 obtain ⟨hk, rfl⟩ := List.getElem?_eq_some_iff.1 h
 unfold runL
 rw [List.take_succ_eq_append_getElem hk, List.foldl_append]; rfl
theorem step_ok {O E M : Int} {x : (List ByteArray × List Cl) × Nat} {d : Dd} (h : ExOk O E M x.1.1 x.1.2) : ExOk O E M (stepL E M x d).1.1 (stepL E M x d).1.2 := by
 unfold stepL
 split
 ·
  rename_i y hy
  exact do_ok h hy
 ·
  exact h
/-! The night. -/
def nightL (cs : List Cl) : List Dd := cs.map fun c => (1, c.1, ByteArray.empty)
theorem night_fold {O E M : Int} {ps : List ByteArray} : ∀ (cs : List Cl) (n : Nat), ExOk O E M ps cs → (nightL cs).foldl (stepL E M) ((ps, cs), n) = ((ps, []), n + cs.length) := by
 intro cs
 induction cs with
 | nil => intro n _; rfl
 | cons c cs ih =>
  intro n h
  have hl := h.len
  have hm := h.calls.mem (c := c) (by simp)
  have hf : (c :: cs).find? (hasE c.1) = some c := by simp [List.find?_cons, hasE_in]
  have hdr : dropL (c :: cs) c.1 = cs := by
   unfold dropL
   rw [List.filter_cons_of_neg (by simp), List.filter_eq_self]
   intro d hd
   simp only [Bool.not_eq_eq_eq_not, Bool.not_true, decide_eq_false_iff_not]
   intro e
   have h1 := h.calls.ins.1
   simp only [List.map_cons, List.nodup_cons] at h1
   exact h1.1 (List.mem_map.2 ⟨d, hd, e⟩)
  have hdo : doL E M ps (c :: cs) 1 c.1 ByteArray.empty = some (ps, cs) := by
   unfold doL
   rw [if_neg (by omega), if_neg (by omega), if_pos rfl, if_neg (by simp), hf]
   simp only [hdr]
  have hst : stepL E M ((ps, c :: cs), n) (1, c.1, ByteArray.empty) = ((ps, cs), n + 1) := by
   unfold stepL; simp only [hdo]
  have hok : ExOk O E M ps cs := do_ok h hdo
  simp only [nightL, List.map_cons, List.foldl_cons] at ih ⊢
  rw [hst, ih (n + 1) hok]
  simp [Nat.add_assoc, Nat.add_comm 1]
theorem night_run {O E M : Int} {ps : List ByteArray} {cs : List Cl} (h : ExOk O E M ps cs) : runL E M ps cs (nightL cs) = ((ps, []), cs.length) := by
 unfold runL
 rw [night_fold cs 0 h]; simp

end Go.Proofs.YtedadhoneebfnaaGreatDoor
