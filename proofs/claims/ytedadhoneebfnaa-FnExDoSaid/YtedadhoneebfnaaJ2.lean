/- Joined texts: PlP, ExP, Shp, Q, Pv, Bc, Rg. -/
import Derived.Test.YtedadhoneebfnaaJ1
import Derived.Deep.QuietTactic
import Derived.Handy
import Derived.BigQuiet
import Derived.Test.YtedadhoneebfnaaRows
import Derived.Deep.RegionHeld3
set_option linter.unusedSimpArgs false
set_option linter.unusedVariables false
/- Plain mathematics of numbering plans: validity, shares, the plan with given lengths, dialling. No program in sight. -/
namespace Go.Proofs.Ytedadhoneebfnaa
open Go.RowKit

/-- The numbers of a plan. -/
def numB (s : ByteArray) : Bool := decide (1 ≤ s.size) && decide (s.size ≤ 3) && digsB s
/-- The first k numbers of a plan are in order. -/
def PlOk (ps : List ByteArray) (k : Nat) : Prop := (∀ j s, j < k → ps[j]? = some s → numB s = true) ∧ ∀ i j s t, i < j → j < k → ps[i]? = some s → ps[j]? = some t → preB t s = false ∧ preB s t = false
def PlanOk (ps : List ByteArray) : Prop := ps.length ≤ 10 ∧ PlOk ps ps.length
noncomputable def planB (ps : List ByteArray) : Bool := @decide (PlanOk ps) (Classical.propDecidable _)
theorem planB_iff (ps : List ByteArray) : planB ps = true ↔ PlanOk ps := by unfold planB; exact @decide_eq_true_iff _ (Classical.propDecidable _)
theorem planB_no {ps : List ByteArray} (h : ¬ PlanOk ps) : planB ps = false := by
 rw [Bool.eq_false_iff]; exact fun e => h ((planB_iff ps).1 e)
theorem PlOk.zero (ps : List ByteArray) : PlOk ps 0 := ⟨fun j r h => absurd h (by omega), fun i j r s _ h => absurd h (by omega)⟩
theorem PlOk.succ {ps : List ByteArray} {k : Nat} {s : ByteArray} (h : PlOk ps k) (hs : ps[k]? = some s) (h1 : numB s = true) (h2 : ∀ j t, j < k → ps[j]? = some t → preB s t = false ∧ preB t s = false) : PlOk ps (k + 1) := by
 refine ⟨fun j t hj ht => ?_, fun i j t u hij hj ht hu => ?_⟩
 ·
  by_cases e : j = k
  ·
   subst e; rw [hs] at ht; cases ht; exact h1
  ·
   exact h.1 j t (by omega) ht
 ·
  by_cases e : j = k
  ·
   subst e; rw [hs] at hu; cases hu; exact h2 i t hij ht
  ·
   exact h.2 i j t u hij (by omega) ht hu
theorem lt_of_some {α : Type} {xs : List α} {k : Nat} {x : α} (h : xs[k]? = some x) : k < xs.length := (List.getElem?_eq_some_iff.1 h).1
theorem PlanOk.at {ps : List ByteArray} (h : PlanOk ps) (k : Nat) (s : ByteArray) (hs : ps[k]? = some s) : numB s = true := h.2.1 k s (lt_of_some hs) hs
theorem PlanOk.apart {ps : List ByteArray} (h : PlanOk ps) {i j : Nat} {s t : ByteArray} (hij : i ≠ j) (hs : ps[i]? = some s) (ht : ps[j]? = some t) : preB t s = false := by
 rcases Nat.lt_or_gt_of_ne hij with hl | hl
 ·
  exact (h.2.2 i j s t hl (lt_of_some ht) hs ht).1
 ·
  exact (h.2.2 j i t s hl (lt_of_some hs) ht hs).2
theorem plan_no_at {ps : List ByteArray} {k : Nat} {s : ByteArray} (hs : ps[k]? = some s) (h : numB s = false) : planB ps = false :=
 planB_no fun ok => by have := ok.at k s hs; rw [h] at this; cases this
theorem plan_no_pair {ps : List ByteArray} {i j : Nat} {s t : ByteArray} (hij : i ≠ j) (hs : ps[i]? = some s) (ht : ps[j]? = some t) (h : preB t s = true) : planB ps = false :=
 planB_no fun ok => by have := ok.apart hij hs ht; rw [h] at this; cases this
theorem numB_size {s : ByteArray} (h : numB s = true) : 1 ≤ s.size ∧ s.size ≤ 3 ∧ digsB s = true := by
 simp only [numB, Bool.and_eq_true, decide_eq_true_eq] at h; exact ⟨h.1.1, h.1.2, h.2⟩
theorem PlanOk.nil : PlanOk [] := ⟨by simp, PlOk.zero []⟩
theorem PlanOk.tail {ps : List ByteArray} (h : PlanOk ps) : PlanOk (ps.drop 1) := by
 cases ps with
 | nil => exact h
 | cons p ps =>
  refine ⟨by have := h.1; simp at this ⊢; omega, fun j s hj hs => ?_, fun i j s t hij hj hs ht => ?_⟩
  ·
   exact h.at (j + 1) s (by simpa using hs)
  ·
   exact ⟨h.apart (i := i + 1) (j := j + 1) (by omega) (by simpa using hs) (by simpa using ht), h.apart (i := j + 1) (j := i + 1) (by omega) (by simpa using ht) (by simpa using hs)⟩

/-- The lengths of a plan's numbers. -/
def lensOf (ps : List ByteArray) : List Int := ps.map fun s => (s.size : Int)
theorem lensOf_ok {ps : List ByteArray} (h : PlanOk ps) : lensB (lensOf ps) = true := by
 simp only [lensB, Bool.and_eq_true, decide_eq_true_eq, List.all_eq_true]
 refine ⟨by have := h.1; simpa [lensOf] using this, fun z hz => ?_⟩
 obtain ⟨s, hs, rfl⟩ := List.mem_map.1 hz
 obtain ⟨k, hk⟩ := List.mem_iff_getElem?.1 hs
 obtain ⟨h1, h2, _⟩ := numB_size (h.at k s hk)
 exact (lenB_iff _).2 ⟨by omega, by omega⟩

/-! No plan has more shares than there are. -/
def three (n : Nat) : List UInt8 := [UInt8.ofNat (48 + n / 16 % 4), UInt8.ofNat (48 + n / 4 % 4), UInt8.ofNat (48 + n % 4)]
def hits (l : List UInt8) : Nat := (List.range 64).countP fun n => l.isPrefixOf (three n)
theorem hits1 : ∀ a ∈ [48, 49, 50, 51], hits [a] = 16 := by decide +kernel
theorem hits2 : ∀ a ∈ [48, 49, 50, 51], ∀ b ∈ [48, 49, 50, 51], hits [a, b] = 4 := by decide +kernel
theorem hits3 : ∀ a ∈ [48, 49, 50, 51], ∀ b ∈ [48, 49, 50, 51], ∀ c ∈ [48, 49, 50, 51], hits [a, b, c] = 1 := by decide +kernel
theorem digB_mem {c : UInt8} (h : digB c = true) : c ∈ ([48, 49, 50, 51] : List UInt8) := by
 simp only [digB, Bool.and_eq_true, decide_eq_true_eq] at h
 have : c.toNat = 48 ∨ c.toNat = 49 ∨ c.toNat = 50 ∨ c.toNat = 51 := by omega
 simp only [List.mem_cons, List.not_mem_nil, or_false, ← UInt8.toNat_inj]
 simpa using this
theorem hits_num {s : ByteArray} (h : numB s = true) : hits s.data.toList = 4 ^ (3 - s.size) := by
 obtain ⟨h1, h2, h3⟩ := numB_size h
 have hl : s.data.toList.length = s.size := by simp
 unfold digsB at h3
 rw [← hl] at h1 h2 ⊢
 rw [List.all_eq_true] at h3
 generalize s.data.toList = l at *
 match l with
 | [] => simp at h1
 | [a] => exact hits1 a (digB_mem (h3 a (by simp)))
 | [a, b] => exact hits2 a (digB_mem (h3 a (by simp))) b (digB_mem (h3 b (by simp)))
 | [a, b, c] => exact hits3 a (digB_mem (h3 a (by simp))) b (digB_mem (h3 b (by simp))) c (digB_mem (h3 c (by simp)))
 | a :: b :: c :: d :: l => simp at h2
theorem pre_both {l m t : List UInt8} (h1 : l.isPrefixOf t = true) (h2 : m.isPrefixOf t = true) : l.isPrefixOf m = true ∨ m.isPrefixOf l = true := by
 rw [List.isPrefixOf_iff_prefix] at h1 h2 ⊢
 rw [List.isPrefixOf_iff_prefix]
 exact List.prefix_or_prefix_of_prefix h1 h2
theorem count_le_one {α : Type} (p : α → Bool) : ∀ (l : List α), l.Pairwise (fun a b => ¬ (p a = true ∧ p b = true)) → l.countP p ≤ 1 := by
 intro l
 induction l with
 | nil => intro _; simp
 | cons a l ih =>
  intro h
  rw [List.pairwise_cons] at h
  by_cases ha : p a = true
  ·
   have : l.countP p = 0 := List.countP_eq_zero.2 fun b hb hpb => h.1 b hb ⟨ha, hpb⟩
   rw [List.countP_cons_of_pos ha]; omega
  ·
   rw [List.countP_cons_of_neg ha]; exact ih h.2
theorem count_twice {α β : Type} (r : α → β → Bool) (xs : List α) (ys : List β) : (xs.map fun x => ys.countP fun y => r x y).sum = (ys.map fun y => xs.countP fun x => r x y).sum := by
 induction xs with
 | nil =>
  induction ys with
  | nil => rfl
  | cons y ys ih2 => simpa using ih2
 | cons x xs ih =>
  rw [List.map_cons, List.sum_cons, ih]
  clear ih
  induction ys with
  | nil => simp
  | cons y ys ih2 =>
   simp only [List.map_cons, List.sum_cons]
   by_cases hr : r x y = true
   ·
    have e1 : (y :: ys).countP (fun y => r x y) = ys.countP (fun y => r x y) + 1 := List.countP_cons_of_pos hr
    have e2 : (x :: xs).countP (fun x => r x y) = xs.countP (fun x => r x y) + 1 := List.countP_cons_of_pos (p := fun x => r x y) hr
    rw [e1, e2]; omega
   ·
    have e1 : (y :: ys).countP (fun y => r x y) = ys.countP (fun y => r x y) := List.countP_cons_of_neg hr
    have e2 : (x :: xs).countP (fun x => r x y) = xs.countP (fun x => r x y) := List.countP_cons_of_neg (p := fun x => r x y) hr
    rw [e1, e2]; omega
theorem sum_le_len {α : Type} (f : α → Nat) : ∀ (l : List α), (∀ a ∈ l, f a ≤ 1) → (l.map f).sum ≤ l.length := by
 intro l
 induction l with
 | nil => intro _; simp
 | cons a l ih =>
  intro h
  have h1 := h a (by simp)
  have h2 := ih (fun b hb => h b (by simp [hb]))
  simp only [List.map_cons, List.sum_cons, List.length_cons]; omega
theorem plan_shares {ps : List ByteArray} (h : PlanOk ps) : ((lensOf ps).map shareN).sum ≤ 64 := by
 have e1 : (lensOf ps).map shareN = ps.map fun s => (List.range 64).countP fun n => s.data.toList.isPrefixOf (three n) := by
  rw [lensOf, List.map_map]
  apply List.map_congr_left
  intro s hs
  obtain ⟨k, hk⟩ := List.mem_iff_getElem?.1 hs
  have := hits_num (h.at k s hk)
  unfold hits at this
  simp only [Function.comp_apply, shareN]
  rw [this]
  congr 1
  obtain ⟨_, h2, _⟩ := numB_size (h.at k s hk)
  omega
 rw [e1, count_twice (fun (s : ByteArray) (n : Nat) => s.data.toList.isPrefixOf (three n)) ps (List.range 64)]
 refine Nat.le_trans (sum_le_len _ _ fun n _ => ?_) (by simp)
 apply count_le_one
 rw [List.pairwise_iff_getElem]
 intro i j hi hj hij hboth
 have a1 := h.apart (i := i) (j := j) (by omega) (List.getElem?_eq_getElem hi) (List.getElem?_eq_getElem hj)
 have a2 := h.apart (i := j) (j := i) (by omega) (List.getElem?_eq_getElem hj) (List.getElem?_eq_getElem hi)
 unfold preB at a1 a2
 rcases pre_both hboth.1 hboth.2 with e | e
 ·
  rw [e] at a1; cases a1
 ·
  rw [e] at a2; cases a2
theorem plan_share {ps : List ByteArray} (h : PlanOk ps) : 0 ≤ shareR (lensOf ps) ∧ shareR (lensOf ps) ≤ 64 := by
 have := plan_shares h
 rw [shareR, if_pos (lensOf_ok h), share_all]
 omega
/-! The plan with given lengths. -/
def belowS (zs : List Int) (l : Int) : Nat := (zs.map fun z => if z < l then shareN z else 0).sum
def sameS (zs : List Int) (l : Int) : Nat := (zs.map fun z => if z = l then shareN z else 0).sum
/-- The next number, where all shorter lengths and the first k of this length have been served. -/
def nextAt (zs : List Int) (l : Int) (k : Nat) : Nat := belowS zs l + sameS (zs.take k) l
theorem nextAt_step (zs : List Int) (l : Int) (k : Nat) (z : Int) (h : zs[k]? = some z) : nextAt zs l (k + 1) = nextAt zs l k + if z = l then shareN z else 0 := by
 simp [nextAt, sameS, List.take_add_one, h]; omega
theorem below_next (zs : List Int) (l : Int) : belowS zs (l + 1) = belowS zs l + sameS zs l := by
 induction zs with
 | nil => rfl
 | cons z zs ih =>
  simp only [belowS, sameS, List.map_cons, List.sum_cons] at ih ⊢
  rw [ih]
  by_cases h1 : z < l
  ·
   rw [if_pos (by omega), if_pos h1, if_neg (by omega)]; omega
  ·
   by_cases h2 : z = l
   ·
    rw [if_pos (by omega), if_neg h1, if_pos h2]; omega
   ·
    rw [if_neg (by omega), if_neg h1, if_neg h2]; omega
theorem nextAt_next (zs : List Int) (l : Int) : nextAt zs (l + 1) 0 = nextAt zs l zs.length := by
 simp [nextAt, below_next, sameS]
theorem nextAt_first {zs : List Int} (h : ∀ z ∈ zs, 1 ≤ z) : nextAt zs 1 0 = 0 := by
 have : belowS zs 1 = 0 := by
  induction zs with
  | nil => rfl
  | cons z zs ih =>
   have h1 := h z (by simp)
   have h2 := ih (fun y hy => h y (by simp [hy]))
   simp only [belowS, List.map_cons, List.sum_cons] at h2 ⊢
   rw [if_neg (by omega), h2]
 simp [nextAt, this, sameS]
theorem nextAt_last {zs : List Int} (h : ∀ z ∈ zs, z ≤ 3) : nextAt zs 4 0 = (zs.map shareN).sum := by
 have : belowS zs 4 = (zs.map shareN).sum := by
  induction zs with
  | nil => rfl
  | cons z zs ih =>
   have h1 := h z (by simp)
   have h2 := ih (fun y hy => h y (by simp [hy]))
   simp only [belowS, List.map_cons, List.sum_cons] at h2 ⊢
   rw [if_pos (by omega), h2]
 simp [nextAt, this, sameS]
theorem sum_take_le (f : Int → Nat) : ∀ (zs : List Int) (k j : Nat), k ≤ j → ((zs.take k).map f).sum ≤ ((zs.take j).map f).sum := by
 intro zs
 induction zs with
 | nil => intro k j h; simp
 | cons z zs ih =>
  intro k j h
  cases k with
  | zero => simp
  | succ k =>
   cases j with
   | zero => omega
   | succ j => have := ih k j (by omega); simp only [List.take_succ_cons, List.map_cons, List.sum_cons]; omega
theorem nextAt_mono (zs : List Int) (l : Int) {k j : Nat} (h : k ≤ j) : nextAt zs l k ≤ nextAt zs l j := by
 have := sum_take_le (fun z => if z = l then shareN z else 0) zs k j h
 simp only [nextAt, sameS]; omega
theorem below_mono (zs : List Int) {l m : Int} (h : l ≤ m) : belowS zs l ≤ belowS zs m := by
 induction zs with
 | nil => exact Nat.le_refl _
 | cons z zs ih =>
  simp only [belowS, List.map_cons, List.sum_cons] at ih ⊢
  by_cases h1 : z < l
  ·
   rw [if_pos h1, if_pos (by omega)]; omega
  ·
   rw [if_neg h1]; omega
theorem nextAt_lex (zs : List Int) {l m : Int} {k j : Nat} (hk : k ≤ zs.length) (h : l < m ∨ l = m ∧ k ≤ j) : nextAt zs l k ≤ nextAt zs m j := by
 rcases h with h | ⟨rfl, h⟩
 ·
  have h1 := nextAt_mono zs l hk
  have h2 := nextAt_next zs l
  have h3 := below_mono zs (show l + 1 ≤ m by omega)
  have h4 : nextAt zs (l + 1) 0 = belowS zs (l + 1) := by simp [nextAt, sameS]
  have h5 : belowS zs m ≤ nextAt zs m j := by simp only [nextAt]; omega
  omega
 ·
  exact nextAt_mono zs l h
theorem share_div {z l : Int} (h : z ≤ l) : shareN l ∣ shareN z := by
 unfold shareN
 exact Nat.pow_dvd_pow 4 (by omega)
theorem below_div (zs : List Int) (l : Int) : shareN l ∣ belowS zs l := by
 induction zs with
 | nil => exact Nat.dvd_zero _
 | cons z zs ih =>
  simp only [belowS, List.map_cons, List.sum_cons] at ih ⊢
  refine Nat.dvd_add ?_ ih
  split
  ·
   exact share_div (by omega)
  ·
   exact Nat.dvd_zero _
theorem same_div (zs : List Int) (l : Int) : shareN l ∣ sameS zs l := by
 induction zs with
 | nil => exact Nat.dvd_zero _
 | cons z zs ih =>
  simp only [sameS, List.map_cons, List.sum_cons] at ih ⊢
  refine Nat.dvd_add ?_ ih
  split
  ·
   rename_i h; rw [h]; exact Nat.dvd_refl _
  ·
   exact Nat.dvd_zero _
theorem nextAt_div (zs : List Int) (l : Int) (k : Nat) : shareN l ∣ nextAt zs l k := Nat.dvd_add (below_div zs l) (same_div _ l)

/-- The first digits of a number of three digits. -/
def num3 (x l : Nat) : ByteArray := ⟨((three x).take l).toArray⟩
theorem num3_size (x : Nat) {l : Nat} (h : l ≤ 3) : (num3 x l).size = l := by
 show ((three x).take l).toArray.size = l
 simp [three]; omega
theorem three_digs (x : Nat) : ∀ c ∈ three x, digB c = true := by
 have h : ∀ r, r < 4 → digB (UInt8.ofNat (48 + r)) = true := by
  intro r hr
  have : r = 0 ∨ r = 1 ∨ r = 2 ∨ r = 3 := by omega
  rcases this with rfl | rfl | rfl | rfl <;> decide
 intro c hc
 simp only [three, List.mem_cons, List.not_mem_nil, or_false] at hc
 rcases hc with rfl | rfl | rfl
 ·
  exact h _ (by omega)
 ·
  exact h _ (by omega)
 ·
  exact h _ (by omega)
theorem num3_digs (x l : Nat) : digsB (num3 x l) = true := by
 unfold digsB num3
 rw [List.all_eq_true]
 intro c hc
 exact three_digs x c (List.mem_of_mem_take (by simpa using hc))
theorem digit_inj {a b : Nat} (h : UInt8.ofNat (48 + a % 4) = UInt8.ofNat (48 + b % 4)) : a % 4 = b % 4 := by
 have := congrArg UInt8.toNat h
 simp only [UInt8.toNat_ofNat'] at this
 omega
theorem take_inj {x y l : Nat} (hx : x < 64) (hy : y < 64) (h1 : 1 ≤ l) (h3 : l ≤ 3) (h : (three x).take l = (three y).take l) : x / 4 ^ (3 - l) = y / 4 ^ (3 - l) := by
 have hl : l = 1 ∨ l = 2 ∨ l = 3 := by omega
 rcases hl with rfl | rfl | rfl
 ·
  simp only [three, List.take_succ_cons, List.take_zero, List.cons.injEq, and_true] at h
  have := digit_inj h
  show x / 16 = y / 16
  omega
 ·
  simp only [three, List.take_succ_cons, List.take_zero, List.cons.injEq, and_true] at h
  have a := digit_inj h.1
  have b := digit_inj h.2
  show x / 4 = y / 4
  omega
 ·
  simp only [three, List.take_succ_cons, List.take_zero, List.cons.injEq, and_true] at h
  have a := digit_inj h.1
  have b := digit_inj h.2.1
  have c := digit_inj h.2.2
  show x / 1 = y / 1
  omega

/-- Whether length z at place j has been served, where those of length l have been up to k. -/
def served (l : Int) (k : Nat) (p : Int × Nat) : Bool := decide (p.1 < l) || (decide (p.1 = l) && decide (p.2 < k))
def planTo (zs : List Int) (l : Int) (k : Nat) : List ByteArray := zs.zipIdx.map fun p => if served l k p = true then num3 (nextAt zs p.1 p.2) p.1.toNat else ByteArray.empty
def planFor (zs : List Int) : List ByteArray := zs.zipIdx.map fun p => num3 (nextAt zs p.1 p.2) p.1.toNat
theorem planTo_len (zs : List Int) (l : Int) (k : Nat) : (planTo zs l k).length = zs.length := by simp [planTo]
theorem planFor_len (zs : List Int) : (planFor zs).length = zs.length := by simp [planFor]
theorem planFor_at (zs : List Int) (k : Nat) (z : Int) (h : zs[k]? = some z) : (planFor zs)[k]? = some (num3 (nextAt zs z k) z.toNat) := by
 simp [planFor, h]
theorem planTo_at (zs : List Int) (l : Int) (m k : Nat) (z : Int) (h : zs[k]? = some z) : (planTo zs l m)[k]? = some (if served l m (z, k) = true then num3 (nextAt zs z k) z.toNat else ByteArray.empty) := by
 simp [planTo, h]
theorem planTo_first {zs : List Int} (h : ∀ z ∈ zs, 1 ≤ z) : planTo zs 1 0 = List.replicate zs.length ByteArray.empty := by
 apply List.ext_getElem?
 intro k
 by_cases hk : k < zs.length
 ·
  have h1 := h zs[k] (List.getElem_mem hk)
  rw [planTo_at zs 1 0 k zs[k] (List.getElem?_eq_getElem hk), List.getElem?_replicate, if_pos hk, if_neg]
  simp [served]; omega
 ·
  rw [List.getElem?_eq_none (by rw [planTo_len]; omega), List.getElem?_eq_none (by simp; omega)]
theorem planTo_next (zs : List Int) (l : Int) : planTo zs (l + 1) 0 = planTo zs l zs.length := by
 apply List.ext_getElem?
 intro k
 by_cases hk : k < zs.length
 ·
  rw [planTo_at zs _ _ k zs[k] (List.getElem?_eq_getElem hk), planTo_at zs _ _ k zs[k] (List.getElem?_eq_getElem hk)]
  have e : served (l + 1) 0 (zs[k], k) = served l zs.length (zs[k], k) := by
   rw [Bool.eq_iff_iff]; simp [served, hk]; omega
  rw [e]
 ·
  rw [List.getElem?_eq_none (by rw [planTo_len]; omega), List.getElem?_eq_none (by rw [planTo_len]; omega)]
theorem planTo_last {zs : List Int} (h : ∀ z ∈ zs, z ≤ 3) : planTo zs 4 0 = planFor zs := by
 apply List.ext_getElem?
 intro k
 by_cases hk : k < zs.length
 ·
  have h1 := h zs[k] (List.getElem_mem hk)
  rw [planTo_at zs _ _ k zs[k] (List.getElem?_eq_getElem hk), planFor_at zs k zs[k] (List.getElem?_eq_getElem hk), if_pos]
  simp [served]; omega
 ·
  rw [List.getElem?_eq_none (by rw [planTo_len]; omega), List.getElem?_eq_none (by rw [planFor_len]; omega)]
theorem planTo_step (zs : List Int) (l : Int) (k : Nat) (z : Int) (h : zs[k]? = some z) : planTo zs l (k + 1) = if z = l then (planTo zs l k).set k (num3 (nextAt zs l k) l.toNat) else planTo zs l k := by
 apply List.ext_getElem?
 intro j
 by_cases hj : j < zs.length
 ·
  have hzj := List.getElem?_eq_getElem hj
  rw [planTo_at zs _ _ j zs[j] hzj]
  by_cases hjk : j = k
  ·
   subst hjk
   rw [hzj] at h
   cases h
   split
   ·
    rename_i hs
    split
    ·
     rename_i e; rw [List.getElem?_set_self (by rw [planTo_len]; exact hj), e]
    ·
     rename_i e
     rw [planTo_at zs _ _ j zs[j] hzj, if_pos]
     simp [served, e] at hs ⊢; exact hs
   ·
    rename_i hs
    split
    ·
     rename_i e; simp [served, e] at hs
    ·
     rename_i e
     rw [planTo_at zs _ _ j zs[j] hzj, if_neg]
     simp [served, e] at hs ⊢; exact hs
  ·
   have e : served l (k + 1) (zs[j], j) = served l k (zs[j], j) := by
    rw [Bool.eq_iff_iff]; simp [served]; omega
   rw [e]
   split
   ·
    split
    ·
     rw [List.getElem?_set_ne (by omega), planTo_at zs _ _ j zs[j] hzj, if_pos (by assumption)]
    ·
     rw [planTo_at zs _ _ j zs[j] hzj, if_pos (by assumption)]
   ·
    split
    ·
     rw [List.getElem?_set_ne (by omega), planTo_at zs _ _ j zs[j] hzj, if_neg (by assumption)]
    ·
     rw [planTo_at zs _ _ j zs[j] hzj, if_neg (by assumption)]
 ·
  rw [List.getElem?_eq_none (by rw [planTo_len]; omega)]
  split
  ·
   rw [List.getElem?_eq_none (by rw [List.length_set, planTo_len]; omega)]
  ·
   rw [List.getElem?_eq_none (by rw [planTo_len]; omega)]

/-- Where a length has its number, below 64. -/
theorem nextAt_room {zs : List Int} (hz : ∀ z ∈ zs, 1 ≤ z ∧ z ≤ 3) (hs : (zs.map shareN).sum ≤ 64) {k : Nat} {z : Int} (h : zs[k]? = some z) : nextAt zs z k + shareN z ≤ 64 := by
 have hk := lt_of_some h
 have h1 := nextAt_step zs z k z h
 rw [if_pos rfl] at h1
 have h2 := (hz z (List.mem_of_getElem? h)).2
 have h3 := nextAt_lex zs (l := z) (m := 4) (k := k + 1) (j := 0) (by omega) (.inl (by omega))
 rw [nextAt_last (fun y hy => (hz y hy).2)] at h3
 omega
theorem planFor_lens {zs : List Int} (hz : ∀ z ∈ zs, 1 ≤ z ∧ z ≤ 3) : lensOf (planFor zs) = zs := by
 apply List.ext_getElem?
 intro k
 by_cases hk : k < zs.length
 ·
  have hzk := List.getElem?_eq_getElem hk
  have h1 := hz zs[k] (List.getElem_mem hk)
  rw [lensOf, List.getElem?_map, planFor_at zs k zs[k] hzk, hzk]
  simp only [Option.map_some, num3_size _ (show zs[k].toNat ≤ 3 by omega)]
  congr 1; omega
 ·
  rw [List.getElem?_eq_none (by simp [lensOf, planFor_len]; omega), List.getElem?_eq_none (by omega)]
theorem lensB_mem {zs : List Int} (h : lensB zs = true) : ∀ z ∈ zs, 1 ≤ z ∧ z ≤ 3 := by
 intro z hz
 obtain ⟨k, hk⟩ := List.mem_iff_getElem?.1 hz
 exact lensB_at h k z hk
theorem planFor_ok {zs : List Int} (h : lensB zs = true) (hs : (zs.map shareN).sum ≤ 64) : PlanOk (planFor zs) := by
 have hz := lensB_mem h
 have key : ∀ (i j : Nat) (s t : ByteArray), i ≠ j → (planFor zs)[i]? = some s → (planFor zs)[j]? = some t → preB t s = false := by
  intro i j s t hij hsi htj
  have hi := lt_of_some hsi
  have hj := lt_of_some htj
  rw [planFor_len] at hi hj
  have hzi := List.getElem?_eq_getElem hi
  have hzj := List.getElem?_eq_getElem hj
  rw [planFor_at zs i _ hzi] at hsi
  rw [planFor_at zs j _ hzj] at htj
  cases hsi
  cases htj
  have bi := hz zs[i] (List.getElem_mem hi)
  have bj := hz zs[j] (List.getElem_mem hj)
  have ri := nextAt_room hz hs hzi
  have rj := nextAt_room hz hs hzj
  have si := nextAt_step zs zs[i] i zs[i] hzi
  have sj := nextAt_step zs zs[j] j zs[j] hzj
  rw [if_pos rfl] at si sj
  have di := nextAt_div zs zs[i] i
  have pi : 1 ≤ shareN zs[i] := Nat.pow_pos (by omega)
  have pj : 1 ≤ shareN zs[j] := Nat.pow_pos (by omega)
  rw [Bool.eq_false_iff]
  intro hp
  unfold preB at hp
  rw [List.isPrefixOf_iff_prefix, List.prefix_iff_eq_take] at hp
  have hsz : (num3 (nextAt zs zs[i] i) zs[i].toNat).data.toList.length = zs[i].toNat := by simp [num3, three]; omega
  rw [hsz] at hp
  have hle : zs[i].toNat ≤ zs[j].toNat := by
   have := congrArg List.length hp
   rw [hsz, List.length_take] at this
   have : (num3 (nextAt zs zs[j] j) zs[j].toNat).data.toList.length = zs[j].toNat := by simp [num3, three]; omega
   omega
  have heq : (three (nextAt zs zs[i] i)).take zs[i].toNat = (three (nextAt zs zs[j] j)).take zs[i].toNat := by
   have : (num3 (nextAt zs zs[j] j) zs[j].toNat).data.toList.take zs[i].toNat = (three (nextAt zs zs[j] j)).take zs[i].toNat := by
    simp only [num3, List.take_take]
    rw [Nat.min_eq_left hle]
   rw [← this, ← hp]; simp [num3]
  have hdiv := take_inj (by omega) (by omega) (by omega) (by omega) heq
  have hsh : 4 ^ (3 - zs[i].toNat) = shareN zs[i] := by
   unfold shareN; congr 1; omega
  rw [hsh] at hdiv
  obtain ⟨q, hq⟩ := di
  have hd2 : nextAt zs zs[i] i / shareN zs[i] = q := by rw [hq, Nat.mul_div_cancel_left _ (by omega)]
  rw [hd2] at hdiv
  have hlow : nextAt zs zs[i] i ≤ nextAt zs zs[j] j := by
   rw [hq, hdiv]; exact Nat.mul_div_le _ _
  have hup : nextAt zs zs[j] j < nextAt zs zs[i] i + shareN zs[i] := by
   rw [hq, hdiv]
   have := Nat.lt_mul_div_succ (nextAt zs zs[j] j) (show 0 < shareN zs[i] by omega)
   rw [Nat.mul_add, Nat.mul_one] at this
   exact this
  by_cases hlex : zs[i] < zs[j] ∨ zs[i] = zs[j] ∧ i + 1 ≤ j
  ·
   have := nextAt_lex zs (k := i + 1) (j := j) (by omega) hlex
   omega
  ·
   have := nextAt_lex zs (l := zs[j]) (m := zs[i]) (k := j + 1) (j := i) (by omega) (by omega)
   omega
 refine ⟨by rw [planFor_len]; exact lensB_len h, fun j s hj hs' => ?_, fun i j s t hij hj hs' ht => ⟨key i j s t (by omega) hs' ht, key j i t s (by omega) ht hs'⟩⟩
 rw [planFor_len] at hj
 have hzj := List.getElem?_eq_getElem hj
 rw [planFor_at zs j _ hzj] at hs'
 cases hs'
 have bj := hz zs[j] (List.getElem_mem hj)
 simp only [numB, num3_digs, num3_size _ (show zs[j].toNat ≤ 3 by omega), Bool.and_true, Bool.and_eq_true, decide_eq_true_eq]
 omega
/-! Numbers dialled one behind the other. -/
/-- The first number of the plan with which a text begins. -/
def dialK (ps : List ByteArray) (t : List UInt8) : Option Nat := ps.findIdx? fun p => p.data.toList.isPrefixOf t
theorem dialK_some {ps : List ByteArray} {t : List UInt8} {k : Nat} (h : dialK ps t = some k) : ∃ p, ps[k]? = some p ∧ p.data.toList.isPrefixOf t = true := by
 unfold dialK at h
 rw [List.findIdx?_eq_some_iff_getElem] at h
 obtain ⟨h1, h2, _⟩ := h
 exact ⟨ps[k], List.getElem?_eq_getElem h1, h2⟩
theorem dialK_none {ps : List ByteArray} {t : List UInt8} (h : dialK ps t = none) : ∀ p ∈ ps, p.data.toList.isPrefixOf t = false := by
 unfold dialK at h
 rw [List.findIdx?_eq_none_iff] at h
 exact h
theorem pre_size {p : ByteArray} {t : List UInt8} (h : p.data.toList.isPrefixOf t = true) : p.size ≤ t.length := by
 rw [List.isPrefixOf_iff_prefix] at h
 have := h.length_le
 simpa using this
/-- In a valid plan there is one alone. -/
theorem dialK_uniq {ps : List ByteArray} (h : PlanOk ps) {t : List UInt8} {k j : Nat} {p q : ByteArray} (hp : ps[k]? = some p) (hq : ps[j]? = some q) (h1 : p.data.toList.isPrefixOf t = true) (h2 : q.data.toList.isPrefixOf t = true) : k = j := by
 refine Classical.byContradiction fun hne => ?_
 have a1 := h.apart hne hp hq
 have a2 := h.apart (Ne.symm hne) hq hp
 unfold preB at a1 a2
 rcases pre_both h1 h2 with e | e
 ·
  rw [e] at a1; cases a1
 ·
  rw [e] at a2; cases a2
theorem dialK_of {ps : List ByteArray} (h : PlanOk ps) {t : List UInt8} {k : Nat} {p : ByteArray} (hp : ps[k]? = some p) (h1 : p.data.toList.isPrefixOf t = true) : dialK ps t = some k := by
 cases hd : dialK ps t with
 | none => have := dialK_none hd p (List.mem_of_getElem? hp); rw [h1] at this; cases this
 | some j =>
  obtain ⟨q, hq, h2⟩ := dialK_some hd
  rw [dialK_uniq h hp hq h1 h2]

def sizeAt (ps : List ByteArray) (k : Nat) : Nat := ((ps[k]?).map ByteArray.size).getD 0
theorem sizeAt_of {ps : List ByteArray} {k : Nat} {p : ByteArray} (h : ps[k]? = some p) : sizeAt ps k = p.size := by simp [sizeAt, h]
def dialF (ps : List ByteArray) : Nat → List UInt8 → Option (List Int)
 | 0, t => if t = [] then some [] else none
 | n + 1, t => if t = [] then some [] else match dialK ps t with
  | none => none
  | some k => (dialF ps n (t.drop (sizeAt ps k))).map ((k : Int) :: ·)
theorem dialF_fuel {ps : List ByteArray} (h : PlanOk ps) : ∀ (n m : Nat) (t : List UInt8), t.length ≤ n → t.length ≤ m → dialF ps n t = dialF ps m t := by
 intro n
 induction n with
 | zero =>
  intro m t h1 h2
  have : t = [] := List.length_eq_zero_iff.1 (by omega)
  subst this
  cases m <;> simp [dialF]
 | succ n ih =>
  intro m t h1 h2
  by_cases ht : t = []
  ·
   subst ht; cases m <;> simp [dialF]
  ·
   cases m with
   | zero => exact absurd (List.length_eq_zero_iff.1 (by omega)) ht
   | succ m =>
    simp only [dialF, ht, if_false]
    cases hd : dialK ps t with
    | none => rfl
    | some k =>
     obtain ⟨p, hp, hpre⟩ := dialK_some hd
     have := (numB_size (h.at k p hp)).1
     simp only
     rw [sizeAt_of hp, ih m (t.drop p.size) (by rw [List.length_drop]; omega) (by rw [List.length_drop]; omega)]
/-- The numbers that are, one behind the other, a text. -/
def dialL (ps : List ByteArray) (t : List UInt8) : Option (List Int) := dialF ps t.length t
theorem dialL_nil (ps : List ByteArray) : dialL ps [] = some [] := rfl
theorem dialL_no {ps : List ByteArray} {t : List UInt8} (ht : t ≠ []) (h : dialK ps t = none) : dialL ps t = none := by
 cases t with
 | nil => exact absurd rfl ht
 | cons c t => simp [dialL, dialF, h]
theorem dialL_step {ps : List ByteArray} (h : PlanOk ps) {t : List UInt8} (ht : t ≠ []) {k : Nat} {p : ByteArray} (hk : dialK ps t = some k) (hp : ps[k]? = some p) : dialL ps t = (dialL ps (t.drop p.size)).map ((k : Int) :: ·) := by
 have hs := (numB_size (h.at k p hp)).1
 cases t with
 | nil => exact absurd rfl ht
 | cons c t =>
  simp only [dialL, List.length_cons, dialF, hk, sizeAt_of hp]
  rw [if_neg (by simp)]
  rw [dialF_fuel h t.length ((c :: t).drop p.size).length _ (by simp; omega) (Nat.le_refl _)]
theorem dialL_app {ps : List ByteArray} (h : PlanOk ps) {t : List UInt8} {k : Nat} {p : ByteArray} (hp : ps[k]? = some p) : dialL ps (p.data.toList ++ t) = (dialL ps t).map ((k : Int) :: ·) := by
 have hs := (numB_size (h.at k p hp)).1
 have hl : p.data.toList.length = p.size := by simp
 have hk := dialK_of h (t := p.data.toList ++ t) hp (by rw [List.isPrefixOf_iff_prefix]; exact List.prefix_append _ _)
 have hne : p.data.toList ++ t ≠ [] := fun e => by
  have := congrArg List.length e
  rw [List.length_append, hl, List.length_nil] at this
  omega
 rw [dialL_step h hne hk hp, ← hl, List.drop_left]
/-- All numbers from the last one on. -/
def backTo (ps : List ByteArray) (k : Nat) : List UInt8 := ((ps.drop k).reverse.map fun p => p.data.toList).flatten
theorem backTo_step (ps : List ByteArray) (k : Nat) (p : ByteArray) (h : ps[k]? = some p) : backTo ps k = backTo ps (k + 1) ++ p.data.toList := by
 have hk := lt_of_some h
 have : ps.drop k = p :: ps.drop (k + 1) := by
  rw [List.drop_eq_getElem_cons hk]; congr 1; rw [List.getElem?_eq_getElem hk] at h; exact Option.some.inj h
 simp [backTo, this]
def downTo (n : Nat) : List Int := (List.range n).reverse.map fun (k : Nat) => (k : Int)
theorem downTo_succ (n : Nat) : downTo (n + 1) = (n : Int) :: downTo n := by simp [downTo, List.range_succ]
theorem downTo_len (n : Nat) : (downTo n).length = n := by simp [downTo]
theorem downTo_at (n k : Nat) (h : k < n) : (downTo n)[k]? = some ((n : Int) - 1 - k) := by
 unfold downTo
 rw [List.getElem?_map, List.getElem?_reverse (by simpa using h), List.length_range, List.getElem?_range (by omega)]
 simp; omega
theorem dialL_back {ps : List ByteArray} (h : PlanOk ps) : ∀ m, m ≤ ps.length → dialL ps ((ps.take m).reverse.map fun p => p.data.toList).flatten = some (downTo m) := by
 intro m
 induction m with
 | zero => intro _; simp [dialL_nil, downTo]
 | succ m ih =>
  intro hm
  obtain ⟨p, hp⟩ : ∃ p, ps[m]? = some p := ⟨_, List.getElem?_eq_getElem (by omega)⟩
  rw [List.take_add_one, hp]
  simp only [Option.toList_some, List.reverse_append, List.reverse_cons, List.reverse_nil, List.nil_append, List.singleton_append, List.map_cons, List.flatten_cons]
  rw [dialL_app h hp, ih (by omega), downTo_succ]; rfl
theorem dialL_backTo {ps : List ByteArray} (h : PlanOk ps) : dialL ps (backTo ps 0) = some (downTo ps.length) := by
 have := dialL_back h ps.length (Nat.le_refl _)
 rw [List.take_length] at this
 exact this
/-- The numbers of a list one behind the other. -/
def textOf (ps : List ByteArray) (ks : List Int) : List UInt8 := (ks.map fun k => ((ps[k.toNat]?).map fun p => p.data.toList).getD []).flatten
theorem dialF_text {ps : List ByteArray} : ∀ (n : Nat) (t : List UInt8) (ks : List Int), dialF ps n t = some ks → textOf ps ks = t ∧ ∀ k ∈ ks, 0 ≤ k ∧ k < ps.length := by
 intro n
 induction n with
 | zero =>
  intro t ks h
  simp only [dialF] at h
  split at h
  ·
   rename_i e; cases h; exact ⟨by simp [textOf, e], by simp⟩
  ·
   cases h
 | succ n ih =>
  intro t ks h
  simp only [dialF] at h
  split at h
  ·
   rename_i e; cases h; exact ⟨by simp [textOf, e], by simp⟩
  ·
   cases hd : dialK ps t with
   | none => rw [hd] at h; cases h
   | some k =>
    rw [hd] at h
    simp only [Option.map_eq_some_iff] at h
    obtain ⟨r, h1, rfl⟩ := h
    obtain ⟨p, hp, hpre⟩ := dialK_some hd
    obtain ⟨i1, i2⟩ := ih _ _ h1
    rw [List.isPrefixOf_iff_prefix, List.prefix_iff_eq_append] at hpre
    refine ⟨?_, fun j hj => ?_⟩
    ·
     simp only [textOf, List.map_cons, List.flatten_cons, Int.toNat_natCast, hp, Option.map_some, Option.getD_some] at i1 ⊢
     rw [i1, sizeAt_of hp]
     simpa using hpre
    ·
     rcases List.mem_cons.1 hj with rfl | hj
     ·
      have := lt_of_some hp; omega
     ·
      exact i2 j hj

end Go.Proofs.Ytedadhoneebfnaa

/- Exchanges, plain: when they are valid, who is connected with whom, deeds. No program in sight. -/
namespace Go.Proofs.Ytedadhoneebfnaa

/-- No line is the input of a call and the output of a call. -/
def PartOk (cs : List Cl) : Prop := ∀ c ∈ cs, ∀ d ∈ cs, c.1 ≠ d.2.1
structure ExOk (O E M : Int) (ps : List ByteArray) (cs : List Cl) : Prop where
 calls : CallsOk O E M cs
 en : E ≤ M
 plan : PlanOk ps
 len : (ps.length : Int) = O * E
 part : PartOk cs
open Classical in
noncomputable def exB (O E M : Int) (ps : List ByteArray) (cs : List Cl) : Bool := decide (ExOk O E M ps cs)
theorem exB_iff (O E M : Int) (ps : List ByteArray) (cs : List Cl) : exB O E M ps cs = true ↔ ExOk O E M ps cs := by simp [exB]
theorem exB_no {O E M : Int} {ps : List ByteArray} {cs : List Cl} (h : ¬ ExOk O E M ps cs) : exB O E M ps cs = false := by
 rw [Bool.eq_false_iff]; exact fun e => h ((exB_iff _ _ _ _ _).1 e)
theorem ExOk.lines {O E M : Int} {ps : List ByteArray} {cs : List Cl} (h : ExOk O E M ps cs) : 1 ≤ ps.length ∧ ps.length ≤ 10 := by
 have ho := h.calls.sh.o
 have he := h.calls.sh.e
 have h1 : 1 * 1 ≤ O * E := Int.le_trans (Int.mul_le_mul_of_nonneg_right ho.1 (by omega)) (Int.mul_le_mul_of_nonneg_left he.1 (by omega))
 have h2 := h.len
 exact ⟨by omega, h.plan.1⟩
/-- There are as many calls as lines at most. -/
theorem nodupI_len : ∀ {n : Nat} {xs : List Int}, xs.Nodup → (∀ x ∈ xs, 0 ≤ x ∧ x < n) → xs.length ≤ n := by
 intro n xs h hl
 have h1 : (xs.map Int.toNat).Nodup := by
  rw [List.nodup_iff_pairwise_ne, List.pairwise_map]
  refine List.Pairwise.imp_of_mem ?_ (List.nodup_iff_pairwise_ne.1 h)
  intro a b ha hb hab e
  have := hl a ha; have := hl b hb; omega
 have := nodup_len (n := n) h1 (fun k hk => by
  obtain ⟨x, hx, rfl⟩ := List.mem_map.1 hk
  have := hl x hx; omega)
 simpa using this
theorem CallsOk.ins {O E M : Int} {cs : List Cl} (h : CallsOk O E M cs) : (cs.map (·.1)).Nodup ∧ (cs.map (·.2.1)).Nodup := by
 have hp : cs.Pairwise fun d c => d.1 ≠ c.1 ∧ d.2.1 ≠ c.2.1 := by
  rw [List.pairwise_iff_getElem]
  intro i j hi hj hij
  have := h.apart i j cs[i] cs[j] hij (List.getElem?_eq_getElem hi) (List.getElem?_eq_getElem hj)
  exact ⟨this.1, this.2.1⟩
 constructor
 ·
  rw [List.nodup_iff_pairwise_ne, List.pairwise_map]; exact hp.imp fun h => h.1
 ·
  rw [List.nodup_iff_pairwise_ne, List.pairwise_map]; exact hp.imp fun h => h.2
theorem CallsOk.mem {O E M : Int} {cs : List Cl} (h : CallsOk O E M cs) {c : Cl} (hc : c ∈ cs) : (0 ≤ c.1 ∧ c.1 < O * E) ∧ (0 ≤ c.2.1 ∧ c.2.1 < O * E) ∧ 0 ≤ c.2.2 ∧ c.2.2 < M := by
 obtain ⟨k, hk⟩ := List.mem_iff_getElem?.1 hc
 exact h.at' k c hk
theorem CallsOk.count {O E M : Int} {cs : List Cl} (h : CallsOk O E M cs) (hOE : O * E ≤ 12) : cs.length ≤ 12 := by
 have h1 := nodupI_len (n := 12) h.ins.1 (fun x hx => by
  obtain ⟨c, hc, rfl⟩ := List.mem_map.1 hx
  have := h.mem hc; omega)
 simpa using h1
theorem CallsOk.one {O E M : Int} {cs : List Cl} (h : CallsOk O E M cs) {c d : Cl} (hc : c ∈ cs) (hd : d ∈ cs) (e : c.1 = d.1 ∨ c.2.1 = d.2.1) : c = d := by
 obtain ⟨j, hj⟩ := List.mem_iff_getElem?.1 hc
 obtain ⟨k, hk⟩ := List.mem_iff_getElem?.1 hd
 rcases Nat.lt_trichotomy j k with h1 | h1 | h1
 ·
  have := h.apart j k c d h1 hj hk
  rcases e with e | e
  ·
   exact absurd e this.1
  ·
   exact absurd e this.2.1
 ·
  subst h1; rw [hj] at hk; exact Option.some.inj hk
 ·
  have := h.apart k j d c h1 hk hj
  rcases e with e | e
  ·
   exact absurd e.symm this.1
  ·
   exact absurd e.symm this.2.1

/-! Which lines are engaged by the first k calls. -/
def engB (cs : List Cl) (k : Nat) (x : Int) : Bool := (cs.take k).any fun c => decide (c.1 = x) || decide (c.2.1 = x)
theorem engB_zero (cs : List Cl) (x : Int) : engB cs 0 x = false := by simp [engB]
theorem engB_succ {cs : List Cl} {k : Nat} {c : Cl} (hc : cs[k]? = some c) (x : Int) : engB cs (k + 1) x = (engB cs k x || (decide (c.1 = x) || decide (c.2.1 = x))) := by
 obtain ⟨hk, rfl⟩ := List.getElem?_eq_some_iff.1 hc
 unfold engB
 rw [List.take_succ_eq_append_getElem hk, List.any_append]; simp
theorem engB_mem {cs : List Cl} {k : Nat} {x : Int} : engB cs k x = true ↔ ∃ j c, j < k ∧ cs[j]? = some c ∧ (c.1 = x ∨ c.2.1 = x) := by
 simp only [engB, List.any_eq_true, Bool.or_eq_true, decide_eq_true_eq]
 constructor
 ·
  rintro ⟨c, hc, h⟩
  obtain ⟨j, hj⟩ := List.mem_iff_getElem?.1 hc
  have hl := (List.getElem?_eq_some_iff.1 hj).1
  rw [List.length_take] at hl
  rw [List.getElem?_take_of_lt (by omega)] at hj
  exact ⟨j, c, by omega, hj, h⟩
 ·
  rintro ⟨j, c, hjk, hj, h⟩
  exact ⟨c, List.mem_of_getElem? (by rw [List.getElem?_take_of_lt hjk]; exact hj), h⟩
/-- The first k calls are apart. -/
def PartTo (cs : List Cl) (k : Nat) : Prop := ∀ i j c d, i < k → j < k → cs[i]? = some c → cs[j]? = some d → c.1 ≠ d.2.1
theorem PartTo.zero (cs : List Cl) : PartTo cs 0 := fun i j c d h => absurd h (by omega)
theorem PartTo.all {cs : List Cl} (h : PartTo cs cs.length) : PartOk cs := by
 intro c hc d hd
 obtain ⟨i, hi⟩ := List.mem_iff_getElem?.1 hc
 obtain ⟨j, hj⟩ := List.mem_iff_getElem?.1 hd
 exact h i j c d (List.getElem?_eq_some_iff.1 hi).1 (List.getElem?_eq_some_iff.1 hj).1 hi hj
theorem PartTo.step {cs : List Cl} {k : Nat} {c : Cl} (h : PartTo cs k) (hc : cs[k]? = some c) (h1 : c.1 ≠ c.2.1) (h2 : engB cs k c.1 = false) (h3 : engB cs k c.2.1 = false) : PartTo cs (k + 1) := by
 intro i j x y hi hj hx hy e
 have n2 : ∀ i x, i < k → cs[i]? = some x → x.2.1 ≠ c.1 := fun i x hi hx e => by
  have := engB_mem.2 ⟨i, x, hi, hx, .inr e⟩; rw [h2] at this; cases this
 have n3 : ∀ i x, i < k → cs[i]? = some x → x.1 ≠ c.2.1 := fun i x hi hx e => by
  have := engB_mem.2 ⟨i, x, hi, hx, .inl e⟩; rw [h3] at this; cases this
 by_cases hik : i = k
 ·
  subst hik
  rw [hc] at hx; cases hx
  by_cases hjk : j = i
  ·
   subst hjk; rw [hc] at hy; cases hy; exact h1 e
  ·
   exact n2 j y (by omega) hy e.symm
 ·
  by_cases hjk : j = k
  ·
   subst hjk; rw [hc] at hy; cases hy; exact n3 i x (by omega) hx e
  ·
   exact h i j x y (by omega) (by omega) hx hy e
theorem part_no {O E M : Int} {ps : List ByteArray} {cs : List Cl} {c d : Cl} (hc : c ∈ cs) (hd : d ∈ cs) (e : c.1 = d.2.1) : exB O E M ps cs = false :=
 exB_no fun h => h.part c hc d hd e
theorem eng_no {O E M : Int} {ps : List ByteArray} {cs : List Cl} {k : Nat} {c : Cl} (hok : CallsOk O E M cs) (hc : cs[k]? = some c) (h : engB cs k c.1 = true ∨ engB cs k c.2.1 = true) : exB O E M ps cs = false := by
 rcases h with h | h
 ·
  obtain ⟨j, d, hj, hd, e⟩ := engB_mem.1 h
  rcases e with e | e
  ·
   exact absurd e (hok.apart j k d c hj hd hc).1
  ·
   exact part_no (List.mem_of_getElem? hc) (List.mem_of_getElem? hd) e.symm
 ·
  obtain ⟨j, d, hj, hd, e⟩ := engB_mem.1 h
  rcases e with e | e
  ·
   exact part_no (List.mem_of_getElem? hd) (List.mem_of_getElem? hc) e
  ·
   exact absurd e (hok.apart j k d c hj hd hc).2.1
/-- The reference: for the first k calls, with the first j ones. -/
def SprTo (cs : List Cl) (k : Nat) : Prop := ∀ (i j : Nat) (c d : Cl), i < k → cs[i]? = some c → cs[j]? = some d → c.1 ≠ d.2.1
theorem SprTo.all {cs : List Cl} (h : SprTo cs cs.length) : PartOk cs := by
 intro c hc d hd
 obtain ⟨i, hi⟩ := List.mem_iff_getElem?.1 hc
 obtain ⟨j, hj⟩ := List.mem_iff_getElem?.1 hd
 exact h i j c d (List.getElem?_eq_some_iff.1 hi).1 hi hj

/-! Who is connected with whom. -/
def hasE (x : Int) (c : Cl) : Bool := decide (c.1 = x) || decide (c.2.1 = x)
def peerL (cs : List Cl) (x : Int) : Int := match cs.find? (hasE x) with
 | some c => c.1 + c.2.1 - x
 | none => -1
def noneTo (cs : List Cl) (x : Int) (k : Nat) : Prop := ∀ j c, j < k → cs[j]? = some c → hasE x c = false
theorem find_at {cs : List Cl} {x : Int} {k : Nat} {c : Cl} (h : noneTo cs x k) (hc : cs[k]? = some c) (h1 : hasE x c = true) : cs.find? (hasE x) = some c := by
 rw [List.find?_eq_some_iff_getElem]
 obtain ⟨hk, rfl⟩ := List.getElem?_eq_some_iff.1 hc
 refine ⟨h1, k, hk, rfl, fun j hj => ?_⟩
 have := h j cs[j] hj (List.getElem?_eq_getElem (by omega))
 simp [this]
theorem find_none {cs : List Cl} {x : Int} (h : noneTo cs x cs.length) : cs.find? (hasE x) = none := by
 rw [List.find?_eq_none]
 intro c hc
 obtain ⟨j, hj⟩ := List.mem_iff_getElem?.1 hc
 rw [h j c (List.getElem?_eq_some_iff.1 hj).1 hj]; simp
theorem noneTo.succ {cs : List Cl} {x : Int} {k : Nat} {c : Cl} (h : noneTo cs x k) (hc : cs[k]? = some c) (h1 : hasE x c = false) : noneTo cs x (k + 1) := by
 intro j d hj hd
 by_cases e : j = k
 ·
  subst e; rw [hc] at hd; cases hd; exact h1
 ·
  exact h j d (by omega) hd
theorem peer_some {cs : List Cl} {x : Int} {c : Cl} (h : cs.find? (hasE x) = some c) : peerL cs x = c.1 + c.2.1 - x := by simp [peerL, h]
theorem peer_none {cs : List Cl} {x : Int} (h : cs.find? (hasE x) = none) : peerL cs x = -1 := by simp [peerL, h]
theorem peer_neg {O E M : Int} {cs : List Cl} (hok : CallsOk O E M cs) (x : Int) : peerL cs x = -1 ∧ cs.find? (hasE x) = none ∨ ∃ c, cs.find? (hasE x) = some c ∧ c ∈ cs ∧ (c.1 = x ∧ peerL cs x = c.2.1 ∨ c.2.1 = x ∧ peerL cs x = c.1) ∧ 0 ≤ peerL cs x ∧ peerL cs x < O * E := by
 cases h : cs.find? (hasE x) with
 | none => exact .inl ⟨peer_none h, rfl⟩
 | some c =>
  have hm := List.mem_of_find?_eq_some h
  have h1 := List.find?_some h
  have h2 := hok.mem hm
  have h3 := peer_some h
  simp only [hasE, Bool.or_eq_true, decide_eq_true_eq] at h1
  refine .inr ⟨c, rfl, hm, ?_, ?_, ?_⟩
  ·
   rcases h1 with h1 | h1
   ·
    exact .inl ⟨h1, by omega⟩
   ·
    exact .inr ⟨h1, by omega⟩
  ·
   omega
  ·
   omega
/-- The place of a number in a plan. -/
def lineL (ps : List ByteArray) (s : ByteArray) : Int := match ps.findIdx? fun p => decide (p = s) with
 | some k => (k : Int)
 | none => -1
def neTo (ps : List ByteArray) (s : ByteArray) (k : Nat) : Prop := ∀ j p, j < k → ps[j]? = some p → p ≠ s
theorem line_at {ps : List ByteArray} {s : ByteArray} {k : Nat} (h : neTo ps s k) (hk : ps[k]? = some s) : lineL ps s = k := by
 have : (ps.findIdx? fun p => decide (p = s)) = some k := by
  rw [List.findIdx?_eq_some_iff_getElem]
  obtain ⟨hl, e⟩ := List.getElem?_eq_some_iff.1 hk
  refine ⟨hl, by simp [e], fun j hj => ?_⟩
  have := h j ps[j] hj (List.getElem?_eq_getElem (by omega))
  simpa using this
 simp [lineL, this]
theorem line_none {ps : List ByteArray} {s : ByteArray} (h : neTo ps s ps.length) : lineL ps s = -1 := by
 have : (ps.findIdx? fun p => decide (p = s)) = none := by
  rw [List.findIdx?_eq_none_iff]
  intro p hp
  obtain ⟨j, hj⟩ := List.mem_iff_getElem?.1 hp
  have := h j p (List.getElem?_eq_some_iff.1 hj).1 hj
  simpa using this
 simp [lineL, this]
theorem line_is {ps : List ByteArray} {s : ByteArray} : lineL ps s = -1 ∧ neTo ps s ps.length ∨ ∃ k : Nat, lineL ps s = k ∧ ps[k]? = some s ∧ neTo ps s k := by
 cases h : (ps.findIdx? fun p => decide (p = s)) with
 | none =>
  refine .inl ⟨by simp [lineL, h], fun j p _ hp e => ?_⟩
  rw [List.findIdx?_eq_none_iff] at h
  have := h p (List.mem_of_getElem? hp)
  simp [e] at this
 | some k =>
  refine .inr ⟨k, by simp [lineL, h], ?_⟩
  rw [List.findIdx?_eq_some_iff_getElem] at h
  obtain ⟨hl, e, hj⟩ := h
  simp at e
  refine ⟨by rw [List.getElem?_eq_getElem hl, e], fun j p hjk hp e2 => ?_⟩
  obtain ⟨hl2, rfl⟩ := List.getElem?_eq_some_iff.1 hp
  have := hj j hjk
  simp [e2] at this

end Go.Proofs.Ytedadhoneebfnaa

/- Contracts on shapes (program and reference): ShapeValid, Enough, hasLine, l4Lines. -/
namespace Go.Proofs.Ytedadhoneebfnaa
open Go.RowKit

/-- A shape as a value. -/
def shv (O E M : Int) : Value := .agg #[.int .i64 O, .int .i64 E, .int .i64 M]
def enoughB (O E M : Int) : Bool := shapeB O E M && decide (E ≤ M)

set_option maxHeartbeats 1000000 in
theorem iShapeValid_any (O E M : Int) (w : World) :
  Calls Try.prog 104 #[.agg #[.int .i64 O, .int .i64 E, .int .i64 M]] w fun e w' => e = .returned (.bool (shapeB O E M)) ∧ Below w.heap.size w w' := by
 go_enter Try.func104, Try.ntmps104
 go_wp2
 all_goals (go_ret; refine ⟨?_, by (exact grownA)⟩; congr 2; (simp [shapeB, *] <;> (intros; omega)))

set_option maxHeartbeats 1000000 in
theorem sShapeValid_any (O E M : Int) (w : World) :
  Calls Try.prog 100 #[.agg #[.int .i64 O, .int .i64 E, .int .i64 M]] w fun e w' => e = .returned (.bool (shapeB O E M)) ∧ Below w.heap.size w w' := by
 have HS : Hid ((((decide (1 ≤ O) && decide (O ≤ 4)) && (decide (1 ≤ E) && decide (E ≤ 3))) && (decide (1 ≤ M) && decide (M ≤ 5))) = shapeB O E M) := rfl
 go_enter Try.func100, Try.ntmps100
 go_wp2_with fail
 refine (sIn_any _ _ _ _).mono ?_
 rintro e w1 ⟨rfl, rfl⟩
 obtain ⟨d1, hd1⟩ : ∃ d, (decide (1 ≤ O) && decide (O ≤ 4)) = d := ⟨_, rfl⟩
 have HS1 : Hid (((d1 && (decide (1 ≤ E) && decide (E ≤ 3))) && (decide (1 ≤ M) && decide (M ≤ 5))) = shapeB O E M) := by rw [← hd1]; exact HS.out
 rw [hd1]
 clear hd1 HS
 cases d1
 ·
  go_wp2
  go_returns
  exact ⟨by rw [← HS1.out]; rfl, by (exact grownA)⟩
 ·
  go_wp2_with fail
  refine (sIn_any _ _ _ _).mono ?_
  rintro e w1 ⟨rfl, rfl⟩
  obtain ⟨d1, hd1⟩ : ∃ d, (decide (1 ≤ E) && decide (E ≤ 3)) = d := ⟨_, rfl⟩
  have HS2 : Hid (((true && d1) && (decide (1 ≤ M) && decide (M ≤ 5))) = shapeB O E M) := by rw [← hd1]; exact HS1.out
  rw [hd1]
  clear hd1 HS1
  cases d1
  ·
   go_wp2
   go_returns
   exact ⟨by rw [← HS2.out]; rfl, by (exact grownA)⟩
  ·
   go_wp2_with fail
   refine (sIn_any _ _ _ _).mono ?_
   rintro e w1 ⟨rfl, rfl⟩
   have HS3 : Hid ((decide (1 ≤ M) && decide (M ≤ 5)) = shapeB O E M) := by have := HS2.out; unfold Hid; simpa using this
   rw [HS3.out]
   clear HS2
   go_wp2
   go_returns
   exact ⟨rfl, by (exact grownA)⟩

set_option maxHeartbeats 1000000 in
theorem iEnough_any (O E M : Int) (w : World) :
  Calls Try.prog 68 #[.agg #[.int .i64 O, .int .i64 E, .int .i64 M]] w fun e w' => e = .returned (.bool (enoughB O E M)) ∧ Below w.heap.size w w' := by
 have hB := Blk.new (w := w) (cs := #[.int .i64 O, .int .i64 E, .int .i64 M]) (T := 30) rfl
 obtain ⟨d, hd⟩ : ∃ d, shapeB O E M = d := ⟨_, rfl⟩
 have HD := Lib.hid hd
 clear hd
 go_enter Try.func68, Try.ntmps68
 go_wp2_with fail
 refine (iShapeValid_any _ _ _ _).mono ?_
 rintro e w1 ⟨rfl, hb⟩
 have hB1 := hB.below hb (by simp)
 obtain ⟨c1, c2, c3, f1, f2, f3, hlt⟩ := hB1.three
 rw [HD.out]
 have hbel : Below w.heap.size w w1 := by (exact grownA)
 clear hB hB1
 cases d
 ·
  have HF : Hid (enoughB O E M = false) := by simp [Hid, enoughB, HD.out]
  go_wp2
  go_returns
  exact ⟨by rw [HF.out]; rfl, hbel⟩
 ·
  have HF : Hid (enoughB O E M = decide (E ≤ M)) := by simp [Hid, enoughB, HD.out]
  go_wp2
  go_returns
  exact ⟨by rw [HF.out]; rfl, hbel⟩
set_option maxHeartbeats 1000000 in
theorem sEnough_any (O E M : Int) (w : World) :
  Calls Try.prog 63 #[.agg #[.int .i64 O, .int .i64 E, .int .i64 M]] w fun e w' => e = .returned (.bool (enoughB O E M)) ∧ Below w.heap.size w w' := by
 have hB := Blk.new (w := w) (cs := #[.int .i64 O, .int .i64 E, .int .i64 M]) (T := 30) rfl
 obtain ⟨d, hd⟩ : ∃ d, shapeB O E M = d := ⟨_, rfl⟩
 have HD := Lib.hid hd
 clear hd
 go_enter Try.func63, Try.ntmps63
 go_wp2_with fail
 refine (sShapeValid_any _ _ _ _).mono ?_
 rintro e w1 ⟨rfl, hb⟩
 have hB1 := hB.below hb (by simp)
 obtain ⟨c1, c2, c3, f1, f2, f3, hlt⟩ := hB1.three
 rw [HD.out]
 have hbel : Below w.heap.size w w1 := by (exact grownA)
 clear hB hB1
 cases d
 ·
  have HF : Hid (enoughB O E M = false) := by simp [Hid, enoughB, HD.out]
  go_wp2
  go_returns
  exact ⟨by rw [HF.out]; rfl, hbel⟩
 ·
  have HF : Hid (enoughB O E M = decide (E ≤ M)) := by simp [Hid, enoughB, HD.out]
  go_wp2
  go_returns
  exact ⟨by rw [HF.out]; rfl, hbel⟩

set_option maxHeartbeats 1000000 in
theorem hasLine_any (O E M x : Int) (w : World) (h : ShapeOk O E M) :
  Calls Try.prog 106 #[.agg #[.int .i64 O, .int .i64 E, .int .i64 M], .int .i64 x] w fun e w' => e = .returned (.bool (lnB (O * E) x)) ∧ Below w.heap.size w w' := by
 have ho := h.o
 have he := h.e
 have hm0 : 0 ≤ O * E := Int.mul_nonneg (by omega) (by omega)
 have hm1 : O * E ≤ 4 * 3 := Int.le_trans (Int.mul_le_mul_of_nonneg_right ho.2 (by omega)) (Int.mul_le_mul_of_nonneg_left he.2 (by omega))
 have hw : IntKind.i64.wrap (O * E) = O * E := IntWalk.i64_in _ (by omega)
 clear h hm0 hm1
 go_enter Try.func106, Try.ntmps106
 go_wp2
 all_goals (go_ret; refine ⟨?_, by (exact grownA)⟩; congr 2; (simp [lnB, *] <;> (intros; omega)))

set_option maxHeartbeats 1000000 in
theorem l4Lines_any (O E M : Int) (w : World) (h : ShapeOk O E M) :
  Calls Try.prog 65 #[.agg #[.int .i64 O, .int .i64 E, .int .i64 M]] w fun e w' => e = .returned (.int .i64 (O * E)) ∧ Below w.heap.size w w' := by
 have ho := h.o
 have he := h.e
 have hm0 : 0 ≤ O * E := Int.mul_nonneg (by omega) (by omega)
 have hm1 : O * E ≤ 4 * 3 := Int.le_trans (Int.mul_le_mul_of_nonneg_right ho.2 (by omega)) (Int.mul_le_mul_of_nonneg_left he.2 (by omega))
 have hw : IntKind.i64.wrap (O * E) = O * E := IntWalk.i64_in _ (by omega)
 clear h hm0 hm1
 go_enter Try.func65, Try.ntmps65
 go_wp2
 go_returns
 exact ⟨rfl, by (exact grownA)⟩

end Go.Proofs.Ytedadhoneebfnaa

/- A quiet region behind a quiet region. -/
namespace Go.Proofs.Ytedadhoneebfnaa
open Go.RowKit

theorem quiet_add {P : Program} {f : FuncId} {args : Array Value} {w : World} {a n : Nat} {v : Value}
  (h : Calls P f args (w.drewN (a + n)) fun e w' => e = .returned v ∧ ∃ m, w' = (w.drewN (a + n)).drewN m) :
  Calls P f args (w.drewN (a + n)) fun e w'' => e = .returned v ∧ ∃ m, w'' = w.drewN (a + m) :=
 h.mono fun _ _ ⟨he, m, hm⟩ => ⟨he, n + m, by rw [hm, World.drewN_drewN, Nat.add_assoc]⟩
theorem quiet_add_same {P : Program} {f : FuncId} {args : Array Value} {w : World} {a n : Nat} {v : Value}
  (h : Calls P f args (w.drewN (a + n)) fun e w' => e = .returned v ∧ w' = w.drewN (a + n)) :
  Calls P f args (w.drewN (a + n)) fun e w'' => e = .returned v ∧ ∃ m, w'' = w.drewN (a + m) :=
 h.mono fun _ _ ⟨he, hm⟩ => ⟨he, n, hm⟩
theorem quiet_add_left {P : Program} {f : FuncId} {args : Array Value} {w : World} {a n : Nat} {v : Value}
  (h : Calls P f args (w.drewN (a + n)) fun e w' => e = .returned v ∧ w.drewN (a + n) = w') :
  Calls P f args (w.drewN (a + n)) fun e w'' => e = .returned v ∧ ∃ m, w'' = w.drewN (a + m) :=
 h.mono fun _ _ ⟨he, hm⟩ => ⟨he, n, hm.symm⟩
theorem quiet_left {P : Program} {f : FuncId} {args : Array Value} {w : World} {n : Nat} {v : Value}
  (h : Calls P f args (w.drewN n) fun e w' => e = .returned v ∧ w.drewN n = w') : Calls P f args (w.drewN n) fun e w'' => e = .returned v ∧ ∃ m, w'' = w.drewN m :=
 h.mono fun _ _ ⟨he, hm⟩ => ⟨he, n, hm.symm⟩

end Go.Proofs.Ytedadhoneebfnaa

/- Contracts of PlanValid (program and reference). -/
namespace Go.Proofs.Ytedadhoneebfnaa
open Go.RowKit

/-- The first k numbers are in order, and begin with none of all others. -/
def SpOk (ps : List ByteArray) (k : Nat) : Prop := ∀ i s, i < k → ps[i]? = some s → numB s = true ∧ ∀ j t, j ≠ i → ps[j]? = some t → preB s t = false
theorem SpOk.plan {ps : List ByteArray} (h : SpOk ps ps.length) (h10 : ps.length ≤ 10) : planB ps = true :=
 (planB_iff ps).2 ⟨h10, fun j s hj hs => (h j s hj hs).1, fun i j s t hij hj hs ht => ⟨(h j t hj ht).2 i s (by omega) hs, (h i s (by omega) hs).2 j t (by omega) ht⟩⟩

set_option maxHeartbeats 1000000 in
theorem iPlanValid_any (v : Value) (ps : List ByteArray) (w : World) (hv : Rds w v ps.length 1 (strs ps)) (hL : StLen ps) :
  Calls Try.prog 69 #[v] w fun e w' => e = .returned (.bool (planB ps)) ∧ w = w' := by
 obtain ⟨a, ca, rfl, hl1, hm1, hn1, hc1⟩ := hv.open1
 unfold maxLen at hm1
 obtain ⟨n, hn⟩ : ∃ n, ps.length = n := ⟨_, rfl⟩
 rw [hn] at hm1 hn1 hc1 ⊢
 have HN := Lib.hid hn
 have HL := Lib.hid hL
 clear hn hl1 hL hv
 by_cases h10 : n ≤ 10
 ·
  go_enter Try.func69, Try.ntmps69
  go_wp2_with fail
  go_loop [12] (fun i => ∃ k : Nat, k ≤ n ∧ i = .int .i64 k ∧ Hid (PlOk ps k)) (fun i => n - (intOf i).toNat)
  case atStart => exact ⟨0, by omega, rfl, PlOk.zero ps⟩
  case round =>
   obtain ⟨k, hk, rfl, hok⟩ := hrel
   by_cases hkn : k < n
   ·
    rcases hc1 with hc1 | ⟨b, off, rfl, hb, hc1⟩
    ·
     omega
    obtain ⟨s, hs⟩ : ∃ s, ps[k]? = some s := ⟨_, List.getElem?_eq_getElem (by rw [HN.out]; omega)⟩
    have c1 := hc1 k hkn
    rw [strs_at ps k s hs] at c1
    have hsl' := HL.out k s hs
    have hsl := hsl'
    unfold maxLen at hsl
    have HS := Lib.hid hs
    have HC := Lib.hid hc1
    clear hc1 hs
    by_cases h1 : 1 ≤ s.size
    ·
     by_cases h3 : s.size ≤ 3
     ·
      go_wp2_with fail
      refine (iDigitsOk_any s _ hsl').mono ?_
      rintro e w1 ⟨rfl, rfl⟩
      obtain ⟨d, hd⟩ : ∃ d, digsB s = d := ⟨_, rfl⟩
      have HD := Lib.hid hd
      rw [hd]
      clear hd
      cases d
      ·
       have HF := Lib.hid (plan_no_at HS.out (by simp [numB, HD.out]))
       go_wp2
       go_returns
       exact ⟨by rw [HF.out]; rfl, rfl⟩
      ·
       have HT : Hid (numB s = true) := by simp [Hid, numB, h1, h3, HD.out]
       go_wp2_with fail
       clear c1
       go_loop [34] (fun j => ∃ m : Nat, m ≤ k ∧ j = .int .i64 m ∧ Hid (∀ i t, i < m → ps[i]? = some t → preB s t = false ∧ preB t s = false)) (fun j => k - (intOf j).toNat)
       case atStart => exact ⟨0, by omega, rfl, fun i t hi => absurd hi (by omega)⟩
       case round =>
        obtain ⟨m, hm, rfl, hne⟩ := hrel
        by_cases hmk : m < k
        ·
         obtain ⟨t, ht⟩ : ∃ t, ps[m]? = some t := ⟨_, List.getElem?_eq_getElem (by rw [HN.out]; omega)⟩
         have c2 := HC.out m (by omega)
         rw [strs_at ps m t ht] at c2
         have htl := HL.out m t ht
         have HT2 := Lib.hid ht
         clear ht
         go_wp2_with fail
         refine (hasPrefix_any s t _ hsl' htl).mono ?_
         rintro e w1 ⟨rfl, rfl⟩
         obtain ⟨d, hd⟩ : ∃ d, preB s t = d := ⟨_, rfl⟩
         have HP := Lib.hid hd
         rw [hd]
         clear hd
         cases d
         ·
          go_wp2_with fail
          refine (hasPrefix_any t s _ htl hsl').mono ?_
          rintro e w1 ⟨rfl, rfl⟩
          obtain ⟨d, hd⟩ : ∃ d, preB t s = d := ⟨_, rfl⟩
          have HQ := Lib.hid hd
          rw [hd]
          clear hd
          cases d
          ·
           go_wp2_with fail
           go_round
           case rel =>
            refine ⟨m + 1, by omega, by go_num, ?_⟩
            intro i u hi hu
            by_cases e : i = m
            ·
             subst e; have := HT2.out; rw [hu] at this; cases this; exact ⟨HP.out, HQ.out⟩
            ·
             exact hne.out i u (by omega) hu
           case measure => simp [intOf]; omega
          ·
           have HF := Lib.hid (plan_no_pair (show k ≠ m by omega) HS.out HT2.out HQ.out)
           go_wp2
           go_returns
           exact ⟨by rw [HF.out]; rfl, rfl⟩
         ·
          have HF := Lib.hid (plan_no_pair (show m ≠ k by omega) HT2.out HS.out HP.out)
          go_wp2
          go_returns
          exact ⟨by rw [HF.out]; rfl, rfl⟩
        ·
         obtain rfl : m = k := by omega
         go_wp2_with fail
         go_round
         case rel => exact ⟨m + 1, by omega, by go_num, hok.out.succ HS.out HT.out hne.out⟩
         case measure => simp [intOf]; omega
     ·
      have HF := Lib.hid (plan_no_at HS.out (by simp [numB, h3]))
      go_wp2
      go_returns
      exact ⟨by rw [HF.out]; rfl, rfl⟩
    ·
     have HF := Lib.hid (plan_no_at HS.out (by simp [numB, h1]))
     go_wp2
     go_returns
     exact ⟨by rw [HF.out]; rfl, rfl⟩
   ·
    obtain rfl : k = n := by omega
    have HF : Hid (planB ps = true) := (planB_iff ps).2 ⟨by rw [HN.out]; exact h10, by rw [HN.out]; exact hok.out⟩
    go_wp2
    go_returns
    exact ⟨by rw [HF.out]; rfl, rfl⟩
 ·
  have HF : Hid (planB ps = false) := planB_no (fun ok => h10 (by have := ok.1; rw [HN.out] at this; exact this))
  go_enter Try.func69, Try.ntmps69
  go_wp2
  go_returns
  exact ⟨by rw [HF.out]; rfl, rfl⟩

set_option maxHeartbeats 1000000 in
theorem sPlanValid_any (v : Value) (ps : List ByteArray) (w : World) (hv : Rds w v ps.length 1 (strs ps)) (hL : StLen ps) :
  Calls Try.prog 64 #[v] w fun e w' => e = .returned (.bool (planB ps)) ∧ ∃ q, w' = w.drewN q := by
 obtain ⟨a, ca, rfl, hl1, hm1, hn1, hc1⟩ := hv.open1
 unfold maxLen at hm1
 obtain ⟨n, hn⟩ : ∃ n, ps.length = n := ⟨_, rfl⟩
 rw [hn] at hm1 hn1 hc1 ⊢
 have HN := Lib.hid hn
 have HL := Lib.hid hL
 clear hn hl1 hL hv
 go_enter Try.func64, Try.ntmps64
 go_wp2_with fail
 go_loopw [3] (fun i wr => ∃ k q : Nat, k ≤ n ∧ i = .int .i64 k ∧ Hid (SpOk ps k) ∧ wr = w.drewN q) (fun i _ => n - (intOf i).toNat)
 case atStart => exact ⟨0, 0, by omega, rfl, fun i s h => absurd h (by omega), rfl⟩
 case round =>
  obtain ⟨k, q, hk, rfl, hok, rfl⟩ := hrel
  by_cases hkn : k < n
  ·
   rcases hc1 with hc1 | ⟨b, off, rfl, hb, hc1⟩
   ·
    omega
   obtain ⟨s, hs⟩ : ∃ s, ps[k]? = some s := ⟨_, List.getElem?_eq_getElem (by rw [HN.out]; omega)⟩
   have c1 := hc1 k hkn
   rw [strs_at ps k s hs] at c1
   have hsl' := HL.out k s hs
   have hsl := hsl'
   unfold maxLen at hsl
   have HS := Lib.hid hs
   have HC := Lib.hid hc1
   clear hc1 hs
   go_wp2_with fail
   refine (sDigitsOk_any s _ hsl').mono ?_
   rintro e w1 ⟨rfl, rfl⟩
   obtain ⟨d, hd⟩ : ∃ d, digsB s = d := ⟨_, rfl⟩
   have HD := Lib.hid hd
   rw [hd]
   clear hd
   cases d
   ·
    have HF := Lib.hid (plan_no_at HS.out (by simp [numB, HD.out]))
    go_wp2
    go_returns
    exact ⟨by rw [HF.out]; rfl, _, rfl⟩
   ·
    go_wp2_with fail
    refine (sIn_any _ _ _ _).mono ?_
    rintro e w1 ⟨rfl, rfl⟩
    obtain ⟨d, hd⟩ : ∃ d, (decide ((1 : Int) ≤ (s.size : Int)) && decide ((s.size : Int) ≤ 3)) = d := ⟨_, rfl⟩
    have HO := Lib.hid hd
    rw [hd]
    clear hd
    cases d
    ·
     have HF := Lib.hid (plan_no_at HS.out (by
      have h := HO.out
      simp only [numB, HD.out, Bool.and_true, Bool.and_eq_false_iff, decide_eq_false_iff_not] at h ⊢
      omega))
     go_wp2
     go_returns
     exact ⟨by rw [HF.out]; rfl, _, rfl⟩
    ·
     have HT : Hid (numB s = true) := by
      have h := HO.out
      simp only [Hid, numB, HD.out, Bool.and_true, Bool.and_eq_true, decide_eq_true_eq] at h ⊢
      omega
     go_wp2_with fail
     go_loopw [4] (fun j wi => ∃ m q : Nat, m ≤ n ∧ j = .int .i64 m ∧ Hid (∀ i t, i < m → i ≠ k → ps[i]? = some t → preB s t = false) ∧ wi = w.drewN q) (fun j _ => n - (intOf j).toNat)
     case atStart => exact ⟨0, q, by omega, rfl, fun i t hi => absurd hi (by omega), rfl⟩
     case round =>
      obtain ⟨m, q2, hm, rfl, hne, rfl⟩ := hrel
      by_cases hmn : m < n
      ·
       obtain ⟨t, ht⟩ : ∃ t, ps[m]? = some t := ⟨_, List.getElem?_eq_getElem (by rw [HN.out]; omega)⟩
       have c2 := HC.out m (by omega)
       rw [strs_at ps m t ht] at c2
       have htl := HL.out m t ht
       have HT2 := Lib.hid ht
       clear ht
       by_cases hmk : m = k
       ·
        have hmb : ((m : Int) != (k : Int)) = false := by simp [hmk]
        go_wp2_with fail
        go_quiet (fail)
        go_wp2
        go_roundw
        case rel =>
         refine ⟨m + 1, _, by omega, by go_num, ?_, rfl⟩
         intro i u hi hik hu
         exact hne.out i u (by omega) hik hu
        case measure => simp [intOf]; omega
       ·
        have hmb : ((m : Int) != (k : Int)) = true := by simp; omega
        obtain ⟨d, hd⟩ : ∃ d, preB s t = d := ⟨_, rfl⟩
        have HP := Lib.hid hd
        clear hd
        have kc : Hid (∀ w : World, Calls Try.prog 102 #[.string s, .string t] w fun e w' => e = .returned (.bool d) ∧ w' = w) := fun w => (l6Begins_any s t w hsl' htl).mono (fun e w' h => ⟨by rw [h.1, HP.out], h.2.symm⟩)
        go_wp2_with fail
        go_quiet ((go_at_call 102; exact quiet_add_same (kc.out _)))
        cases d
        ·
         go_wp2
         go_roundw
         case rel =>
          refine ⟨m + 1, _, by omega, by go_num, ?_, rfl⟩
          intro i u hi hik hu
          by_cases e : i = m
          ·
           subst e; have := HT2.out; rw [hu] at this; cases this; exact HP.out
          ·
           exact hne.out i u (by omega) hik hu
         case measure => simp [intOf]; omega
        ·
         have HF := Lib.hid (plan_no_pair hmk HT2.out HS.out HP.out)
         go_wp2
         go_returns
         exact ⟨by rw [HF.out]; rfl, _, by rw [World.drewN_drewN]⟩
      ·
       obtain rfl : m = n := by omega
       go_wp2_with fail
       go_roundw
       case rel =>
        refine ⟨k + 1, _, by omega, by go_num, ?_, rfl⟩
        intro i u hi hu
        by_cases e : i = k
        ·
         subst e
         have := HS.out; rw [hu] at this; cases this
         exact ⟨HT.out, fun j t hj ht => hne.out j t (by have := (List.getElem?_eq_some_iff.1 ht).1; rw [HN.out] at this; exact this) hj ht⟩
        ·
         exact hok.out i u (by omega) hu
       case measure => simp [intOf]; omega
  ·
   obtain rfl : k = n := by omega
   by_cases h10 : k ≤ 10
   ·
    have HF : Hid (planB ps = true) := SpOk.plan (by rw [HN.out]; exact hok.out) (by rw [HN.out]; exact h10)
    have hd : decide ((k : Int) ≤ 10) = true := by simp; omega
    go_wp2
    go_returns
    exact ⟨by rw [HF.out]; rfl, _, rfl⟩
   ·
    have HF : Hid (planB ps = false) := planB_no (fun ok => h10 (by have := ok.1; rw [HN.out] at this; exact this))
    have hd : decide ((k : Int) ≤ 10) = false := by simp; omega
    go_wp2
    go_returns
    exact ⟨by rw [HF.out]; rfl, _, rfl⟩

end Go.Proofs.Ytedadhoneebfnaa

/- Rows of truths: their cells. -/
namespace Go.Proofs.Ytedadhoneebfnaa
open Go.RowKit

theorem infoB8 : (Try.prog.info? 4).map (fun i => (i.zero, i.size, i.bytes)) = some (some (.bool false), 1, 1) := by kernel_rfl
def bcells (n : Nat) (f : Int → Bool) : List Value := (List.range n).map fun i => Value.bool (f (i : Nat))
theorem bcells_len (n : Nat) (f : Int → Bool) : (bcells n f).length = n := by simp [bcells]
theorem bcells_at {n : Nat} (f : Int → Bool) {i : Nat} (h : i < n) : (bcells n f)[i]? = some (.bool (f (i : Nat))) := by simp [bcells, h]
theorem bcells_zero (n : Nat) : (madeCells (Value.bool false).cells (n * 1)).toList = bcells n fun _ => false := by
 apply List.ext_getElem?
 intro i
 by_cases hi : i < n
 ·
  simp [madeCells, Value.cells, bcells, hi, Nat.mod_one]
 ·
  rw [List.getElem?_eq_none (by simp [madeCells]; omega), List.getElem?_eq_none (by simp [bcells]; omega)]
theorem bcells_congr {n : Nat} {f g : Int → Bool} (h : ∀ i : Nat, i < n → f i = g i) : bcells n f = bcells n g := by
 apply List.map_congr_left
 intro i hi
 rw [h i (List.mem_range.1 hi)]
theorem bcells_set {n : Nat} (f : Int → Bool) {x : Nat} (h : x < n) : (bcells n f).set x (.bool true) = bcells n fun i => f i || decide ((x : Int) = i) := by
 apply List.ext_getElem?
 intro i
 by_cases hi : i < n
 ·
  rw [List.getElem?_set, bcells_len, bcells_at f hi, bcells_at _ hi]
  by_cases e : x = i
  ·
   subst e; simp [h]
  ·
   rw [if_neg e]
   have : ¬ (x : Int) = (i : Int) := by omega
   simp [this]
 ·
  rw [List.getElem?_eq_none (by simp [bcells]; omega), List.getElem?_eq_none (by simp [bcells]; omega)]

end Go.Proofs.Ytedadhoneebfnaa

/- Steps through a region that draws its order, by hand: an operation is taken first, or left out where its guard is false. No program in sight. -/
namespace Go.Proofs.Ytedadhoneebfnaa
open Go.RowKit

section
variable {P : Program} {ops : Array Oper} {Q : Exit → Act → World → Prop} {md : Region.Mode} {S : World → Prop}
theorem take_on {i : Nat} {oi : Oper} {v : Value} {d : Option Tmp} {fuel : Nat} {listed : Array Bool} {a : Act} {w : World} (hi : ops[i]? = some oi) (hd : oi.dst = d)
  (hs : Region.noSelect ops = true) (hf : Region.free md ops listed i = true) (hr : (Region.ready md ops listed).contains i = true)
  (hQ : ∀ c a w, Q (.panic c) (a.put d v) w → Q (.panic c) a w) (hy : YieldsIf P ops S oi v a) (hS : S w)
  (h : wpAnyH P md ops Q S fuel (listed.setIfInBounds i true) (a.put d v) w) : wpAnyH P md ops Q S (fuel + 1) listed a w := by
 subst hd
 exact wpAnyH_take hi hs hf hr hQ hy hS h
/-- An operation that yields, shortly. -/
theorem take_y {S : World → Prop} (i d : Nat) {oi : Oper} {v : Value} {fuel : Nat} {listed : Array Bool} {a : Act} {w : World} (hi : ops[i]? = some oi)
  (hv : ∀ w, S w → (execOp a.eval oi).run P w = .ok (.value v) w) (h : wpAnyH P md ops Q S fuel (listed.setIfInBounds i true) (a.put (some d) v) w)
  (hd : oi.dst = some d := by rfl) (hs : Region.noSelect ops = true := by kernel_rfl) (hf : Region.free md ops listed i = true := by kernel_rfl) (hr : (Region.ready md ops listed).contains i = true := by kernel_rfl)
  (hQ : ∀ c a w, Q (.panic c) (a.put (some d) v) w → Q (.panic c) a w := by exact fun _ _ _ h => h) (hw : Region.wanted oi (yielded ops a.tmps) = true := by kernel_rfl) (hS : S w := by assumption) :
  wpAnyH P md ops Q S (fuel + 1) listed a w := take_on hi hd hs hf hr hQ (Or.inl ⟨hw, hv⟩) hS h
end

end Go.Proofs.Ytedadhoneebfnaa
