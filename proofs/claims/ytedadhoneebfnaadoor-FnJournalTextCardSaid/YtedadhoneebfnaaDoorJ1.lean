/- Joined texts: Pl6, In, Dig, Pre, PlP, Str. -/
import Derived.WalkKit
import Derived.Test.YtedadhoneebfnaaDoorLib
import Derived.Test.YtedadhoneebfnaaDoorRows
import Derived.Handy
set_option linter.unusedSimpArgs false
set_option linter.unusedVariables false
/- Plain mathematics for the chapter on numbering plans: lengths and shares. No program in sight. -/
namespace Go.Proofs.YtedadhoneebfnaaDoor
open Go.RowKit

def lenB (z : Int) : Bool := decide (1 ≤ z) && decide (z ≤ 3)
theorem lenB_iff (z : Int) : lenB z = true ↔ 1 ≤ z ∧ z ≤ 3 := by simp [lenB]
/-- Valid lengths. -/
def lensB (zs : List Int) : Bool := decide (zs.length ≤ 10) && zs.all lenB
theorem all_step {α : Type} (p : α → Bool) (zs : List α) (k : Nat) (z : α) (h : zs[k]? = some z) : (zs.take (k + 1)).all p = ((zs.take k).all p && p z) := by
 simp [List.take_add_one, h]
theorem all_no {α : Type} (p : α → Bool) (zs : List α) (k : Nat) (z : α) (h : zs[k]? = some z) (hz : p z = false) : zs.all p = false := by
 rw [List.all_eq_false]
 exact ⟨z, List.mem_of_getElem? h, by simpa using hz⟩
theorem lensB_at {zs : List Int} (h : lensB zs = true) (k : Nat) (z : Int) (hz : zs[k]? = some z) : 1 ≤ z ∧ z ≤ 3 := by
 simp only [lensB, Bool.and_eq_true, List.all_eq_true] at h
 exact (lenB_iff z).1 (h.2 z (List.mem_of_getElem? hz))
theorem lensB_len {zs : List Int} (h : lensB zs = true) : zs.length ≤ 10 := by
 simp only [lensB, Bool.and_eq_true, decide_eq_true_eq] at h
 exact h.1

/-- How many numbers of three digits begin with one of this length. -/
def shareN (z : Int) : Nat := 4 ^ (3 - z).toNat
def shareTo (zs : List Int) (k : Nat) : Nat := ((zs.take k).map shareN).sum
def shareR (zs : List Int) : Int := if lensB zs then (shareTo zs zs.length : Nat) else -1
theorem shareN_small (z : Int) (h : 0 ≤ z) : 1 ≤ shareN z ∧ shareN z ≤ 64 := by
 unfold shareN
 have h1 : (3 - z).toNat ≤ 3 := by omega
 have h2 := Nat.pow_le_pow_right (n := 4) (by omega) h1
 exact ⟨Nat.pow_pos (by omega), h2⟩
theorem shareTo_step (zs : List Int) (k : Nat) (z : Int) (h : zs[k]? = some z) : shareTo zs (k + 1) = shareTo zs k + shareN z := by
 simp [shareTo, List.take_add_one, h]
theorem shareTo_small {zs : List Int} (h : lensB zs = true) : ∀ k, k ≤ zs.length → shareTo zs k ≤ 64 * k := by
 intro k
 induction k with
 | zero => intro _; simp [shareTo]
 | succ k ih =>
  intro hk
  obtain ⟨z, hz⟩ : ∃ z, zs[k]? = some z := ⟨_, List.getElem?_eq_getElem (by omega)⟩
  rw [shareTo_step zs k z hz]
  have h1 := ih (by omega)
  have h2 := (shareN_small z (by have := lensB_at h k z hz; omega)).2
  omega

theorem share_all (zs : List Int) : shareTo zs zs.length = (zs.map shareN).sum := by simp [shareTo]
theorem shareR_bd (zs : List Int) : -1 ≤ shareR zs ∧ shareR zs ≤ 640 := by
 unfold shareR
 split
 ·
  rename_i h
  have h1 := shareTo_small h zs.length (Nat.le_refl _)
  have h2 := lensB_len h
  omega
 ·
  omega
end Go.Proofs.YtedadhoneebfnaaDoor

/- l1In: whether a number lies between two bounds. -/
namespace Go.Proofs.YtedadhoneebfnaaDoor
open Go.RowKit

set_option maxHeartbeats 400000 in
theorem sIn_any (x lo hi : Int) (w : World) :
  Calls Tryd.prog 31 #[.int .i64 x, .int .i64 lo, .int .i64 hi] w fun e w' => e = .returned (.bool (decide (lo ≤ x) && decide (x ≤ hi))) ∧ w = w' := by
 go_enter Tryd.func31, Tryd.ntmps31
 go_wp2
 all_goals
  go_returns
  refine ⟨?_, rfl⟩
  congr 2
  first | (simp; done) | (simp; omega) | (simp_all; done) | (simp_all; omega)

end Go.Proofs.YtedadhoneebfnaaDoor

/- Contracts of DigitsOk (program and reference). -/
namespace Go.Proofs.YtedadhoneebfnaaDoor
open Go.RowKit

def digB (c : UInt8) : Bool := decide (48 ≤ (c.toNat : Int)) && decide ((c.toNat : Int) ≤ 51)
def digsB (s : ByteArray) : Bool := s.data.toList.all digB
theorem bytes_at (s : ByteArray) (k : Nat) (h : k < s.size) : s.data.toList[k]? = some s[k] := by
 rw [List.getElem?_eq_getElem (by simpa using h)]; rfl

set_option maxHeartbeats 400000 in
theorem iDigitsOk_any (s : ByteArray) (w : World) (hs : s.size ≤ maxLen) :
  Calls Tryd.prog 35 #[.string s] w fun e w' => e = .returned (.bool (digsB s)) ∧ w = w' := by
 unfold maxLen at hs
 go_enter Tryd.func35, Tryd.ntmps35
 go_wp2_with fail
 go_loop [6] (fun i => ∃ k : Nat, k ≤ s.size ∧ i = .int .i64 k ∧ Hid ((s.data.toList.take k).all digB = true)) (fun i => s.size - (intOf i).toNat)
 case atStart => exact ⟨0, by omega, rfl, rfl⟩
 case round =>
  obtain ⟨k, hk, rfl, hall⟩ := hrel
  by_cases hkn : k < s.size
  ·
   have HZ := Lib.hid (bytes_at s k hkn)
   by_cases hb : 48 ≤ (s[k].toNat : Int) ∧ (s[k].toNat : Int) ≤ 51
   ·
    obtain ⟨q1, q2⟩ := hb
    have hd : digB s[k] = true := by simp only [digB, q1, q2, decide_true, Bool.and_self]
    have HD := Lib.hid hd
    have q3 : (s[k].toNat : Int) < 52 := by omega
    clear hd
    go_wp2_with fail
    go_round
    case rel => exact ⟨k + 1, by omega, by go_num, by unfold Hid; rw [all_step digB _ k _ HZ.out, hall.out, HD.out]; rfl⟩
    case measure => simp [intOf]; omega
   ·
    have hno : digB s[k] = false := by simp only [digB, Bool.and_eq_false_iff, decide_eq_false_iff_not]; omega
    have HF := Lib.hid (all_no digB _ k _ HZ.out hno)
    clear hno
    by_cases q1 : 48 ≤ (s[k].toNat : Int)
    ·
     have q2 : 52 ≤ (s[k].toNat : Int) := by omega
     clear hb
     go_wp2
     go_returns
     exact ⟨by rw [digsB, HF.out]; rfl, rfl⟩
    ·
     clear hb
     go_wp2
     go_returns
     exact ⟨by rw [digsB, HF.out]; rfl, rfl⟩
  ·
   obtain rfl : k = s.size := by omega
   have h1 := hall.out
   rw [List.take_of_length_le (by simp)] at h1
   have H1 := Lib.hid h1
   clear h1 hall
   go_wp2
   go_returns
   exact ⟨by rw [digsB, H1.out]; rfl, rfl⟩

set_option maxHeartbeats 400000 in
theorem sDigitsOk_any (s : ByteArray) (w : World) (hs : s.size ≤ maxLen) :
  Calls Tryd.prog 33 #[.string s] w fun e w' => e = .returned (.bool (digsB s)) ∧ w = w' := by
 unfold maxLen at hs
 go_enter Tryd.func33, Tryd.ntmps33
 go_wp2_with fail
 go_loop [3] (fun i => ∃ k : Nat, k ≤ s.size ∧ i = .int .i64 k ∧ Hid ((s.data.toList.take k).all digB = true)) (fun i => s.size - (intOf i).toNat)
 case atStart => exact ⟨0, by omega, rfl, rfl⟩
 case round =>
  obtain ⟨k, hk, rfl, hall⟩ := hrel
  by_cases hkn : k < s.size
  ·
   have HZ := Lib.hid (bytes_at s k hkn)
   have hc := s[k].toNat_lt
   have hx : (decide (0 ≤ ((s[k].toNat : Int) - 48) % 256) && decide (((s[k].toNat : Int) - 48) % 256 ≤ 3)) = digB s[k] := by
    unfold digB
    rw [Bool.eq_iff_iff]
    simp only [Bool.and_eq_true, decide_eq_true_eq]
    omega
   have HX := Lib.hid hx
   clear hx
   go_wp2_with fail
   refine (sIn_any _ _ _ _).mono ?_
   rintro e w1 ⟨rfl, rfl⟩
   rw [HX.out]
   obtain ⟨o, ho⟩ : ∃ o, digB s[k] = o := ⟨_, rfl⟩
   have HO := Lib.hid ho
   rw [ho]
   clear ho
   cases o
   ·
    have HF := Lib.hid (all_no digB _ k _ HZ.out HO.out)
    go_wp2
    go_returns
    exact ⟨by rw [digsB, HF.out]; rfl, rfl⟩
   ·
    have hq : 48 ≤ (s[k].toNat : Int) := by
     have := HO.out
     simp only [digB, Bool.and_eq_true, decide_eq_true_eq] at this
     exact this.1
    go_wp2_with fail
    go_round
    case rel => exact ⟨k + 1, by omega, by go_num, by unfold Hid; rw [all_step digB _ k _ HZ.out, hall.out, HO.out]; rfl⟩
    case measure => simp [intOf]; omega
  ·
   obtain rfl : k = s.size := by omega
   have h1 := hall.out
   rw [List.take_of_length_le (by simp)] at h1
   have H1 := Lib.hid h1
   clear h1 hall
   go_wp2
   go_returns
   exact ⟨by rw [digsB, H1.out]; rfl, rfl⟩

end Go.Proofs.YtedadhoneebfnaaDoor

/- Contracts of strings.HasPrefix and the reference's l6Begins. -/
namespace Go.Proofs.YtedadhoneebfnaaDoor
open Go.RowKit

/-- Whether s begins with p. -/
def preB (s p : ByteArray) : Bool := p.data.toList.isPrefixOf s.data.toList
theorem preB_long {s p : ByteArray} (h : s.size < p.size) : preB s p = false := by
 rw [Bool.eq_false_iff]
 intro e
 have := (List.isPrefixOf_iff_prefix.1 e).length_le
 simp at this
 omega
theorem preB_cut {s p : ByteArray} (h : p.size ≤ s.size) : ((s.extract 0 p.size).toList == p.toList) = preB s p := by
 rw [Bool.eq_iff_iff, beq_iff_eq, ByteArray.toList_eq, ByteArray.toList_eq]
 unfold preB
 rw [List.isPrefixOf_iff_prefix, List.prefix_iff_eq_take]
 have e1 : (s.extract 0 p.size).data.toList = s.data.toList.take p.data.toList.length := by simp [ByteArray.data_extract]
 rw [e1]
 exact eq_comm

set_option maxHeartbeats 400000 in
theorem l6Begins_any (s p : ByteArray) (w : World) (hs : s.size ≤ maxLen) (hp : p.size ≤ maxLen) :
  Calls Tryd.prog 92 #[.string s, .string p] w fun e w' => e = .returned (.bool (preB s p)) ∧ w = w' := by
 unfold maxLen at hs hp
 by_cases h : p.size ≤ s.size
 ·
  have hc := preB_cut h
  obtain ⟨b, hb⟩ : ∃ b, preB s p = b := ⟨_, rfl⟩
  rw [hb] at hc
  have HB := Lib.hid hb
  clear hb
  go_enter Tryd.func92, Tryd.ntmps92
  go_wp2
  go_returns
  rw [HB.out]
  exact ⟨rfl, rfl⟩
 ·
  rw [preB_long (by omega)]
  go_enter Tryd.func92, Tryd.ntmps92
  go_wp2
  go_returns
  exact ⟨rfl, rfl⟩

end Go.Proofs.YtedadhoneebfnaaDoor

/- Plain mathematics of numbering plans: validity, shares, the plan with given lengths, dialling. No program in sight. -/
namespace Go.Proofs.YtedadhoneebfnaaDoor
open Go.RowKit

/-- The numbers of a plan. -/
def numB (s : ByteArray) : Bool := decide (1 ≤ s.size) && decide (s.size ≤ 3) && digsB s
/-- The first k numbers of a plan are in order. -/
def PlOk (ps : List ByteArray) (k : Nat) : Prop := (∀ j s, j < k → ps[j]? = some s → numB s = true) ∧ ∀ i j s t, i < j → j < k → ps[i]? = some s → ps[j]? = some t → preB t s = false ∧ preB s t = false
def PlanOk (ps : List ByteArray) : Prop := ps.length ≤ 10 ∧ PlOk ps ps.length
noncomputable def planB (ps : List ByteArray) : Bool := @decide (PlanOk ps) (Classical.propDecidable _)
theorem planB_iff (ps : List ByteArray) : planB ps = true ↔ PlanOk ps := by unfold planB; exact @decide_eq_true_iff _ (Classical.propDecidable _)
theorem planB_no {ps : List ByteArray} (h : ¬ PlanOk ps) : planB ps = false := by
 rw [Bool.eq_false_iff]; exact fun e => h ((planB_iff ps).1 e)
theorem PlOk.zero (ps : List ByteArray) : PlOk ps 0 := ⟨fun j r h => absurd h (by omega), fun i j r s _ h => absurd h (by omega)⟩
theorem PlOk.succ {ps : List ByteArray} {k : Nat} {s : ByteArray} (h : PlOk ps k) (hs : ps[k]? = some s) (h1 : numB s = true) (h2 : ∀ j t, j < k → ps[j]? = some t → preB s t = false ∧ preB t s = false) : PlOk ps (k + 1) := by
 refine ⟨fun j t hj ht => ?_, fun i j t u hij hj ht hu => ?_⟩
 ·
  by_cases e : j = k
  ·
   subst e; rw [hs] at ht; cases ht; exact h1
  ·
   exact h.1 j t (by omega) ht
 ·
  by_cases e : j = k
  ·
   subst e; rw [hs] at hu; cases hu; exact h2 i t hij ht
  ·
   exact h.2 i j t u hij (by omega) ht hu
theorem lt_of_some {α : Type} {xs : List α} {k : Nat} {x : α} (h : xs[k]? = some x) : k < xs.length := (List.getElem?_eq_some_iff.1 h).1
theorem PlanOk.at {ps : List ByteArray} (h : PlanOk ps) (k : Nat) (s : ByteArray) (hs : ps[k]? = some s) : numB s = true := h.2.1 k s (lt_of_some hs) hs
theorem PlanOk.apart {ps : List ByteArray} (h : PlanOk ps) {i j : Nat} {s t : ByteArray} (hij : i ≠ j) (hs : ps[i]? = some s) (ht : ps[j]? = some t) : preB t s = false := by
 rcases Nat.lt_or_gt_of_ne hij with hl | hl
 ·
  exact (h.2.2 i j s t hl (lt_of_some ht) hs ht).1
 ·
  exact (h.2.2 j i t s hl (lt_of_some hs) ht hs).2
theorem plan_no_at {ps : List ByteArray} {k : Nat} {s : ByteArray} (hs : ps[k]? = some s) (h : numB s = false) : planB ps = false :=
 planB_no fun ok => by have := ok.at k s hs; rw [h] at this; cases this
theorem plan_no_pair {ps : List ByteArray} {i j : Nat} {s t : ByteArray} (hij : i ≠ j) (hs : ps[i]? = some s) (ht : ps[j]? = some t) (h : preB t s = true) : planB ps = false :=
 planB_no fun ok => by have := ok.apart hij hs ht; rw [h] at this; cases this
theorem numB_size {s : ByteArray} (h : numB s = true) : 1 ≤ s.size ∧ s.size ≤ 3 ∧ digsB s = true := by
 simp only [numB, Bool.and_eq_true, decide_eq_true_eq] at h; exact ⟨h.1.1, h.1.2, h.2⟩
theorem PlanOk.nil : PlanOk [] := ⟨by simp, PlOk.zero []⟩
/-! No plan has more shares than there are. -/
def three (n : Nat) : List UInt8 := [UInt8.ofNat (48 + n / 16 % 4), UInt8.ofNat (48 + n / 4 % 4), UInt8.ofNat (48 + n % 4)]
/-! The plan with given lengths. -/
def belowS (zs : List Int) (l : Int) : Nat := (zs.map fun z => if z < l then shareN z else 0).sum
def sameS (zs : List Int) (l : Int) : Nat := (zs.map fun z => if z = l then shareN z else 0).sum
/-- The next number, where all shorter lengths and the first k of this length have been served. -/
def nextAt (zs : List Int) (l : Int) (k : Nat) : Nat := belowS zs l + sameS (zs.take k) l
theorem nextAt_step (zs : List Int) (l : Int) (k : Nat) (z : Int) (h : zs[k]? = some z) : nextAt zs l (k + 1) = nextAt zs l k + if z = l then shareN z else 0 := by
 simp [nextAt, sameS, List.take_add_one, h]; omega
theorem below_next (zs : List Int) (l : Int) : belowS zs (l + 1) = belowS zs l + sameS zs l := by
 induction zs with
 | nil => rfl
 | cons z zs ih =>
  simp only [belowS, sameS, List.map_cons, List.sum_cons] at ih ⊢
  rw [ih]
  by_cases h1 : z < l
  ·
   rw [if_pos (by omega), if_pos h1, if_neg (by omega)]; omega
  ·
   by_cases h2 : z = l
   ·
    rw [if_pos (by omega), if_neg h1, if_pos h2]; omega
   ·
    rw [if_neg (by omega), if_neg h1, if_neg h2]; omega
theorem nextAt_next (zs : List Int) (l : Int) : nextAt zs (l + 1) 0 = nextAt zs l zs.length := by
 simp [nextAt, below_next, sameS]
theorem nextAt_first {zs : List Int} (h : ∀ z ∈ zs, 1 ≤ z) : nextAt zs 1 0 = 0 := by
 have : belowS zs 1 = 0 := by
  induction zs with
  | nil => rfl
  | cons z zs ih =>
   have h1 := h z (by simp)
   have h2 := ih (fun y hy => h y (by simp [hy]))
   simp only [belowS, List.map_cons, List.sum_cons] at h2 ⊢
   rw [if_neg (by omega), h2]
 simp [nextAt, this, sameS]
theorem nextAt_last {zs : List Int} (h : ∀ z ∈ zs, z ≤ 3) : nextAt zs 4 0 = (zs.map shareN).sum := by
 have : belowS zs 4 = (zs.map shareN).sum := by
  induction zs with
  | nil => rfl
  | cons z zs ih =>
   have h1 := h z (by simp)
   have h2 := ih (fun y hy => h y (by simp [hy]))
   simp only [belowS, List.map_cons, List.sum_cons] at h2 ⊢
   rw [if_pos (by omega), h2]
 simp [nextAt, this, sameS]
theorem sum_take_le (f : Int → Nat) : ∀ (zs : List Int) (k j : Nat), k ≤ j → ((zs.take k).map f).sum ≤ ((zs.take j).map f).sum := by
 intro zs
 induction zs with
 | nil => intro k j h; simp
 | cons z zs ih =>
  intro k j h
  cases k with
  | zero => simp
  | succ k =>
   cases j with
   | zero => omega
   | succ j => have := ih k j (by omega); simp only [List.take_succ_cons, List.map_cons, List.sum_cons]; omega
theorem nextAt_mono (zs : List Int) (l : Int) {k j : Nat} (h : k ≤ j) : nextAt zs l k ≤ nextAt zs l j := by
 have := sum_take_le (fun z => if z = l then shareN z else 0) zs k j h
 simp only [nextAt, sameS]; omega
theorem below_mono (zs : List Int) {l m : Int} (h : l ≤ m) : belowS zs l ≤ belowS zs m := by
 induction zs with
 | nil => exact Nat.le_refl _
 | cons z zs ih =>
  simp only [belowS, List.map_cons, List.sum_cons] at ih ⊢
  by_cases h1 : z < l
  ·
   rw [if_pos h1, if_pos (by omega)]; omega
  ·
   rw [if_neg h1]; omega
theorem nextAt_lex (zs : List Int) {l m : Int} {k j : Nat} (hk : k ≤ zs.length) (h : l < m ∨ l = m ∧ k ≤ j) : nextAt zs l k ≤ nextAt zs m j := by
 rcases h with h | ⟨rfl, h⟩
 ·
  have h1 := nextAt_mono zs l hk
  have h2 := nextAt_next zs l
  have h3 := below_mono zs (show l + 1 ≤ m by omega)
  have h4 : nextAt zs (l + 1) 0 = belowS zs (l + 1) := by simp [nextAt, sameS]
  have h5 : belowS zs m ≤ nextAt zs m j := by simp only [nextAt]; omega
  omega
 ·
  exact nextAt_mono zs l h
/-- The first digits of a number of three digits. -/
def num3 (x l : Nat) : ByteArray := ⟨((three x).take l).toArray⟩
/-- Whether length z at place j has been served, where those of length l have been up to k. -/
def served (l : Int) (k : Nat) (p : Int × Nat) : Bool := decide (p.1 < l) || (decide (p.1 = l) && decide (p.2 < k))
def planTo (zs : List Int) (l : Int) (k : Nat) : List ByteArray := zs.zipIdx.map fun p => if served l k p = true then num3 (nextAt zs p.1 p.2) p.1.toNat else ByteArray.empty
def planFor (zs : List Int) : List ByteArray := zs.zipIdx.map fun p => num3 (nextAt zs p.1 p.2) p.1.toNat
theorem planTo_len (zs : List Int) (l : Int) (k : Nat) : (planTo zs l k).length = zs.length := by simp [planTo]
theorem planFor_len (zs : List Int) : (planFor zs).length = zs.length := by simp [planFor]
theorem planFor_at (zs : List Int) (k : Nat) (z : Int) (h : zs[k]? = some z) : (planFor zs)[k]? = some (num3 (nextAt zs z k) z.toNat) := by
 simp [planFor, h]
theorem planTo_at (zs : List Int) (l : Int) (m k : Nat) (z : Int) (h : zs[k]? = some z) : (planTo zs l m)[k]? = some (if served l m (z, k) = true then num3 (nextAt zs z k) z.toNat else ByteArray.empty) := by
 simp [planTo, h]
theorem planTo_first {zs : List Int} (h : ∀ z ∈ zs, 1 ≤ z) : planTo zs 1 0 = List.replicate zs.length ByteArray.empty := by
 apply List.ext_getElem?
 intro k
 by_cases hk : k < zs.length
 ·
  have h1 := h zs[k] (List.getElem_mem hk)
  rw [planTo_at zs 1 0 k zs[k] (List.getElem?_eq_getElem hk), List.getElem?_replicate, if_pos hk, if_neg]
  simp [served]; omega
 ·
  rw [List.getElem?_eq_none (by rw [planTo_len]; omega), List.getElem?_eq_none (by simp; omega)]
theorem planTo_next (zs : List Int) (l : Int) : planTo zs (l + 1) 0 = planTo zs l zs.length := by
 apply List.ext_getElem?
 intro k
 by_cases hk : k < zs.length
 ·
  rw [planTo_at zs _ _ k zs[k] (List.getElem?_eq_getElem hk), planTo_at zs _ _ k zs[k] (List.getElem?_eq_getElem hk)]
  have e : served (l + 1) 0 (zs[k], k) = served l zs.length (zs[k], k) := by
   rw [Bool.eq_iff_iff]; simp [served, hk]; omega
  rw [e]
 ·
  rw [List.getElem?_eq_none (by rw [planTo_len]; omega), List.getElem?_eq_none (by rw [planTo_len]; omega)]
theorem planTo_last {zs : List Int} (h : ∀ z ∈ zs, z ≤ 3) : planTo zs 4 0 = planFor zs := by
 apply List.ext_getElem?
 intro k
 by_cases hk : k < zs.length
 ·
  have h1 := h zs[k] (List.getElem_mem hk)
  rw [planTo_at zs _ _ k zs[k] (List.getElem?_eq_getElem hk), planFor_at zs k zs[k] (List.getElem?_eq_getElem hk), if_pos]
  simp [served]; omega
 ·
  rw [List.getElem?_eq_none (by rw [planTo_len]; omega), List.getElem?_eq_none (by rw [planFor_len]; omega)]
theorem planTo_step (zs : List Int) (l : Int) (k : Nat) (z : Int) (h : zs[k]? = some z) : planTo zs l (k + 1) = if z = l then (planTo zs l k).set k (num3 (nextAt zs l k) l.toNat) else planTo zs l k := by
 apply List.ext_getElem?
 intro j
 by_cases hj : j < zs.length
 ·
  have hzj := List.getElem?_eq_getElem hj
  rw [planTo_at zs _ _ j zs[j] hzj]
  by_cases hjk : j = k
  ·
   subst hjk
   rw [hzj] at h
   cases h
   split
   ·
    rename_i hs
    split
    ·
     rename_i e; rw [List.getElem?_set_self (by rw [planTo_len]; exact hj), e]
    ·
     rename_i e
     rw [planTo_at zs _ _ j zs[j] hzj, if_pos]
     simp [served, e] at hs ⊢; exact hs
   ·
    rename_i hs
    split
    ·
     rename_i e; simp [served, e] at hs
    ·
     rename_i e
     rw [planTo_at zs _ _ j zs[j] hzj, if_neg]
     simp [served, e] at hs ⊢; exact hs
  ·
   have e : served l (k + 1) (zs[j], j) = served l k (zs[j], j) := by
    rw [Bool.eq_iff_iff]; simp [served]; omega
   rw [e]
   split
   ·
    split
    ·
     rw [List.getElem?_set_ne (by omega), planTo_at zs _ _ j zs[j] hzj, if_pos (by assumption)]
    ·
     rw [planTo_at zs _ _ j zs[j] hzj, if_pos (by assumption)]
   ·
    split
    ·
     rw [List.getElem?_set_ne (by omega), planTo_at zs _ _ j zs[j] hzj, if_neg (by assumption)]
    ·
     rw [planTo_at zs _ _ j zs[j] hzj, if_neg (by assumption)]
 ·
  rw [List.getElem?_eq_none (by rw [planTo_len]; omega)]
  split
  ·
   rw [List.getElem?_eq_none (by rw [List.length_set, planTo_len]; omega)]
  ·
   rw [List.getElem?_eq_none (by rw [planTo_len]; omega)]

/-- Where a length has its number, below 64. -/
theorem nextAt_room {zs : List Int} (hz : ∀ z ∈ zs, 1 ≤ z ∧ z ≤ 3) (hs : (zs.map shareN).sum ≤ 64) {k : Nat} {z : Int} (h : zs[k]? = some z) : nextAt zs z k + shareN z ≤ 64 := by
 have hk := lt_of_some h
 have h1 := nextAt_step zs z k z h
 rw [if_pos rfl] at h1
 have h2 := (hz z (List.mem_of_getElem? h)).2
 have h3 := nextAt_lex zs (l := z) (m := 4) (k := k + 1) (j := 0) (by omega) (.inl (by omega))
 rw [nextAt_last (fun y hy => (hz y hy).2)] at h3
 omega
theorem lensB_mem {zs : List Int} (h : lensB zs = true) : ∀ z ∈ zs, 1 ≤ z ∧ z ≤ 3 := by
 intro z hz
 obtain ⟨k, hk⟩ := List.mem_iff_getElem?.1 hz
 exact lensB_at h k z hk
end Go.Proofs.YtedadhoneebfnaaDoor

/- Slices of strings: their cells. -/
namespace Go.Proofs.YtedadhoneebfnaaDoor
open Go.RowKit

def strs (ps : List ByteArray) : List Value := ps.map Value.string
theorem strs_at (ps : List ByteArray) (j : Nat) (s : ByteArray) (h : ps[j]? = some s) : (strs ps)[j]? = some (.string s) := by simp [strs, h]
def StLen (ps : List ByteArray) : Prop := ∀ (k : Nat) (s : ByteArray), ps[k]? = some s → s.size ≤ maxLen

end Go.Proofs.YtedadhoneebfnaaDoor
