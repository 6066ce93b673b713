/- Contracts of DeedText (program and reference). -/
import Derived.Test.YtedadhoneebfnaaDoorIa
import Derived.Test.YtedadhoneebfnaaDoorDig
set_option linter.unusedSimpArgs false
set_option linter.unusedVariables false
namespace Go.Proofs.YtedadhoneebfnaaDoor
open Go.RowKit

def numD (s : ByteArray) : Bool := (decide (1 ≤ s.size) && decide (s.size ≤ 3)) && digsB s
/-- The text of a deed; none if there is none. -/
def dtxt (k l : Int) (s : ByteArray) : ByteArray :=
  if l < 0 ∨ 99 < l then ByteArray.empty
  else if k = 1 then (if s.size = 0 then ⟨#[100, 114, 111, 112, 32]⟩ ++ two l.toNat else ByteArray.empty)
  else if numD s = false then ByteArray.empty
  else if k = 0 then ((⟨#[99, 97, 108, 108, 32]⟩ ++ two l.toNat) ++ ⟨#[32]⟩) ++ s
  else if k = 2 then ((⟨#[110, 117, 109, 98, 101, 114, 32]⟩ ++ two l.toNat) ++ ⟨#[32]⟩) ++ s
  else ByteArray.empty
theorem dtxt_far {k l : Int} {s : ByteArray} (h : l < 0 ∨ 99 < l) : dtxt k l s = ByteArray.empty := by unfold dtxt; rw [if_pos h]
theorem dtxt_in {k : Int} {n : Nat} {s : ByteArray} (h : n ≤ 99) : dtxt k n s = if k = 1 then (if s.size = 0 then ⟨#[100, 114, 111, 112, 32]⟩ ++ two n else ByteArray.empty)
  else if numD s = false then ByteArray.empty
  else if k = 0 then ((⟨#[99, 97, 108, 108, 32]⟩ ++ two n) ++ ⟨#[32]⟩) ++ s
  else if k = 2 then ((⟨#[110, 117, 109, 98, 101, 114, 32]⟩ ++ two n) ++ ⟨#[32]⟩) ++ s
  else ByteArray.empty := by unfold dtxt; rw [if_neg (by omega)]; rfl
theorem empty_of {s : ByteArray} (h : s.size = 0) : s = ByteArray.empty := by
  apply bytes_ext
  have : s.data.toList.length = 0 := by simpa using h
  rw [List.length_eq_zero_iff.1 this]; rfl
theorem some_of {s : ByteArray} (h : ¬ s.size = 0) : s.toList ≠ [] ∧ s.toList.isEmpty = false := by
  have h1 : s.toList ≠ [] := by
    intro e
    rw [ByteArray.toList_eq] at e
    exact h (by have := congrArg List.length e; simpa using this)
  exact ⟨h1, by cases hh : s.toList with | nil => exact absurd hh h1 | cons => rfl⟩

set_option maxRecDepth 100000 in
set_option maxHeartbeats 1000000 in
theorem iDeedText_any (k l : Int) (s : ByteArray) (w : World) (hs : s.size ≤ maxLen) :
    Calls Tryd.prog 13 #[.agg #[.int .i64 k, .int .i64 l, .string s]] w fun e w' => e = .returned (.string (dtxt k l s)) ∧ Below w.heap.size w w' := by
  by_cases h0 : l < 0
  · have HF := Lib.hid (dtxt_far (k := k) (s := s) (.inl h0))
    go_enter Tryd.func13, Tryd.ntmps13
    go_wp2
    go_returns
    exact ⟨by rw [HF.out]; rfl, by (repeat' (first | (with_reducible exact Below.refl _ _) | (with_reducible assumption) | (with_reducible refine Below.drew ?_) | (with_reducible refine below_drewN ?_ _) | (with_reducible refine Below.alloc ?_ ?_ _) | (with_reducible refine Below.setCell ?_ ?_ _) | (refine Below.trans ?_ (Below.mono (by assumption) (by first | omega | (with_reducible exact Below.size (by assumption)) | (simp; done) | (simp; omega)))) | (with_reducible exact Nat.le_refl _) | omega | (with_reducible exact Below.size (by assumption)) | (simp only [World.size_alloc, World.size_setCell, World.size_drew]; omega) | (simp; done) | (simp; omega)))⟩
  by_cases h9 : 99 < l
  · have HF := Lib.hid (dtxt_far (k := k) (s := s) (.inr h9))
    go_enter Tryd.func13, Tryd.ntmps13
    go_wp2
    go_returns
    exact ⟨by rw [HF.out]; rfl, by (repeat' (first | (with_reducible exact Below.refl _ _) | (with_reducible assumption) | (with_reducible refine Below.drew ?_) | (with_reducible refine below_drewN ?_ _) | (with_reducible refine Below.alloc ?_ ?_ _) | (with_reducible refine Below.setCell ?_ ?_ _) | (refine Below.trans ?_ (Below.mono (by assumption) (by first | omega | (with_reducible exact Below.size (by assumption)) | (simp; done) | (simp; omega)))) | (with_reducible exact Nat.le_refl _) | omega | (with_reducible exact Below.size (by assumption)) | (simp only [World.size_alloc, World.size_setCell, World.size_drew]; omega) | (simp; done) | (simp; omega)))⟩
  obtain ⟨n, rfl⟩ := Int.eq_ofNat_of_zero_le (show 0 ≤ l by omega)
  have hn : n ≤ 99 := by omega
  have HT := Lib.hid (dtxt_in (k := k) (s := s) hn)
  have ht2 : (two n).size ≤ 2 := two_size n
  have hs' := hs
  unfold maxLen at hs
  have hbel : Below w.heap.size w (w.alloc (.cells #[.int .i64 k, .int .i64 (n : Nat), .string s] 26)) := by (repeat' (first | (with_reducible exact Below.refl _ _) | (with_reducible assumption) | (with_reducible refine Below.drew ?_) | (with_reducible refine below_drewN ?_ _) | (with_reducible refine Below.alloc ?_ ?_ _) | (with_reducible refine Below.setCell ?_ ?_ _) | (refine Below.trans ?_ (Below.mono (by assumption) (by first | omega | (with_reducible exact Below.size (by assumption)) | (simp; done) | (simp; omega)))) | (with_reducible exact Nat.le_refl _) | omega | (with_reducible exact Below.size (by assumption)) | (simp only [World.size_alloc, World.size_setCell, World.size_drew]; omega) | (simp; done) | (simp; omega)))
  have hB := Blk.new (w := w) (cs := #[.int .i64 k, .int .i64 (n : Nat), .string s]) (T := 26) rfl
  obtain ⟨t1, t2, t3, _, _, _, tlt⟩ := hB.three
  by_cases hk1 : k = 1
  · by_cases hz : s.size = 0
    · have HV : Hid (dtxt k n s = ⟨#[100, 114, 111, 112, 32]⟩ ++ two n) := by unfold Hid; rw [HT.out, if_pos hk1, if_pos hz]
      clear HT
      obtain rfl := empty_of hz
      rw [show (ByteArray.empty : ByteArray) = ⟨#[]⟩ from rfl] at *
      subst hk1
      clear hz
      go_enter Tryd.func13, Tryd.ntmps13
      go_wp2_with fail
      refine (itoa_any n _ hn).mono ?_
      rintro e w1 ⟨rfl, rfl⟩
      go_wp2
      go_returns
      exact ⟨by rw [HV.out]; rfl, hbel⟩
    · have HV : Hid (dtxt k n s = ByteArray.empty) := by unfold Hid; rw [HT.out, if_pos hk1, if_neg hz]
      clear HT
      obtain ⟨hz1, hz2⟩ := some_of hz
      subst hk1
      clear hz
      go_enter Tryd.func13, Tryd.ntmps13
      go_wp2_with fail
      refine (itoa_any n _ hn).mono ?_
      rintro e w1 ⟨rfl, rfl⟩
      go_wp2
      go_returns
      exact ⟨by rw [HV.out]; rfl, hbel⟩
  · have hq1 : ((k : Int) == 1) = false := by simpa using hk1
    by_cases h1 : s.size < 1
    · have HF : Hid (dtxt k n s = ByteArray.empty) := by
        unfold Hid
        rw [HT.out, if_neg hk1, if_pos]
        simp [numD]; intro h; omega
      clear HT hk1
      go_enter Tryd.func13, Tryd.ntmps13
      go_wp2_with fail
      refine (itoa_any n _ hn).mono ?_
      rintro e w1 ⟨rfl, rfl⟩
      go_wp2
      go_returns
      exact ⟨by rw [HF.out]; rfl, hbel⟩
    by_cases h3 : 3 < s.size
    · have HF : Hid (dtxt k n s = ByteArray.empty) := by
        unfold Hid
        rw [HT.out, if_neg hk1, if_pos]
        simp [numD]; intro h h'; omega
      clear HT hk1
      go_enter Tryd.func13, Tryd.ntmps13
      go_wp2_with fail
      refine (itoa_any n _ hn).mono ?_
      rintro e w1 ⟨rfl, rfl⟩
      go_wp2
      go_returns
      exact ⟨by rw [HF.out]; rfl, hbel⟩
    obtain ⟨d, hd⟩ : ∃ d, digsB s = d := ⟨_, rfl⟩
    have HD : numD s = d := by
      have e1 : 1 ≤ s.size := by omega
      have e3 : s.size ≤ 3 := by omega
      simp [numD, hd, e1, e3]
    have hs3 : s.size ≤ 3 := by omega
    have HN : Hid (d = false → dtxt k n s = ByteArray.empty) := by
      unfold Hid; rintro rfl; rw [HT.out, if_neg hk1, if_pos HD]
    have H0 : Hid (d = true → k = 0 → dtxt k n s = ((⟨#[99, 97, 108, 108, 32]⟩ ++ two n) ++ ⟨#[32]⟩) ++ s) := by
      unfold Hid; rintro rfl h; rw [HT.out, if_neg hk1, if_neg (by rw [HD]; simp), if_pos h]
    have H2 : Hid (d = true → k = 2 → dtxt k n s = ((⟨#[110, 117, 109, 98, 101, 114, 32]⟩ ++ two n) ++ ⟨#[32]⟩) ++ s) := by
      unfold Hid; rintro rfl h; rw [HT.out, if_neg hk1, if_neg (by rw [HD]; simp), if_neg (by omega), if_pos h]
    have HE : Hid (d = true → k ≠ 0 → k ≠ 2 → dtxt k n s = ByteArray.empty) := by
      unfold Hid; rintro rfl h h'; rw [HT.out, if_neg hk1, if_neg (by rw [HD]; simp), if_neg h, if_neg h']
    have HDD := Lib.hid hd
    clear hd HD hk1 HT
    by_cases hk0 : k = 0
    · have H0' : Hid (d = true → dtxt k n s = ((⟨#[99, 97, 108, 108, 32]⟩ ++ two n) ++ ⟨#[32]⟩) ++ s) := fun h => H0.out h hk0
      clear H0 H2 HE
      subst hk0
      clear hq1
      go_enter Tryd.func13, Tryd.ntmps13
      go_wp2_with fail
      refine (itoa_any n _ hn).mono ?_
      rintro e w1 ⟨rfl, rfl⟩
      go_wp2_with fail
      refine (iDigitsOk_any s _ hs').mono ?_
      rintro e w1 ⟨rfl, rfl⟩
      rw [HDD.out]
      cases d
      · have HV := Lib.hid (HN.out rfl)
        clear HN H0'
        go_wp2
        go_returns
        exact ⟨by rw [HV.out]; rfl, hbel⟩
      · have HV := Lib.hid (H0'.out rfl)
        clear HN H0'
        go_wp2
        go_returns
        exact ⟨by rw [HV.out]; rfl, hbel⟩
    · have hq0 : ((k : Int) == 0) = false := by simpa using hk0
      by_cases hk2 : k = 2
      · have H2' : Hid (d = true → dtxt k n s = ((⟨#[110, 117, 109, 98, 101, 114, 32]⟩ ++ two n) ++ ⟨#[32]⟩) ++ s) := fun h => H2.out h hk2
        clear H0 H2 HE hk0
        subst hk2
        clear hq1 hq0
        go_enter Tryd.func13, Tryd.ntmps13
        go_wp2_with fail
        refine (itoa_any n _ hn).mono ?_
        rintro e w1 ⟨rfl, rfl⟩
        go_wp2_with fail
        refine (iDigitsOk_any s _ hs').mono ?_
        rintro e w1 ⟨rfl, rfl⟩
        rw [HDD.out]
        cases d
        · have HV := Lib.hid (HN.out rfl)
          clear HN H2'
          go_wp2
          go_returns
          exact ⟨by rw [HV.out]; rfl, hbel⟩
        · have HV := Lib.hid (H2'.out rfl)
          clear HN H2'
          go_wp2
          go_returns
          exact ⟨by rw [HV.out]; rfl, hbel⟩
      · have hq2 : ((k : Int) == 2) = false := by simpa using hk2
        have HE' : Hid (d = true → dtxt k n s = ByteArray.empty) := fun h => HE.out h hk0 hk2
        clear H0 H2 HE hk0 hk2
        go_enter Tryd.func13, Tryd.ntmps13
        go_wp2_with fail
        refine (itoa_any n _ hn).mono ?_
        rintro e w1 ⟨rfl, rfl⟩
        go_wp2_with fail
        refine (iDigitsOk_any s _ hs').mono ?_
        rintro e w1 ⟨rfl, rfl⟩
        rw [HDD.out]
        cases d
        · have HV := Lib.hid (HN.out rfl)
          clear HN HE'
          go_wp2
          go_returns
          exact ⟨by rw [HV.out]; rfl, hbel⟩
        · have HV := Lib.hid (HE'.out rfl)
          clear HN HE'
          go_wp2
          go_returns
          exact ⟨by rw [HV.out]; rfl, hbel⟩

end Go.Proofs.YtedadhoneebfnaaDoor
