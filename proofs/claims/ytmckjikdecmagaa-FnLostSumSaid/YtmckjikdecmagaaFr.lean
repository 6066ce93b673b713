/- Contracts of FracValid, FracLess (program and reference), toFrac, eqFrac. -/
import Derived.Test.YtmckjikdecmagaaPl7
import Derived.Test.YtmckjikdecmagaaLib
import Derived.Test.YtmckjikdecmagaaRows
import Derived.Handy
set_option linter.unusedSimpArgs false
set_option linter.unusedVariables false
namespace Go.Proofs.Ytmckjikdecmagaa
open Go.RowKit

set_option maxHeartbeats 400000 in
theorem sIn_any (x lo hi : Int) (w : World) :
    Calls Try.prog 46 #[.int .i64 x, .int .i64 lo, .int .i64 hi] w fun e w' => e = .returned (.bool (decide (lo ≤ x) && decide (x ≤ hi))) ∧ w = w' := by
  go_enter Try.func46, Try.ntmps46
  go_wp2
  all_goals
    go_returns
    refine ⟨?_, rfl⟩
    congr 2
    first | (simp; done) | (simp; omega) | (simp_all; done) | (simp_all; omega)

set_option maxHeartbeats 400000 in
theorem iFracValid_any (n d : Int) (w : World) :
    Calls Try.prog 19 #[.agg #[.int .i64 n, .int .i64 d]] w fun e w' => e = .returned (.bool (fracValidB n d)) ∧ w.alloc (.cells #[.int .i64 n, .int .i64 d] 25) = w' := by
  go_enter Try.func19, Try.ntmps19
  go_wp2
  all_goals (go_ret; refine ⟨?_, rfl⟩; congr 2; simp [fracValidB]; omega)

set_option maxHeartbeats 400000 in
theorem iFracLess_any (a b c d : Int) (w : World) :
    Calls Try.prog 21 #[.agg #[.int .i64 a, .int .i64 b], .agg #[.int .i64 c, .int .i64 d]] w fun e w' => e = .returned (.bool (fracLessB a b c d)) ∧ Below w.heap.size w w' := by
  by_cases h1 : fracValidB a b = true
  · by_cases h2 : fracValidB c d = true
    · obtain ⟨a1, a2, b1, b2⟩ := (fracValidB_iff _ _).1 h1
      obtain ⟨c1, c2, d1, d2⟩ := (fracValidB_iff _ _).1 h2
      obtain ⟨m1, m2⟩ := mul_small a d a1 a2 (by omega) d2
      obtain ⟨m3, m4⟩ := mul_small c b c1 c2 (by omega) b2
      go_enter Try.func21, Try.ntmps21
      go_wp2_with fail
      refine ((iFracValid_any _ _ _).mono ?_); rintro e w1 ⟨rfl, rfl⟩
      go_wp2_with fail
      refine ((iFracValid_any _ _ _).mono ?_); rintro e w1 ⟨rfl, rfl⟩
      go_wp2
      all_goals
        go_returns
        refine ⟨?_, by (repeat' (first | (with_reducible exact Below.refl _ _) | (with_reducible assumption) | (with_reducible refine Below.drew ?_) | (with_reducible refine below_drewN ?_ _) | (with_reducible refine Below.alloc ?_ ?_ _) | (with_reducible refine Below.setCell ?_ ?_ _) | (refine Below.trans ?_ (Below.mono (by assumption) (by first | omega | (with_reducible exact Below.size (by assumption)) | (simp; done) | (simp; omega)))) | (with_reducible exact Nat.le_refl _) | omega | (with_reducible exact Below.size (by assumption)) | (simp only [World.size_alloc, World.size_setCell, World.size_drew]; omega) | (simp; done) | (simp; omega)))⟩
        simp [fracLessB, h1, h2, *]
    · have h2' : fracValidB c d = false := by simpa using h2
      go_enter Try.func21, Try.ntmps21
      go_wp2_with fail
      refine ((iFracValid_any _ _ _).mono ?_); rintro e w1 ⟨rfl, rfl⟩
      go_wp2_with fail
      refine ((iFracValid_any _ _ _).mono ?_); rintro e w1 ⟨rfl, rfl⟩
      go_wp2
      go_returns
      refine ⟨?_, by (repeat' (first | (with_reducible exact Below.refl _ _) | (with_reducible assumption) | (with_reducible refine Below.drew ?_) | (with_reducible refine below_drewN ?_ _) | (with_reducible refine Below.alloc ?_ ?_ _) | (with_reducible refine Below.setCell ?_ ?_ _) | (refine Below.trans ?_ (Below.mono (by assumption) (by first | omega | (with_reducible exact Below.size (by assumption)) | (simp; done) | (simp; omega)))) | (with_reducible exact Nat.le_refl _) | omega | (with_reducible exact Below.size (by assumption)) | (simp only [World.size_alloc, World.size_setCell, World.size_drew]; omega) | (simp; done) | (simp; omega)))⟩
      simp [fracLessB, h2']
  · have h1' : fracValidB a b = false := by simpa using h1
    go_enter Try.func21, Try.ntmps21
    go_wp2_with fail
    refine ((iFracValid_any _ _ _).mono ?_); rintro e w1 ⟨rfl, rfl⟩
    go_wp2
    go_returns
    refine ⟨?_, by (repeat' (first | (with_reducible exact Below.refl _ _) | (with_reducible assumption) | (with_reducible refine Below.drew ?_) | (with_reducible refine below_drewN ?_ _) | (with_reducible refine Below.alloc ?_ ?_ _) | (with_reducible refine Below.setCell ?_ ?_ _) | (refine Below.trans ?_ (Below.mono (by assumption) (by first | omega | (with_reducible exact Below.size (by assumption)) | (simp; done) | (simp; omega)))) | (with_reducible exact Nat.le_refl _) | omega | (with_reducible exact Below.size (by assumption)) | (simp only [World.size_alloc, World.size_setCell, World.size_drew]; omega) | (simp; done) | (simp; omega)))⟩
    simp [fracLessB, h1']
set_option maxHeartbeats 400000 in
theorem sFracValid_any (n d : Int) (w : World) :
    Calls Try.prog 17 #[.agg #[.int .i64 n, .int .i64 d]] w fun e w' => e = .returned (.bool (fracValidB n d)) ∧ w.alloc (.cells #[.int .i64 n, .int .i64 d] 25) = w' := by
  go_enter Try.func17, Try.ntmps17
  go_wp2
  all_goals (go_ret; refine ⟨?_, rfl⟩; congr 2; simp [fracValidB]; omega)

set_option maxHeartbeats 400000 in
theorem sFracLess_any (a b c d : Int) (w : World) :
    Calls Try.prog 20 #[.agg #[.int .i64 a, .int .i64 b], .agg #[.int .i64 c, .int .i64 d]] w fun e w' => e = .returned (.bool (fracLessB a b c d)) ∧ Below w.heap.size w w' := by
  by_cases h1 : fracValidB a b = true
  · by_cases h2 : fracValidB c d = true
    · obtain ⟨a1, a2, b1, b2⟩ := (fracValidB_iff _ _).1 h1
      obtain ⟨c1, c2, d1, d2⟩ := (fracValidB_iff _ _).1 h2
      obtain ⟨m1, m2⟩ := mul_small a d a1 a2 (by omega) d2
      obtain ⟨m3, m4⟩ := mul_small c b c1 c2 (by omega) b2
      go_enter Try.func20, Try.ntmps20
      go_wp2_with fail
      refine ((sFracValid_any _ _ _).mono ?_); rintro e w1 ⟨rfl, rfl⟩
      go_wp2_with fail
      refine ((sFracValid_any _ _ _).mono ?_); rintro e w1 ⟨rfl, rfl⟩
      go_wp2
      all_goals
        go_returns
        refine ⟨?_, by (repeat' (first | (with_reducible exact Below.refl _ _) | (with_reducible assumption) | (with_reducible refine Below.drew ?_) | (with_reducible refine below_drewN ?_ _) | (with_reducible refine Below.alloc ?_ ?_ _) | (with_reducible refine Below.setCell ?_ ?_ _) | (refine Below.trans ?_ (Below.mono (by assumption) (by first | omega | (with_reducible exact Below.size (by assumption)) | (simp; done) | (simp; omega)))) | (with_reducible exact Nat.le_refl _) | omega | (with_reducible exact Below.size (by assumption)) | (simp only [World.size_alloc, World.size_setCell, World.size_drew]; omega) | (simp; done) | (simp; omega)))⟩
        simp [fracLessB, h1, h2, *]
    · have h2' : fracValidB c d = false := by simpa using h2
      go_enter Try.func20, Try.ntmps20
      go_wp2_with fail
      refine ((sFracValid_any _ _ _).mono ?_); rintro e w1 ⟨rfl, rfl⟩
      go_wp2_with fail
      refine ((sFracValid_any _ _ _).mono ?_); rintro e w1 ⟨rfl, rfl⟩
      go_wp2
      go_returns
      refine ⟨?_, by (repeat' (first | (with_reducible exact Below.refl _ _) | (with_reducible assumption) | (with_reducible refine Below.drew ?_) | (with_reducible refine below_drewN ?_ _) | (with_reducible refine Below.alloc ?_ ?_ _) | (with_reducible refine Below.setCell ?_ ?_ _) | (refine Below.trans ?_ (Below.mono (by assumption) (by first | omega | (with_reducible exact Below.size (by assumption)) | (simp; done) | (simp; omega)))) | (with_reducible exact Nat.le_refl _) | omega | (with_reducible exact Below.size (by assumption)) | (simp only [World.size_alloc, World.size_setCell, World.size_drew]; omega) | (simp; done) | (simp; omega)))⟩
      simp [fracLessB, h2']
  · have h1' : fracValidB a b = false := by simpa using h1
    go_enter Try.func20, Try.ntmps20
    go_wp2_with fail
    refine ((sFracValid_any _ _ _).mono ?_); rintro e w1 ⟨rfl, rfl⟩
    go_wp2
    go_returns
    refine ⟨?_, by (repeat' (first | (with_reducible exact Below.refl _ _) | (with_reducible assumption) | (with_reducible refine Below.drew ?_) | (with_reducible refine below_drewN ?_ _) | (with_reducible refine Below.alloc ?_ ?_ _) | (with_reducible refine Below.setCell ?_ ?_ _) | (refine Below.trans ?_ (Below.mono (by assumption) (by first | omega | (with_reducible exact Below.size (by assumption)) | (simp; done) | (simp; omega)))) | (with_reducible exact Nat.le_refl _) | omega | (with_reducible exact Below.size (by assumption)) | (simp only [World.size_alloc, World.size_setCell, World.size_drew]; omega) | (simp; done) | (simp; omega)))⟩
    simp [fracLessB, h1']

set_option maxHeartbeats 400000 in
theorem toFrac_any (n d : Int) (w : World) :
    Calls Try.prog 18 #[.agg #[.int .i64 n, .int .i64 d]] w fun e w' => e = .returned (.agg #[.int .i64 n, .int .i64 d]) ∧ ((w.alloc (.cells #[.int .i64 n, .int .i64 d] 23)).alloc (.cells #[.int .i64 n, .int .i64 d] 25)).alloc (.cells #[.int .i64 n, .int .i64 d] 25) = w' := by
  go_enter Try.func18, Try.ntmps18
  go_wp2
  go_returns
  exact ⟨rfl, rfl⟩

set_option maxHeartbeats 400000 in
theorem eqFrac_any (a b c d : Int) (w : World) :
    Calls Try.prog 26 #[.agg #[.int .i64 a, .int .i64 b], .agg #[.int .i64 c, .int .i64 d]] w fun e w' => e = .returned (.bool (decide (a = c ∧ b = d))) ∧ Below w.heap.size w w' := by
  go_enter Try.func26, Try.ntmps26
  go_wp2
  all_goals
    go_returns
    refine ⟨?_, by (repeat' (first | (with_reducible exact Below.refl _ _) | (with_reducible assumption) | (with_reducible refine Below.drew ?_) | (with_reducible refine below_drewN ?_ _) | (with_reducible refine Below.alloc ?_ ?_ _) | (with_reducible refine Below.setCell ?_ ?_ _) | (refine Below.trans ?_ (Below.mono (by assumption) (by first | omega | (with_reducible exact Below.size (by assumption)) | (simp; done) | (simp; omega)))) | (with_reducible exact Nat.le_refl _) | omega | (with_reducible exact Below.size (by assumption)) | (simp only [World.size_alloc, World.size_setCell, World.size_drew]; omega) | (simp; done) | (simp; omega)))⟩
    congr 2
    simp_all

end Go.Proofs.Ytmckjikdecmagaa
