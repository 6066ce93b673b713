/- Contracts on shapes (program and reference): ShapeValid, Enough, hasLine, l4Lines. -/
import Derived.Test.YtedadhoneebfnaaCc
import Derived.Test.YtedadhoneebfnaaIn
set_option linter.unusedSimpArgs false
set_option linter.unusedVariables false
namespace Go.Proofs.Ytedadhoneebfnaa
open Go.RowKit

/-- A shape as a value. -/
def shv (O E M : Int) : Value := .agg #[.int .i64 O, .int .i64 E, .int .i64 M]
def enoughB (O E M : Int) : Bool := shapeB O E M && decide (E ≤ M)

set_option maxHeartbeats 1000000 in
theorem iShapeValid_any (O E M : Int) (w : World) :
    Calls Try.prog 104 #[.agg #[.int .i64 O, .int .i64 E, .int .i64 M]] w fun e w' => e = .returned (.bool (shapeB O E M)) ∧ Below w.heap.size w w' := by
  go_enter Try.func104, Try.ntmps104
  go_wp2
  all_goals (go_ret; refine ⟨?_, by (repeat' (first | (with_reducible exact Below.refl _ _) | (with_reducible assumption) | (with_reducible refine Below.drew ?_) | (with_reducible refine below_drewN ?_ _) | (with_reducible refine Below.alloc ?_ ?_ _) | (with_reducible refine Below.setCell ?_ ?_ _) | (refine Below.trans ?_ (Below.mono (by assumption) (by first | omega | (with_reducible exact Below.size (by assumption)) | (simp; done) | (simp; omega)))) | (with_reducible exact Nat.le_refl _) | omega | (with_reducible exact Below.size (by assumption)) | (simp only [World.size_alloc, World.size_setCell, World.size_drew]; omega) | (simp; done) | (simp; omega)))⟩; congr 2; (simp [shapeB, *] <;> (intros; omega)))

set_option maxHeartbeats 1000000 in
theorem sShapeValid_any (O E M : Int) (w : World) :
    Calls Try.prog 100 #[.agg #[.int .i64 O, .int .i64 E, .int .i64 M]] w fun e w' => e = .returned (.bool (shapeB O E M)) ∧ Below w.heap.size w w' := by
  have HS : Hid ((((decide (1 ≤ O) && decide (O ≤ 4)) && (decide (1 ≤ E) && decide (E ≤ 3))) && (decide (1 ≤ M) && decide (M ≤ 5))) = shapeB O E M) := rfl
  go_enter Try.func100, Try.ntmps100
  go_wp2_with fail
  refine (sIn_any _ _ _ _).mono ?_
  rintro e w1 ⟨rfl, rfl⟩
  obtain ⟨d1, hd1⟩ : ∃ d, (decide (1 ≤ O) && decide (O ≤ 4)) = d := ⟨_, rfl⟩
  have HS1 : Hid (((d1 && (decide (1 ≤ E) && decide (E ≤ 3))) && (decide (1 ≤ M) && decide (M ≤ 5))) = shapeB O E M) := by rw [← hd1]; exact HS.out
  rw [hd1]
  clear hd1 HS
  cases d1
  · go_wp2
    go_returns
    exact ⟨by rw [← HS1.out]; rfl, by (repeat' (first | (with_reducible exact Below.refl _ _) | (with_reducible assumption) | (with_reducible refine Below.drew ?_) | (with_reducible refine below_drewN ?_ _) | (with_reducible refine Below.alloc ?_ ?_ _) | (with_reducible refine Below.setCell ?_ ?_ _) | (refine Below.trans ?_ (Below.mono (by assumption) (by first | omega | (with_reducible exact Below.size (by assumption)) | (simp; done) | (simp; omega)))) | (with_reducible exact Nat.le_refl _) | omega | (with_reducible exact Below.size (by assumption)) | (simp only [World.size_alloc, World.size_setCell, World.size_drew]; omega) | (simp; done) | (simp; omega)))⟩
  · go_wp2_with fail
    refine (sIn_any _ _ _ _).mono ?_
    rintro e w1 ⟨rfl, rfl⟩
    obtain ⟨d1, hd1⟩ : ∃ d, (decide (1 ≤ E) && decide (E ≤ 3)) = d := ⟨_, rfl⟩
    have HS2 : Hid (((true && d1) && (decide (1 ≤ M) && decide (M ≤ 5))) = shapeB O E M) := by rw [← hd1]; exact HS1.out
    rw [hd1]
    clear hd1 HS1
    cases d1
    · go_wp2
      go_returns
      exact ⟨by rw [← HS2.out]; rfl, by (repeat' (first | (with_reducible exact Below.refl _ _) | (with_reducible assumption) | (with_reducible refine Below.drew ?_) | (with_reducible refine below_drewN ?_ _) | (with_reducible refine Below.alloc ?_ ?_ _) | (with_reducible refine Below.setCell ?_ ?_ _) | (refine Below.trans ?_ (Below.mono (by assumption) (by first | omega | (with_reducible exact Below.size (by assumption)) | (simp; done) | (simp; omega)))) | (with_reducible exact Nat.le_refl _) | omega | (with_reducible exact Below.size (by assumption)) | (simp only [World.size_alloc, World.size_setCell, World.size_drew]; omega) | (simp; done) | (simp; omega)))⟩
    · go_wp2_with fail
      refine (sIn_any _ _ _ _).mono ?_
      rintro e w1 ⟨rfl, rfl⟩
      have HS3 : Hid ((decide (1 ≤ M) && decide (M ≤ 5)) = shapeB O E M) := by have := HS2.out; unfold Hid; simpa using this
      rw [HS3.out]
      clear HS2
      go_wp2
      go_returns
      exact ⟨rfl, by (repeat' (first | (with_reducible exact Below.refl _ _) | (with_reducible assumption) | (with_reducible refine Below.drew ?_) | (with_reducible refine below_drewN ?_ _) | (with_reducible refine Below.alloc ?_ ?_ _) | (with_reducible refine Below.setCell ?_ ?_ _) | (refine Below.trans ?_ (Below.mono (by assumption) (by first | omega | (with_reducible exact Below.size (by assumption)) | (simp; done) | (simp; omega)))) | (with_reducible exact Nat.le_refl _) | omega | (with_reducible exact Below.size (by assumption)) | (simp only [World.size_alloc, World.size_setCell, World.size_drew]; omega) | (simp; done) | (simp; omega)))⟩

set_option maxHeartbeats 1000000 in
theorem iEnough_any (O E M : Int) (w : World) :
    Calls Try.prog 68 #[.agg #[.int .i64 O, .int .i64 E, .int .i64 M]] w fun e w' => e = .returned (.bool (enoughB O E M)) ∧ Below w.heap.size w w' := by
  have hB := Blk.new (w := w) (cs := #[.int .i64 O, .int .i64 E, .int .i64 M]) (T := 30) rfl
  obtain ⟨d, hd⟩ : ∃ d, shapeB O E M = d := ⟨_, rfl⟩
  have HD := Lib.hid hd
  clear hd
  go_enter Try.func68, Try.ntmps68
  go_wp2_with fail
  refine (iShapeValid_any _ _ _ _).mono ?_
  rintro e w1 ⟨rfl, hb⟩
  have hB1 := hB.below hb (by simp)
  obtain ⟨c1, c2, c3, f1, f2, f3, hlt⟩ := hB1.three
  rw [HD.out]
  have hbel : Below w.heap.size w w1 := by (repeat' (first | (with_reducible exact Below.refl _ _) | (with_reducible assumption) | (with_reducible refine Below.drew ?_) | (with_reducible refine below_drewN ?_ _) | (with_reducible refine Below.alloc ?_ ?_ _) | (with_reducible refine Below.setCell ?_ ?_ _) | (refine Below.trans ?_ (Below.mono (by assumption) (by first | omega | (with_reducible exact Below.size (by assumption)) | (simp; done) | (simp; omega)))) | (with_reducible exact Nat.le_refl _) | omega | (with_reducible exact Below.size (by assumption)) | (simp only [World.size_alloc, World.size_setCell, World.size_drew]; omega) | (simp; done) | (simp; omega)))
  clear hB hB1
  cases d
  · have HF : Hid (enoughB O E M = false) := by simp [Hid, enoughB, HD.out]
    go_wp2
    go_returns
    exact ⟨by rw [HF.out]; rfl, hbel⟩
  · have HF : Hid (enoughB O E M = decide (E ≤ M)) := by simp [Hid, enoughB, HD.out]
    go_wp2
    go_returns
    exact ⟨by rw [HF.out]; rfl, hbel⟩
set_option maxHeartbeats 1000000 in
theorem sEnough_any (O E M : Int) (w : World) :
    Calls Try.prog 63 #[.agg #[.int .i64 O, .int .i64 E, .int .i64 M]] w fun e w' => e = .returned (.bool (enoughB O E M)) ∧ Below w.heap.size w w' := by
  have hB := Blk.new (w := w) (cs := #[.int .i64 O, .int .i64 E, .int .i64 M]) (T := 30) rfl
  obtain ⟨d, hd⟩ : ∃ d, shapeB O E M = d := ⟨_, rfl⟩
  have HD := Lib.hid hd
  clear hd
  go_enter Try.func63, Try.ntmps63
  go_wp2_with fail
  refine (sShapeValid_any _ _ _ _).mono ?_
  rintro e w1 ⟨rfl, hb⟩
  have hB1 := hB.below hb (by simp)
  obtain ⟨c1, c2, c3, f1, f2, f3, hlt⟩ := hB1.three
  rw [HD.out]
  have hbel : Below w.heap.size w w1 := by (repeat' (first | (with_reducible exact Below.refl _ _) | (with_reducible assumption) | (with_reducible refine Below.drew ?_) | (with_reducible refine below_drewN ?_ _) | (with_reducible refine Below.alloc ?_ ?_ _) | (with_reducible refine Below.setCell ?_ ?_ _) | (refine Below.trans ?_ (Below.mono (by assumption) (by first | omega | (with_reducible exact Below.size (by assumption)) | (simp; done) | (simp; omega)))) | (with_reducible exact Nat.le_refl _) | omega | (with_reducible exact Below.size (by assumption)) | (simp only [World.size_alloc, World.size_setCell, World.size_drew]; omega) | (simp; done) | (simp; omega)))
  clear hB hB1
  cases d
  · have HF : Hid (enoughB O E M = false) := by simp [Hid, enoughB, HD.out]
    go_wp2
    go_returns
    exact ⟨by rw [HF.out]; rfl, hbel⟩
  · have HF : Hid (enoughB O E M = decide (E ≤ M)) := by simp [Hid, enoughB, HD.out]
    go_wp2
    go_returns
    exact ⟨by rw [HF.out]; rfl, hbel⟩

set_option maxHeartbeats 1000000 in
theorem hasLine_any (O E M x : Int) (w : World) (h : ShapeOk O E M) :
    Calls Try.prog 106 #[.agg #[.int .i64 O, .int .i64 E, .int .i64 M], .int .i64 x] w fun e w' => e = .returned (.bool (lnB (O * E) x)) ∧ Below w.heap.size w w' := by
  have ho := h.o
  have he := h.e
  have hm0 : 0 ≤ O * E := Int.mul_nonneg (by omega) (by omega)
  have hm1 : O * E ≤ 4 * 3 := Int.le_trans (Int.mul_le_mul_of_nonneg_right ho.2 (by omega)) (Int.mul_le_mul_of_nonneg_left he.2 (by omega))
  have hw : IntKind.i64.wrap (O * E) = O * E := IntWalk.i64_in _ (by omega)
  clear h hm0 hm1
  go_enter Try.func106, Try.ntmps106
  go_wp2
  all_goals (go_ret; refine ⟨?_, by (repeat' (first | (with_reducible exact Below.refl _ _) | (with_reducible assumption) | (with_reducible refine Below.drew ?_) | (with_reducible refine below_drewN ?_ _) | (with_reducible refine Below.alloc ?_ ?_ _) | (with_reducible refine Below.setCell ?_ ?_ _) | (refine Below.trans ?_ (Below.mono (by assumption) (by first | omega | (with_reducible exact Below.size (by assumption)) | (simp; done) | (simp; omega)))) | (with_reducible exact Nat.le_refl _) | omega | (with_reducible exact Below.size (by assumption)) | (simp only [World.size_alloc, World.size_setCell, World.size_drew]; omega) | (simp; done) | (simp; omega)))⟩; congr 2; (simp [lnB, *] <;> (intros; omega)))

set_option maxHeartbeats 1000000 in
theorem l4Lines_any (O E M : Int) (w : World) (h : ShapeOk O E M) :
    Calls Try.prog 65 #[.agg #[.int .i64 O, .int .i64 E, .int .i64 M]] w fun e w' => e = .returned (.int .i64 (O * E)) ∧ Below w.heap.size w w' := by
  have ho := h.o
  have he := h.e
  have hm0 : 0 ≤ O * E := Int.mul_nonneg (by omega) (by omega)
  have hm1 : O * E ≤ 4 * 3 := Int.le_trans (Int.mul_le_mul_of_nonneg_right ho.2 (by omega)) (Int.mul_le_mul_of_nonneg_left he.2 (by omega))
  have hw : IntKind.i64.wrap (O * E) = O * E := IntWalk.i64_in _ (by omega)
  clear h hm0 hm1
  go_enter Try.func65, Try.ntmps65
  go_wp2
  go_returns
  exact ⟨rfl, by (repeat' (first | (with_reducible exact Below.refl _ _) | (with_reducible assumption) | (with_reducible refine Below.drew ?_) | (with_reducible refine below_drewN ?_ _) | (with_reducible refine Below.alloc ?_ ?_ _) | (with_reducible refine Below.setCell ?_ ?_ _) | (refine Below.trans ?_ (Below.mono (by assumption) (by first | omega | (with_reducible exact Below.size (by assumption)) | (simp; done) | (simp; omega)))) | (with_reducible exact Nat.le_refl _) | omega | (with_reducible exact Below.size (by assumption)) | (simp only [World.size_alloc, World.size_setCell, World.size_drew]; omega) | (simp; done) | (simp; omega)))⟩

end Go.Proofs.Ytedadhoneebfnaa
