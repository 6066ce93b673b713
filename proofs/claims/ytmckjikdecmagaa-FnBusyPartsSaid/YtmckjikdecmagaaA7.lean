/- The walks of the exact laws of the chapter on blocking. -/
import Derived.Test.YtmckjikdecmagaaTr
import Derived.Deep.RegionHeld3
set_option linter.unusedSimpArgs false
set_option linter.unusedVariables false
namespace Go.Proofs.Ytmckjikdecmagaa
open Go.RowKit

set_option maxHeartbeats 400000 in
theorem exFracValid (a b : Int) (w : World) :
    Calls Try.prog 3 #[.agg #[.int .i64 a, .int .i64 b]] w fun e w' => e = .returned (.bool true) ∧ Below w.heap.size w w' := by
  go_enter Try.func3, Try.ntmps3
  go_wp2_with (first
    | (go_at_call 18; refine (toFrac_any _ _ _).mono ?_; rintro e w1 ⟨rfl, rfl⟩)
    | (go_at_call 17; refine (sFracValid_any _ _ _).mono ?_; rintro e w2 ⟨rfl, rfl⟩)
    | (go_at_call 19; refine (iFracValid_any _ _ _).mono ?_; rintro e w2 ⟨rfl, rfl⟩))
  go_returns
  exact ⟨rfl, by (repeat' (first | (with_reducible exact Below.refl _ _) | (with_reducible assumption) | (with_reducible refine Below.drew ?_) | (with_reducible refine below_drewN ?_ _) | (with_reducible refine Below.alloc ?_ ?_ _) | (with_reducible refine Below.setCell ?_ ?_ _) | (refine Below.trans ?_ (Below.mono (by assumption) (by first | omega | (with_reducible exact Below.size (by assumption)) | (simp; done) | (simp; omega)))) | (with_reducible exact Nat.le_refl _) | omega | (with_reducible exact Below.size (by assumption)) | (simp only [World.size_alloc, World.size_setCell, World.size_drew]; omega) | (simp; done) | (simp; omega)))⟩

set_option maxHeartbeats 1000000 in
theorem exFracLess (a b c d : Int) (w : World) :
    Calls Try.prog 4 #[.agg #[.int .i64 a, .int .i64 b], .agg #[.int .i64 c, .int .i64 d]] w fun e w' => e = .returned (.bool true) ∧ Below w.heap.size w w' := by
  go_enter Try.func4, Try.ntmps4
  go_wp2_with fail
  go_region_held3 (fun w' => w'.cell? ⟨w.heap.size, 0, none⟩ = some (.int .i64 a) ∧ w'.cell? ⟨w.heap.size, 1, none⟩ = some (.int .i64 b) ∧ w'.cell? ⟨w.heap.size + 1, 0, none⟩ = some (.int .i64 c) ∧ w'.cell? ⟨w.heap.size + 1, 1, none⟩ = some (.int .i64 d)) ((repeat' (first | (with_reducible assumption) | (with_reducible apply And.intro) | (with_reducible apply keep_drew) | (with_reducible apply keep_drewN) | (simp [go_sem, World.cell?_alloc_past]; done) | (simp [*]; done) | (with_reducible apply keep_other (by first | (simp; done) | (simp; omega) | omega)) | (with_reducible apply keep_below (by assumption)) | (with_reducible apply keep_alloc))))
    (first
      | (go_at_call 18; refine (toFrac_any _ _ _).mono ?_; rintro e w' ⟨rfl, rfl⟩)
      | (go_at_call 20; refine (sFracLess_any _ _ _ _ _).mono ?_; rintro e w1 ⟨rfl, hb⟩))
  have hz1 := hb.size
  simp only [World.size_alloc, World.size_drew] at hz1
  have hbel1 : Below w.heap.size w w1 := by (repeat' (first | (with_reducible exact Below.refl _ _) | (with_reducible assumption) | (with_reducible refine Below.drew ?_) | (with_reducible refine below_drewN ?_ _) | (with_reducible refine Below.alloc ?_ ?_ _) | (with_reducible refine Below.setCell ?_ ?_ _) | (refine Below.trans ?_ (Below.mono (by assumption) (by first | omega | (with_reducible exact Below.size (by assumption)) | (simp; done) | (simp; omega)))) | (with_reducible exact Nat.le_refl _) | omega | (with_reducible exact Below.size (by assumption)) | (simp only [World.size_alloc, World.size_setCell, World.size_drew]; omega) | (simp; done) | (simp; omega)))
  clear hb
  have hh : w1.cell? ⟨w.heap.size, 0, none⟩ = some (.int .i64 a) ∧ w1.cell? ⟨w.heap.size, 1, none⟩ = some (.int .i64 b) ∧ w1.cell? ⟨w.heap.size + 1, 0, none⟩ = some (.int .i64 c) ∧ w1.cell? ⟨w.heap.size + 1, 1, none⟩ = some (.int .i64 d) := by assumption
  obtain ⟨k0, k1, k2, k3⟩ := hh
  go_wp2_with fail
  go_region_held3 (fun w' => w'.cell? ⟨w.heap.size, 0, none⟩ = some (.int .i64 a) ∧ w'.cell? ⟨w.heap.size, 1, none⟩ = some (.int .i64 b) ∧ w'.cell? ⟨w.heap.size + 1, 0, none⟩ = some (.int .i64 c) ∧ w'.cell? ⟨w.heap.size + 1, 1, none⟩ = some (.int .i64 d)) ((repeat' (first | (with_reducible assumption) | (with_reducible apply And.intro) | (with_reducible apply keep_drew) | (with_reducible apply keep_drewN) | (simp [go_sem, World.cell?_alloc_past]; done) | (simp [*]; done) | (with_reducible apply keep_other (by first | (simp; done) | (simp; omega) | omega)) | (with_reducible apply keep_below (by assumption)) | (with_reducible apply keep_alloc))))
    (first
      | (go_at_call 18; refine (toFrac_any _ _ _).mono ?_; rintro e w' ⟨rfl, rfl⟩)
      | (go_at_call 21; refine (iFracLess_any _ _ _ _ _).mono ?_; rintro e w2 ⟨rfl, hb⟩))
  have hz2 := hb.size
  have hbel2 : Below w.heap.size w w2 := by (repeat' (first | (with_reducible exact Below.refl _ _) | (with_reducible assumption) | (with_reducible refine Below.drew ?_) | (with_reducible refine below_drewN ?_ _) | (with_reducible refine Below.alloc ?_ ?_ _) | (with_reducible refine Below.setCell ?_ ?_ _) | (refine Below.trans ?_ (Below.mono (by assumption) (by first | omega | (with_reducible exact Below.size (by assumption)) | (simp; done) | (simp; omega)))) | (with_reducible exact Nat.le_refl _) | omega | (with_reducible exact Below.size (by assumption)) | (simp only [World.size_alloc, World.size_setCell, World.size_drew]; omega) | (simp; done) | (simp; omega)))
  clear hb
  go_wp2
  go_returns
  exact ⟨rfl, hbel2⟩

set_option maxHeartbeats 1000000 in
theorem exFnExactLostPart (l t : Int) (w : World) (hl : (Lit.int .i64 l).wf = true) (ht : (Lit.int .i64 t).wf = true) :
    Calls Try.prog 6 #[.int .i64 l, .int .i64 t] w fun e w' => e = .returned (.bool true) ∧ Below w.heap.size w w' := by
  clear hl ht
  go_enter Try.func6, Try.ntmps6
  go_wp2_with fail
  refine (sLostPart_any _ _ _).mono ?_
  rintro e w1 ⟨rfl, hb1⟩
  have hz1 := hb1.size
  obtain ⟨n, hn⟩ : ∃ n, lostN l t = n := ⟨_, rfl⟩
  obtain ⟨d, hd⟩ : ∃ d, lostD l t = d := ⟨_, rfl⟩
  obtain ⟨o, ho⟩ : ∃ o, loadOk l t = o := ⟨_, rfl⟩
  have HN := Lib.hid hn
  have HD := Lib.hid hd
  have HO := Lib.hid ho
  rw [hn, hd, ho]
  clear hn hd ho
  have hB1 := Blk.new (w := w1) (cs := #[.int .i64 n, .int .i64 d]) (T := 25) rfl
  go_wp2_with fail
  refine (iLostPart_any _ _ _).mono ?_
  rintro e w2 ⟨rfl, hb2⟩
  rw [HN.out, HD.out, HO.out]
  have hz2 := hb2.size
  have hB2 := Blk.belowAll hB1 hb2
  have hbel2 : Below w.heap.size w w2 := by (repeat' (first | (with_reducible exact Below.refl _ _) | (with_reducible assumption) | (with_reducible refine Below.drew ?_) | (with_reducible refine below_drewN ?_ _) | (with_reducible refine Below.alloc ?_ ?_ _) | (with_reducible refine Below.setCell ?_ ?_ _) | (refine Below.trans ?_ (Below.mono (by assumption) (by first | omega | (with_reducible exact Below.size (by assumption)) | (simp; done) | (simp; omega)))) | (with_reducible exact Nat.le_refl _) | omega | (with_reducible exact Below.size (by assumption)) | (simp only [World.size_alloc, World.size_setCell, World.size_drew]; omega) | (simp; done) | (simp; omega)))
  obtain ⟨c0, c1, f0, f1, l1⟩ := hB2.two
  clear hb2 hz2
  go_wp2_with fail
  refine (eqFrac_any _ _ _ _ _).mono ?_
  rintro e w3 ⟨rfl, hb3⟩
  have hz3 := hb3.size
  have hbel3 : Below w.heap.size w w3 := by (repeat' (first | (with_reducible exact Below.refl _ _) | (with_reducible assumption) | (with_reducible refine Below.drew ?_) | (with_reducible refine below_drewN ?_ _) | (with_reducible refine Below.alloc ?_ ?_ _) | (with_reducible refine Below.setCell ?_ ?_ _) | (refine Below.trans ?_ (Below.mono (by assumption) (by first | omega | (with_reducible exact Below.size (by assumption)) | (simp; done) | (simp; omega)))) | (with_reducible exact Nat.le_refl _) | omega | (with_reducible exact Below.size (by assumption)) | (simp only [World.size_alloc, World.size_setCell, World.size_drew]; omega) | (simp; done) | (simp; omega)))
  have hd : decide (n = n ∧ d = d) = true := by simp
  have ho : (o != o) = false := by cases o <;> rfl
  rw [hd]
  clear hd hb3
  cases o
  all_goals
    go_wp2
    go_returns
    exact ⟨rfl, hbel3⟩
set_option maxHeartbeats 1000000 in
theorem exFnExactTakenLoad (l t : Int) (w : World) (hl : (Lit.int .i64 l).wf = true) (ht : (Lit.int .i64 t).wf = true) :
    Calls Try.prog 9 #[.int .i64 l, .int .i64 t] w fun e w' => e = .returned (.bool true) ∧ Below w.heap.size w w' := by
  clear hl ht
  go_enter Try.func9, Try.ntmps9
  go_wp2_with fail
  refine (sTaken_any _ _ _).mono ?_
  rintro e w1 ⟨rfl, hb1⟩
  have hz1 := hb1.size
  obtain ⟨n, hn⟩ : ∃ n, takenN l t = n := ⟨_, rfl⟩
  obtain ⟨d, hd⟩ : ∃ d, takenD l t = d := ⟨_, rfl⟩
  obtain ⟨o, ho⟩ : ∃ o, loadOk l t = o := ⟨_, rfl⟩
  have HN := Lib.hid hn
  have HD := Lib.hid hd
  have HO := Lib.hid ho
  rw [hn, hd, ho]
  clear hn hd ho
  have hB1 := Blk.new (w := w1) (cs := #[.int .i64 n, .int .i64 d]) (T := 25) rfl
  go_wp2_with fail
  refine (iTaken_any _ _ _).mono ?_
  rintro e w2 ⟨rfl, hb2⟩
  rw [HN.out, HD.out, HO.out]
  have hz2 := hb2.size
  have hB2 := Blk.belowAll hB1 hb2
  have hbel2 : Below w.heap.size w w2 := by (repeat' (first | (with_reducible exact Below.refl _ _) | (with_reducible assumption) | (with_reducible refine Below.drew ?_) | (with_reducible refine below_drewN ?_ _) | (with_reducible refine Below.alloc ?_ ?_ _) | (with_reducible refine Below.setCell ?_ ?_ _) | (refine Below.trans ?_ (Below.mono (by assumption) (by first | omega | (with_reducible exact Below.size (by assumption)) | (simp; done) | (simp; omega)))) | (with_reducible exact Nat.le_refl _) | omega | (with_reducible exact Below.size (by assumption)) | (simp only [World.size_alloc, World.size_setCell, World.size_drew]; omega) | (simp; done) | (simp; omega)))
  obtain ⟨c0, c1, f0, f1, l1⟩ := hB2.two
  clear hb2 hz2
  go_wp2_with fail
  refine (eqFrac_any _ _ _ _ _).mono ?_
  rintro e w3 ⟨rfl, hb3⟩
  have hz3 := hb3.size
  have hbel3 : Below w.heap.size w w3 := by (repeat' (first | (with_reducible exact Below.refl _ _) | (with_reducible assumption) | (with_reducible refine Below.drew ?_) | (with_reducible refine below_drewN ?_ _) | (with_reducible refine Below.alloc ?_ ?_ _) | (with_reducible refine Below.setCell ?_ ?_ _) | (refine Below.trans ?_ (Below.mono (by assumption) (by first | omega | (with_reducible exact Below.size (by assumption)) | (simp; done) | (simp; omega)))) | (with_reducible exact Nat.le_refl _) | omega | (with_reducible exact Below.size (by assumption)) | (simp only [World.size_alloc, World.size_setCell, World.size_drew]; omega) | (simp; done) | (simp; omega)))
  have hd : decide (n = n ∧ d = d) = true := by simp
  have ho : (o != o) = false := by cases o <;> rfl
  rw [hd]
  clear hd hb3
  cases o
  all_goals
    go_wp2
    go_returns
    exact ⟨rfl, hbel3⟩
set_option maxHeartbeats 1000000 in
theorem exFnExactLostSum (l t : Int) (w : World) (hl : (Lit.int .i64 l).wf = true) (ht : (Lit.int .i64 t).wf = true) :
    Calls Try.prog 10 #[.int .i64 l, .int .i64 t] w fun e w' => e = .returned (.bool true) ∧ Below w.heap.size w w' := by
  clear hl ht
  go_enter Try.func10, Try.ntmps10
  go_wp2_with fail
  refine (sLostSum_any _ _ _).mono ?_
  rintro e w1 ⟨rfl, hb1⟩
  have hz1 := hb1.size
  obtain ⟨n, hn⟩ : ∃ n, lostN l t = n := ⟨_, rfl⟩
  obtain ⟨d, hd⟩ : ∃ d, lostD l t = d := ⟨_, rfl⟩
  obtain ⟨o, ho⟩ : ∃ o, loadOk l t = o := ⟨_, rfl⟩
  have HN := Lib.hid hn
  have HD := Lib.hid hd
  have HO := Lib.hid ho
  rw [hn, hd, ho]
  clear hn hd ho
  have hB1 := Blk.new (w := w1) (cs := #[.int .i64 n, .int .i64 d]) (T := 25) rfl
  go_wp2_with fail
  refine (iLostSum_any _ _ _).mono ?_
  rintro e w2 ⟨rfl, hb2⟩
  rw [HN.out, HD.out, HO.out]
  have hz2 := hb2.size
  have hB2 := Blk.belowAll hB1 hb2
  have hbel2 : Below w.heap.size w w2 := by (repeat' (first | (with_reducible exact Below.refl _ _) | (with_reducible assumption) | (with_reducible refine Below.drew ?_) | (with_reducible refine below_drewN ?_ _) | (with_reducible refine Below.alloc ?_ ?_ _) | (with_reducible refine Below.setCell ?_ ?_ _) | (refine Below.trans ?_ (Below.mono (by assumption) (by first | omega | (with_reducible exact Below.size (by assumption)) | (simp; done) | (simp; omega)))) | (with_reducible exact Nat.le_refl _) | omega | (with_reducible exact Below.size (by assumption)) | (simp only [World.size_alloc, World.size_setCell, World.size_drew]; omega) | (simp; done) | (simp; omega)))
  obtain ⟨c0, c1, f0, f1, l1⟩ := hB2.two
  clear hb2 hz2
  go_wp2_with fail
  refine (eqFrac_any _ _ _ _ _).mono ?_
  rintro e w3 ⟨rfl, hb3⟩
  have hz3 := hb3.size
  have hbel3 : Below w.heap.size w w3 := by (repeat' (first | (with_reducible exact Below.refl _ _) | (with_reducible assumption) | (with_reducible refine Below.drew ?_) | (with_reducible refine below_drewN ?_ _) | (with_reducible refine Below.alloc ?_ ?_ _) | (with_reducible refine Below.setCell ?_ ?_ _) | (refine Below.trans ?_ (Below.mono (by assumption) (by first | omega | (with_reducible exact Below.size (by assumption)) | (simp; done) | (simp; omega)))) | (with_reducible exact Nat.le_refl _) | omega | (with_reducible exact Below.size (by assumption)) | (simp only [World.size_alloc, World.size_setCell, World.size_drew]; omega) | (simp; done) | (simp; omega)))
  have hd : decide (n = n ∧ d = d) = true := by simp
  have ho : (o != o) = false := by cases o <;> rfl
  rw [hd]
  clear hd hb3
  cases o
  all_goals
    go_wp2
    go_returns
    exact ⟨rfl, hbel3⟩

set_option maxHeartbeats 1000000 in
theorem exTrunksFor (l a b : Int) (w : World) (hl : (Lit.int .i64 l).wf = true) :
    Calls Try.prog 11 #[.int .i64 l, .agg #[.int .i64 a, .int .i64 b]] w fun e w' => e = .returned (.bool true) ∧ Below w.heap.size w w' := by
  clear hl
  have hB0 := Blk.new (w := w) (cs := #[.int .i64 a, .int .i64 b]) (T := 23) rfl
  go_enter Try.func11, Try.ntmps11
  go_wp2_with fail
  refine (toFrac_any _ _ _).mono ?_
  rintro e w1 ⟨rfl, rfl⟩
  go_wp2_with fail
  refine (sTrunks_any _ _ _ _).mono ?_
  rintro e w2 ⟨x, rfl, hx, hb2⟩
  have hz2 := hb2.size
  have hB2 : Blk w2 w.heap.size #[.int .i64 a, .int .i64 b] 23 := Blk.belowAll (by (repeat' (first | (with_reducible assumption) | rfl | omega | (with_reducible exact Blk.new (by first | rfl | (simp; done) | (simp; omega))) | (with_reducible apply Blk.set) | (with_reducible apply Blk.other (by first | (simp; done) | (simp; omega) | omega)) | (with_reducible apply Blk.alloc) | (with_reducible apply Blk.drewN) | (with_reducible apply Blk.drew) | (with_reducible apply Blk.below) | (simp; omega)))) hb2
  have hbel2 : Below w.heap.size w w2 := by (repeat' (first | (with_reducible exact Below.refl _ _) | (with_reducible assumption) | (with_reducible refine Below.drew ?_) | (with_reducible refine below_drewN ?_ _) | (with_reducible refine Below.alloc ?_ ?_ _) | (with_reducible refine Below.setCell ?_ ?_ _) | (refine Below.trans ?_ (Below.mono (by assumption) (by first | omega | (with_reducible exact Below.size (by assumption)) | (simp; done) | (simp; omega)))) | (with_reducible exact Nat.le_refl _) | omega | (with_reducible exact Below.size (by assumption)) | (simp only [World.size_alloc, World.size_setCell, World.size_drew]; omega) | (simp; done) | (simp; omega)))
  obtain ⟨c0, c1, f0, f1, l1⟩ := hB2.two
  clear hb2 hz2
  go_wp2_with fail
  refine (toFrac_any _ _ _).mono ?_
  rintro e w1 ⟨rfl, rfl⟩
  go_wp2_with fail
  refine (iTrunks_any _ _ _ _).mono ?_
  rintro e w3 ⟨y, rfl, hy, hb3⟩
  have hbel3 : Below w.heap.size w w3 := by (repeat' (first | (with_reducible exact Below.refl _ _) | (with_reducible assumption) | (with_reducible refine Below.drew ?_) | (with_reducible refine below_drewN ?_ _) | (with_reducible refine Below.alloc ?_ ?_ _) | (with_reducible refine Below.setCell ?_ ?_ _) | (refine Below.trans ?_ (Below.mono (by assumption) (by first | omega | (with_reducible exact Below.size (by assumption)) | (simp; done) | (simp; omega)))) | (with_reducible exact Nat.le_refl _) | omega | (with_reducible exact Below.size (by assumption)) | (simp only [World.size_alloc, World.size_setCell, World.size_drew]; omega) | (simp; done) | (simp; omega)))
  obtain rfl := hy.unique hx
  clear hx hy hb3
  go_wp2
  go_returns
  exact ⟨rfl, hbel3⟩

set_option maxHeartbeats 1000000 in
theorem exBusyParts (l t : Int) (w : World) (hl : (Lit.int .i64 l).wf = true) (ht : (Lit.int .i64 t).wf = true) :
    Calls Try.prog 7 #[.int .i64 l, .int .i64 t] w fun e w' => e = .returned (.bool true) ∧ Below w.heap.size w w' := by
  clear hl ht
  obtain ⟨zs, hzs⟩ : ∃ zs, busyR l t = zs := ⟨_, rfl⟩
  have hlen : zs.length ≤ 1000000000 := by
    rw [← hzs, busyR]
    split
    · rename_i h
      obtain ⟨_, _, _, _⟩ := (loadOk_iff l t).1 h
      simp [busyL]; omega
    · simp
  have HZ := Lib.hid hzs
  clear hzs
  go_enter Try.func7, Try.ntmps7
  go_wp2_with fail
  refine (sBusy_any _ _ _).mono ?_
  rintro e w1 ⟨v0, rfl, ho0, hb1⟩
  rw [HZ.out] at ho0
  have hbel1 := hb1
  go_wp2_with fail
  refine (iBusy_any _ _ _).mono ?_
  rintro e w2 ⟨v1, rfl, ho1, hb2⟩
  rw [HZ.out] at ho1
  have hbel2 : Below w.heap.size w w2 := by (repeat' (first | (with_reducible exact Below.refl _ _) | (with_reducible assumption) | (with_reducible refine Below.drew ?_) | (with_reducible refine below_drewN ?_ _) | (with_reducible refine Below.alloc ?_ ?_ _) | (with_reducible refine Below.setCell ?_ ?_ _) | (refine Below.trans ?_ (Below.mono (by assumption) (by first | omega | (with_reducible exact Below.size (by assumption)) | (simp; done) | (simp; omega)))) | (with_reducible exact Nat.le_refl _) | omega | (with_reducible exact Below.size (by assumption)) | (simp only [World.size_alloc, World.size_setCell, World.size_drew]; omega) | (simp; done) | (simp; omega)))
  have hr0 := (Rds.ofOwns ho0).below hb2
  have hr1 := Rds.ofOwns ho1
  go_wp2_with fail
  refine (eqIntS_any _ _ _ _ _ hr1 hr0).mono ?_
  rintro e w3 ⟨rfl, hb3⟩
  rw [decide_eq_true rfl]
  have hbel3 : Below w.heap.size w w3 := by (repeat' (first | (with_reducible exact Below.refl _ _) | (with_reducible assumption) | (with_reducible refine Below.drew ?_) | (with_reducible refine below_drewN ?_ _) | (with_reducible refine Below.alloc ?_ ?_ _) | (with_reducible refine Below.setCell ?_ ?_ _) | (refine Below.trans ?_ (Below.mono (by assumption) (by first | omega | (with_reducible exact Below.size (by assumption)) | (simp; done) | (simp; omega)))) | (with_reducible exact Nat.le_refl _) | omega | (with_reducible exact Below.size (by assumption)) | (simp only [World.size_alloc, World.size_setCell, World.size_drew]; omega) | (simp; done) | (simp; omega)))
  have ho3 := owns_below hb3 ho1
  have hq3 := owns_below hb3 (owns_below hb2 ho0)
  clear hb1 hb2 hb3 hr0 hr1 ho1
  go_wp2_with fail
  refine (markInts_any _ _ _ _ _ _ ho3 (by omega) (by omega) hlen).mono ?_
  rintro e w4 ⟨rfl, ho4, hg4⟩
  have hge := own_ge ho4
  have hq4 := hq3.kept hg4 (own_apart ho0 ho4 (Nat.le_refl _))
  have hbel4 : Below w.heap.size w w4 := hbel3.grown hg4 hbel3.size (fun k hk => Nat.le_trans hbel1.size (hge k hk))
  go_wp2_with fail
  refine (heldInts _ _ _ _ (Rds.ofOwns ho4) (by omega) (by omega) hlen).mono ?_
  rintro e w5 ⟨rfl, rfl⟩
  go_wp2_with fail
  refine (iBusy_any _ _ _).mono ?_
  rintro e w5 ⟨v2, rfl, ho5, hb5⟩
  rw [HZ.out] at ho5
  have hbel5 : Below w.heap.size w w5 := by (repeat' (first | (with_reducible exact Below.refl _ _) | (with_reducible assumption) | (with_reducible refine Below.drew ?_) | (with_reducible refine below_drewN ?_ _) | (with_reducible refine Below.alloc ?_ ?_ _) | (with_reducible refine Below.setCell ?_ ?_ _) | (refine Below.trans ?_ (Below.mono (by assumption) (by first | omega | (with_reducible exact Below.size (by assumption)) | (simp; done) | (simp; omega)))) | (with_reducible exact Nat.le_refl _) | omega | (with_reducible exact Below.size (by assumption)) | (simp only [World.size_alloc, World.size_setCell, World.size_drew]; omega) | (simp; done) | (simp; omega)))
  have hr4 := (Rds.ofOwns hq4).below hb5
  have hr5 := Rds.ofOwns ho5
  have hr6 := (Rds.ofOwns ho4).below hb5
  clear hge hg4 hq4 hq3 ho0 ho4 ho3 ho5
  go_wp2_with fail
  refine (eqIntS_any _ _ _ _ _ hr5 hr4).mono ?_
  rintro e w6 ⟨rfl, hb6⟩
  rw [decide_eq_true rfl]
  have hbel6 : Below w.heap.size w w6 := by (repeat' (first | (with_reducible exact Below.refl _ _) | (with_reducible assumption) | (with_reducible refine Below.drew ?_) | (with_reducible refine below_drewN ?_ _) | (with_reducible refine Below.alloc ?_ ?_ _) | (with_reducible refine Below.setCell ?_ ?_ _) | (refine Below.trans ?_ (Below.mono (by assumption) (by first | omega | (with_reducible exact Below.size (by assumption)) | (simp; done) | (simp; omega)))) | (with_reducible exact Nat.le_refl _) | omega | (with_reducible exact Below.size (by assumption)) | (simp only [World.size_alloc, World.size_setCell, World.size_drew]; omega) | (simp; done) | (simp; omega)))
  have hr7 := hr6.below hb6
  clear hr4 hr5 hr6 hb5 hb6
  go_wp2_with fail
  refine (heldInts _ _ _ _ hr7 (by omega) (by omega) hlen).mono ?_
  rintro e w7 ⟨rfl, rfl⟩
  go_wp2
  go_returns
  exact ⟨rfl, hbel6⟩

end Go.Proofs.Ytmckjikdecmagaa
