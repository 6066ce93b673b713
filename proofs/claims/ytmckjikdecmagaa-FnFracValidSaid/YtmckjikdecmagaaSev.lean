/- Contracts of TakenLoad, LostSum, TrunksFor (program and reference). -/
import Derived.Test.YtmckjikdecmagaaLost
import Derived.Test.YtmckjikdecmagaaBusyS
import Derived.Test.YtmckjikdecmagaaFr
set_option linter.unusedSimpArgs false
set_option linter.unusedVariables false
namespace Go.Proofs.Ytmckjikdecmagaa
open Go.RowKit

def takenN (l t : Int) : Int := if loadOk l t then ((takenP l.toNat t.toNat).1 : Int) else 0
def takenD (l t : Int) : Int := if loadOk l t then ((takenP l.toNat t.toNat).2 : Int) else 0

set_option maxHeartbeats 400000 in
theorem iTaken_any (l t : Int) (w : World) :
    Calls Try.prog 34 #[.int .i64 l, .int .i64 t] w fun e w' => e = .returned (.tuple #[.agg #[.int .i64 (takenN l t), .int .i64 (takenD l t)], .bool (loadOk l t)]) ∧ Below w.heap.size w w' := by
  by_cases hok : loadOk l t = true
  · obtain ⟨a1, a2, a3, a4⟩ := (loadOk_iff l t).1 hok
    obtain ⟨l, rfl⟩ := Int.eq_ofNat_of_zero_le a1
    obtain ⟨t, rfl⟩ := Int.eq_ofNat_of_zero_le a3
    obtain ⟨s1, s2, s3⟩ := lostP_small l (by omega) t (by omega)
    have s4 := lostP_le l (by omega) t (by omega)
    have hN : takenN l t = (lowP (l * ((lostP l t).2 - (lostP l t).1)) (lostP l t).2).1 := by simp only [takenN, hok, if_true, Int.toNat_natCast, takenP]
    have hD : takenD l t = (lowP (l * ((lostP l t).2 - (lostP l t).1)) (lostP l t).2).2 := by simp only [takenD, hok, if_true, Int.toNat_natCast, takenP]
    have kN : lostN l t = (lostP l t).1 := by simp only [lostN, hok, if_true, Int.toNat_natCast]
    have kD : lostD l t = (lostP l t).2 := by simp only [lostD, hok, if_true, Int.toNat_natCast]
    rw [hN, hD, hok]
    clear hN hD
    obtain ⟨p, hp⟩ : ∃ p, (lostP l t).1 = p := ⟨_, rfl⟩
    obtain ⟨q, hq⟩ : ∃ q, (lostP l t).2 = q := ⟨_, rfl⟩
    rw [hp] at kN s1 s4 ⊢
    rw [hq] at kD s2 s3 s4 ⊢
    clear hp hq
    obtain ⟨r, hr⟩ : ∃ r, q - p = r := ⟨_, rfl⟩
    have hrr : (q : Int) - (p : Int) = (r : Int) := by omega
    have m1 : (l : Int) * ((q : Int) - (p : Int)) ≤ 600000000 := by rw [hrr]; have h : l * r ≤ 600000000 := Nat.mul_le_mul (show l ≤ 6 by omega) (show r ≤ 100000000 by omega); rw [← Int.natCast_mul]; omega
    have m2 : 0 ≤ (l : Int) * ((q : Int) - (p : Int)) := Int.mul_nonneg (by omega) (by omega)
    have hT : ((l : Int) * ((q : Int) - (p : Int))).toNat = l * r := by rw [hrr, ← Int.natCast_mul, Int.toNat_natCast]
    have HT := Lib.hid hT
    clear hrr hT
    rw [hr]
    clear hr
    go_enter Try.func34, Try.ntmps34
    go_wp2_with fail
    refine (iLostPart_any _ _ _).mono ?_
    rintro e w1 ⟨rfl, hb⟩
    rw [kN, kD, hok]
    clear kN kD
    have hz := hb.size
    have hB := Blk.below hb (by simp) (Blk.new (w := w) (cs := #[.int .i64 0, .int .i64 0]) (T := 25) rfl)
    obtain ⟨d0, d1, g0, g1, l0⟩ := hB.two
    simp only [World.size_alloc] at hz
    go_wp2_with fail
    refine (iLowest_any _ _ _ m2 (by omega) (by omega) (by omega)).mono ?_
    rintro e w2 ⟨rfl, hb2⟩
    rw [HT.out, Int.toNat_natCast]
    have hz2 := hb2.size
    have hB2 := Blk.below hb2 (by simp; omega) (hB.alloc (.cells #[.int .i64 p, .int .i64 q] 25))
    clear d0 d1 g0 g1 l0
    obtain ⟨d0, d1, g0, g1, l0⟩ := hB2.two
    obtain ⟨x, hx⟩ : ∃ x, lowP (l * r) q = x := ⟨_, rfl⟩
    have HX := Lib.hid hx
    rw [hx]
    clear hx
    go_wp2
    refine bodyPost_ret (v := .tuple #[.agg #[.int .i64 x.1, .int .i64 x.2], .bool true]) (by simp [results, Try.results34, go_sem, d0, d1, l0]) rfl ⟨by rw [HX.out], by (repeat' (first | (with_reducible exact Below.refl _ _) | (with_reducible assumption) | (with_reducible refine Below.drew ?_) | (with_reducible refine below_drewN ?_ _) | (with_reducible refine Below.alloc ?_ ?_ _) | (with_reducible refine Below.setCell ?_ ?_ _) | (refine Below.trans ?_ (Below.mono (by assumption) (by first | omega | (with_reducible exact Below.size (by assumption)) | (simp; done) | (simp; omega)))) | (with_reducible exact Nat.le_refl _) | omega | (with_reducible exact Below.size (by assumption)) | (simp only [World.size_alloc, World.size_setCell, World.size_drew]; omega) | (simp; done) | (simp; omega)))⟩
  · have hno : loadOk l t = false := by simpa using hok
    have hN : takenN l t = 0 := by simp [takenN, hno]
    have hD : takenD l t = 0 := by simp [takenD, hno]
    rw [hN, hD]
    clear hN hD
    go_enter Try.func34, Try.ntmps34
    go_wp2_with fail
    refine (iLostPart_any _ _ _).mono ?_
    rintro e w1 ⟨rfl, hb⟩
    have hz := hb.size
    have hB := Blk.below hb (by simp) (Blk.new (w := w) (cs := #[.int .i64 0, .int .i64 0]) (T := 25) rfl)
    obtain ⟨d0, d1, g0, g1, l0⟩ := hB.two
    simp only [World.size_alloc] at hz
    go_wp2
    refine bodyPost_ret (v := .tuple #[.agg #[.int .i64 0, .int .i64 0], .bool false]) (by simp [results, Try.results34, go_sem, d0, d1, l0]) rfl ⟨?_, by (repeat' (first | (with_reducible exact Below.refl _ _) | (with_reducible assumption) | (with_reducible refine Below.drew ?_) | (with_reducible refine below_drewN ?_ _) | (with_reducible refine Below.alloc ?_ ?_ _) | (with_reducible refine Below.setCell ?_ ?_ _) | (refine Below.trans ?_ (Below.mono (by assumption) (by first | omega | (with_reducible exact Below.size (by assumption)) | (simp; done) | (simp; omega)))) | (with_reducible exact Nat.le_refl _) | omega | (with_reducible exact Below.size (by assumption)) | (simp only [World.size_alloc, World.size_setCell, World.size_drew]; omega) | (simp; done) | (simp; omega)))⟩
    rw [hno]
set_option maxHeartbeats 400000 in
theorem sTaken_any (l t : Int) (w : World) :
    Calls Try.prog 33 #[.int .i64 l, .int .i64 t] w fun e w' => e = .returned (.tuple #[.agg #[.int .i64 (takenN l t), .int .i64 (takenD l t)], .bool (loadOk l t)]) ∧ Below w.heap.size w w' := by
  by_cases hok : loadOk l t = true
  · obtain ⟨a1, a2, a3, a4⟩ := (loadOk_iff l t).1 hok
    obtain ⟨l, rfl⟩ := Int.eq_ofNat_of_zero_le a1
    obtain ⟨t, rfl⟩ := Int.eq_ofNat_of_zero_le a3
    obtain ⟨s1, s2, s3⟩ := lostP_small l (by omega) t (by omega)
    have s4 := lostP_le l (by omega) t (by omega)
    have hN : takenN l t = (lowP (l * ((lostP l t).2 - (lostP l t).1)) (lostP l t).2).1 := by simp only [takenN, hok, if_true, Int.toNat_natCast, takenP]
    have hD : takenD l t = (lowP (l * ((lostP l t).2 - (lostP l t).1)) (lostP l t).2).2 := by simp only [takenD, hok, if_true, Int.toNat_natCast, takenP]
    have kN : lostN l t = (lostP l t).1 := by simp only [lostN, hok, if_true, Int.toNat_natCast]
    have kD : lostD l t = (lostP l t).2 := by simp only [lostD, hok, if_true, Int.toNat_natCast]
    rw [hN, hD, hok]
    clear hN hD
    obtain ⟨p, hp⟩ : ∃ p, (lostP l t).1 = p := ⟨_, rfl⟩
    obtain ⟨q, hq⟩ : ∃ q, (lostP l t).2 = q := ⟨_, rfl⟩
    rw [hp] at kN s1 s4 ⊢
    rw [hq] at kD s2 s3 s4 ⊢
    clear hp hq
    obtain ⟨r, hr⟩ : ∃ r, q - p = r := ⟨_, rfl⟩
    have hrr : (q : Int) - (p : Int) = (r : Int) := by omega
    have m1 : (l : Int) * ((q : Int) - (p : Int)) ≤ 600000000 := by rw [hrr]; have h : l * r ≤ 600000000 := Nat.mul_le_mul (show l ≤ 6 by omega) (show r ≤ 100000000 by omega); rw [← Int.natCast_mul]; omega
    have m2 : 0 ≤ (l : Int) * ((q : Int) - (p : Int)) := Int.mul_nonneg (by omega) (by omega)
    have hT : ((l : Int) * ((q : Int) - (p : Int))).toNat = l * r := by rw [hrr, ← Int.natCast_mul, Int.toNat_natCast]
    have HT := Lib.hid hT
    clear hrr hT
    rw [hr]
    clear hr
    go_enter Try.func33, Try.ntmps33
    go_wp2_with fail
    refine (sLostPart_any _ _ _).mono ?_
    rintro e w1 ⟨rfl, hb⟩
    rw [kN, kD, hok]
    clear kN kD
    have hz := hb.size
    have hB := Blk.below hb (by simp) (Blk.new (w := w) (cs := #[.int .i64 0, .int .i64 0]) (T := 25) rfl)
    obtain ⟨d0, d1, g0, g1, l0⟩ := hB.two
    simp only [World.size_alloc] at hz
    go_wp2_with fail
    refine (sLow_any _ _ _ m2 (by omega) (by omega) (by omega)).mono ?_
    rintro e w2 ⟨rfl, hb2⟩
    rw [HT.out, Int.toNat_natCast]
    have hz2 := hb2.size
    have hB2 := Blk.below hb2 (by simp; omega) (hB.alloc (.cells #[.int .i64 p, .int .i64 q] 25))
    clear d0 d1 g0 g1 l0
    obtain ⟨d0, d1, g0, g1, l0⟩ := hB2.two
    obtain ⟨x, hx⟩ : ∃ x, lowP (l * r) q = x := ⟨_, rfl⟩
    have HX := Lib.hid hx
    rw [hx]
    clear hx
    go_wp2
    refine bodyPost_ret (v := .tuple #[.agg #[.int .i64 x.1, .int .i64 x.2], .bool true]) (by simp [results, Try.results33, go_sem, d0, d1, l0]) rfl ⟨by rw [HX.out], by (repeat' (first | (with_reducible exact Below.refl _ _) | (with_reducible assumption) | (with_reducible refine Below.drew ?_) | (with_reducible refine below_drewN ?_ _) | (with_reducible refine Below.alloc ?_ ?_ _) | (with_reducible refine Below.setCell ?_ ?_ _) | (refine Below.trans ?_ (Below.mono (by assumption) (by first | omega | (with_reducible exact Below.size (by assumption)) | (simp; done) | (simp; omega)))) | (with_reducible exact Nat.le_refl _) | omega | (with_reducible exact Below.size (by assumption)) | (simp only [World.size_alloc, World.size_setCell, World.size_drew]; omega) | (simp; done) | (simp; omega)))⟩
  · have hno : loadOk l t = false := by simpa using hok
    have hN : takenN l t = 0 := by simp [takenN, hno]
    have hD : takenD l t = 0 := by simp [takenD, hno]
    rw [hN, hD]
    clear hN hD
    go_enter Try.func33, Try.ntmps33
    go_wp2_with fail
    refine (sLostPart_any _ _ _).mono ?_
    rintro e w1 ⟨rfl, hb⟩
    have hz := hb.size
    have hB := Blk.below hb (by simp) (Blk.new (w := w) (cs := #[.int .i64 0, .int .i64 0]) (T := 25) rfl)
    obtain ⟨d0, d1, g0, g1, l0⟩ := hB.two
    simp only [World.size_alloc] at hz
    go_wp2
    refine bodyPost_ret (v := .tuple #[.agg #[.int .i64 0, .int .i64 0], .bool false]) (by simp [results, Try.results33, go_sem, d0, d1, l0]) rfl ⟨?_, by (repeat' (first | (with_reducible exact Below.refl _ _) | (with_reducible assumption) | (with_reducible refine Below.drew ?_) | (with_reducible refine below_drewN ?_ _) | (with_reducible refine Below.alloc ?_ ?_ _) | (with_reducible refine Below.setCell ?_ ?_ _) | (refine Below.trans ?_ (Below.mono (by assumption) (by first | omega | (with_reducible exact Below.size (by assumption)) | (simp; done) | (simp; omega)))) | (with_reducible exact Nat.le_refl _) | omega | (with_reducible exact Below.size (by assumption)) | (simp only [World.size_alloc, World.size_setCell, World.size_drew]; omega) | (simp; done) | (simp; omega)))⟩
    rw [hno]

set_option maxHeartbeats 1000000 in
theorem iLostSum_any (l t : Int) (w : World) :
    Calls Try.prog 36 #[.int .i64 l, .int .i64 t] w fun e w' => e = .returned (.tuple #[.agg #[.int .i64 (lostN l t), .int .i64 (lostD l t)], .bool (loadOk l t)]) ∧ Below w.heap.size w w' := by
  by_cases hok : loadOk l t = true
  · obtain ⟨a1, a2, a3, a4⟩ := (loadOk_iff l t).1 hok
    obtain ⟨l, rfl⟩ := Int.eq_ofNat_of_zero_le a1
    obtain ⟨t, rfl⟩ := Int.eq_ofNat_of_zero_le a3
    have hl : l ≤ 6 := by omega
    have ht : t ≤ 8 := by omega
    have kN : lostN l t = (lostP l t).1 := by simp only [lostN, hok, if_true, Int.toNat_natCast]
    have kD : lostD l t = (lostP l t).2 := by simp only [lostD, hok, if_true, Int.toNat_natCast]
    rw [kN, kD, hok, ← lostSum_eq l t hl ht]
    clear kN kD
    go_enter Try.func36, Try.ntmps36
    go_wp2_with (go_at_call 52; refine (iLoadValid_any _ _ _).mono ?_; rintro e w1 ⟨rfl, rfl⟩)
    refine (iBusy_yes _ _ _ hl ht).mono ?_
    rintro e w1 ⟨g, cap, rfl, hg, hown, hb⟩
    have hz := hb.size
    have hB := Blk.below hb (by simp) (Blk.new (w := w) (cs := #[.int .i64 0, .int .i64 0]) (T := 25) rfl)
    obtain ⟨d0, d1, g0, g1, l0⟩ := hB.two
    simp only [World.size_alloc] at hz hg
    have hcell : ∀ j, j ≤ t → w1.cell? ⟨g, j, none⟩ = some (.int .i64 (busyAt l t j)) := fun j hj => by
      rw [hown.cell j (by omega), ints_at _ _ ((busyAt l t j : Nat) : Int) (by simp [busyL, show j < t + 1 by omega])]
    have HC := Lib.hid hcell
    clear hcell
    go_wp2_with fail
    go_loop [7, 20] (fun s i => ∃ (j x : Nat), Hid (x = sumTo l t j) ∧ x ≤ 100000000 ∧ j ≤ t + 1 ∧ i = .int .i64 j ∧ s = .int .i64 x) (fun _ i => t + 1 - (intOf i).toNat)
    case atStart => exact ⟨0, 0, rfl, by omega, by omega, rfl, rfl⟩
    case round =>
      obtain ⟨j, x, hx, hxb, hj, rfl, rfl⟩ := hrel
      by_cases hjt : j < t + 1
      · have g2 := HC.out j (by omega)
        have hb3 := busyAt_small l t j hl ht (by omega)
        have hb4 := sumTo_small l t (j + 1) hl ht (by omega)
        have hst := sumTo_step l t j (by omega)
        obtain ⟨y, hy⟩ : ∃ y, busyAt l t j = y := ⟨_, rfl⟩
        rw [hy] at g2 hb3 hst
        rw [← hx.out] at hst
        rw [hst] at hb4
        have HST := Lib.hid hst
        clear hst hy
        go_wp2_with fail
        go_round
        case rel => exact ⟨j + 1, x + y, by unfold Hid; rw [HST.out], by omega, by omega, by go_num, by go_num⟩
        case measure => simp [intOf]; omega
      · obtain rfl : j = t + 1 := by omega
        have g2 := HC.out t (by omega)
        have hb3 := busyAt_small l t t hl ht (by omega)
        have hp := sumTo_pos l t hl ht
        rw [← hx.out] at hp
        obtain ⟨y, hy⟩ : ∃ y, busyAt l t t = y := ⟨_, rfl⟩
        rw [hy] at g2 hb3
        have HY := Lib.hid hy
        clear hy
        go_wp2_with fail
        refine (iLowest_any _ _ _ (by omega) (by omega) (by omega) (by omega)).mono ?_
        rintro e w2 ⟨rfl, hb2⟩
        have hz2 := hb2.size
        have hB2 := Blk.below hb2 hB.lt hB
        clear d0 d1 g0 g1 l0
        obtain ⟨d0, d1, g0, g1, l0⟩ := hB2.two
        rw [Int.toNat_natCast, Int.toNat_natCast]
        obtain ⟨z, hz⟩ : ∃ z, lowP y x = z := ⟨_, rfl⟩
        have HZ := Lib.hid hz
        rw [hz]
        clear hz
        go_wp2
        refine bodyPost_ret (v := .tuple #[.agg #[.int .i64 z.1, .int .i64 z.2], .bool true]) (by simp [results, Try.results36, go_sem, d0, d1, l0]) rfl ⟨by rw [HY.out, ← hx.out, HZ.out], by (repeat' (first | (with_reducible exact Below.refl _ _) | (with_reducible assumption) | (with_reducible refine Below.drew ?_) | (with_reducible refine below_drewN ?_ _) | (with_reducible refine Below.alloc ?_ ?_ _) | (with_reducible refine Below.setCell ?_ ?_ _) | (refine Below.trans ?_ (Below.mono (by assumption) (by first | omega | (with_reducible exact Below.size (by assumption)) | (simp; done) | (simp; omega)))) | (with_reducible exact Nat.le_refl _) | omega | (with_reducible exact Below.size (by assumption)) | (simp only [World.size_alloc, World.size_setCell, World.size_drew]; omega) | (simp; done) | (simp; omega)))⟩
  · have hno : loadOk l t = false := by simpa using hok
    have hN : lostN l t = 0 := by simp [lostN, hno]
    have hD : lostD l t = 0 := by simp [lostD, hno]
    rw [hN, hD, hno]
    clear hN hD
    go_enter Try.func36, Try.ntmps36
    go_wp2_with (go_at_call 52; refine (iLoadValid_any _ _ _).mono ?_; rintro e w1 ⟨rfl, rfl⟩)
    go_returns
    exact ⟨rfl, by (repeat' (first | (with_reducible exact Below.refl _ _) | (with_reducible assumption) | (with_reducible refine Below.drew ?_) | (with_reducible refine below_drewN ?_ _) | (with_reducible refine Below.alloc ?_ ?_ _) | (with_reducible refine Below.setCell ?_ ?_ _) | (refine Below.trans ?_ (Below.mono (by assumption) (by first | omega | (with_reducible exact Below.size (by assumption)) | (simp; done) | (simp; omega)))) | (with_reducible exact Nat.le_refl _) | omega | (with_reducible exact Below.size (by assumption)) | (simp only [World.size_alloc, World.size_setCell, World.size_drew]; omega) | (simp; done) | (simp; omega)))⟩

set_option maxHeartbeats 1000000 in
theorem sLostSum_any (l t : Int) (w : World) :
    Calls Try.prog 35 #[.int .i64 l, .int .i64 t] w fun e w' => e = .returned (.tuple #[.agg #[.int .i64 (lostN l t), .int .i64 (lostD l t)], .bool (loadOk l t)]) ∧ Below w.heap.size w w' := by
  by_cases hok : loadOk l t = true
  · obtain ⟨a1, a2, a3, a4⟩ := (loadOk_iff l t).1 hok
    obtain ⟨l, rfl⟩ := Int.eq_ofNat_of_zero_le a1
    obtain ⟨t, rfl⟩ := Int.eq_ofNat_of_zero_le a3
    have hl : l ≤ 6 := by omega
    have ht : t ≤ 8 := by omega
    have kN : lostN l t = (lostP l t).1 := by simp only [lostN, hok, if_true, Int.toNat_natCast]
    have kD : lostD l t = (lostP l t).2 := by simp only [lostD, hok, if_true, Int.toNat_natCast]
    rw [kN, kD, hok, ← lostSum_eq l t hl ht]
    clear kN kD
    go_enter Try.func35, Try.ntmps35
    go_wp2_with (go_at_call 50; refine (sL7Ok_any _ _ _).mono ?_; rintro e w1 ⟨rfl, rfl⟩)
    go_loop [6, 7, 8] (fun s la i => ∃ (j x y : Nat), Hid (x = sumTo l t j) ∧ Hid (1 ≤ j → y = busyAt l t (j - 1)) ∧ x ≤ 100000000 ∧ y ≤ 10000000 ∧ j ≤ t + 1 ∧ i = .int .i64 j ∧ s = .int .i64 x ∧ la = .int .i64 y) (fun _ _ i => t + 1 - (intOf i).toNat)
    case atStart => exact ⟨0, 0, 0, rfl, fun h => absurd h (by omega), by omega, by omega, by omega, rfl, rfl, rfl⟩
    case round =>
      obtain ⟨j, x, y, hx, hy, hxb, hyb, hj, rfl, rfl, rfl⟩ := hrel
      by_cases hjt : j < t + 1
      · go_wp2_with fail
        go_loop [9, 10] (fun x k => ∃ d P : Nat, Hid (P = l ^ d) ∧ d ≤ j ∧ k = .int .i64 d ∧ x = .int .i64 P) (fun _ k => j - (intOf k).toNat)
        case atStart => exact ⟨0, 1, rfl, by omega, rfl, rfl⟩
        case round =>
          obtain ⟨d, P, hP, hd, rfl, rfl⟩ := hrel
          have hl1 : P ≤ 10077696 := by rw [hP.out]; exact pow_small l d hl (by omega)
          have hl2 : (P : Int) * l ≤ 60466176 := by have h : P * l ≤ 60466176 := Nat.mul_le_mul hl1 hl; rw [← Int.natCast_mul]; omega
          have hl3 : 0 ≤ (P : Int) * l := Int.mul_nonneg (by omega) (by omega)
          by_cases hdj : d < j
          · go_wp2_with fail
            go_round
            case rel => exact ⟨d + 1, P * l, by unfold Hid; rw [hP.out, Nat.pow_succ], by omega, by go_num, by go_num⟩
            case measure => simp [intOf]; omega
          · obtain rfl : d = j := by omega
            clear hl2 hl3
            go_wp2_with fail
            go_loop [9, 11] (fun x k => ∃ e y : Nat, Hid (y = P * rise d e) ∧ d + 1 + e ≤ t + 1 ∧ k = .int .i64 (d + 1 + e : Nat) ∧ x = .int .i64 y) (fun _ k => t + 1 - (intOf k).toNat)
            case atStart => exact ⟨0, P, by simp [Hid, rise], by omega, by go_num, rfl⟩
            case round =>
              obtain ⟨e, z, hz, he, rfl, rfl⟩ := hrel
              by_cases hk : d + 1 + e < t + 1
              · have hx1 : z * (d + 1 + e) ≤ 169075682574336 := by
                  have := powrise_small l d (e + 1) hl (by omega)
                  rw [rise, ← hP.out, ← Nat.mul_assoc, ← hz.out, show d + e + 1 = d + 1 + e from by omega] at this
                  exact this
                have hx2 : (z : Int) * (d + 1 + e) ≤ 169075682574336 := by rw [show (z : Int) * (d + 1 + e) = ((z * (d + 1 + e) : Nat) : Int) from by push_cast; rfl]; omega
                have hx3 : 0 ≤ (z : Int) * (d + 1 + e) := Int.mul_nonneg (by omega) (by omega)
                go_wp2_with fail
                go_round
                case rel => exact ⟨e + 1, z * (d + 1 + e), by unfold Hid; rw [rise, ← Nat.mul_assoc, ← hz.out, show d + e + 1 = d + 1 + e from by omega], by omega, by go_num, by go_num⟩
                case measure => simp [intOf]; omega
              · have hx' : z = busyAt l t d := by rw [hz.out, hP.out, busyAt, show e = t - d from by omega]
                have hzb := busyAt_small l t d hl ht (by omega)
                rw [← hx'] at hzb
                have hsb := sumTo_small l t (d + 1) hl ht (by omega)
                rw [sumTo_step l t d (by omega), ← hx', ← hx.out] at hsb
                have HX := Lib.hid hx'
                clear hx'
                go_wp2_with fail
                go_round
                case rel => exact ⟨d + 1, x + z, z, by unfold Hid; rw [sumTo_step l t d (by omega), ← hx.out, HX.out], fun _ => HX.out, by omega, by omega, by omega, by go_num, by go_num, rfl⟩
                case measure => simp [intOf]; omega
      · obtain rfl : j = t + 1 := by omega
        have hp := sumTo_pos l t hl ht
        rw [← hx.out] at hp
        go_wp2_with fail
        refine (sLow_any _ _ _ (by omega) (by omega) (by omega) (by omega)).mono ?_
        rintro e w2 ⟨rfl, hb2⟩
        have hz2 := hb2.size
        have hB2 := Blk.below hb2 (by simp) (Blk.new (w := w) (cs := #[.int .i64 0, .int .i64 0]) (T := 25) rfl)
        obtain ⟨d0, d1, g0, g1, l0⟩ := hB2.two
        rw [Int.toNat_natCast, Int.toNat_natCast]
        obtain ⟨z, hz⟩ : ∃ z, lowP y x = z := ⟨_, rfl⟩
        have HZ := Lib.hid hz
        rw [hz]
        clear hz
        go_wp2
        refine bodyPost_ret (v := .tuple #[.agg #[.int .i64 z.1, .int .i64 z.2], .bool true]) (by simp [results, Try.results35, go_sem, d0, d1, l0]) rfl ⟨?_, by (repeat' (first | (with_reducible exact Below.refl _ _) | (with_reducible assumption) | (with_reducible refine Below.drew ?_) | (with_reducible refine below_drewN ?_ _) | (with_reducible refine Below.alloc ?_ ?_ _) | (with_reducible refine Below.setCell ?_ ?_ _) | (refine Below.trans ?_ (Below.mono (by assumption) (by first | omega | (with_reducible exact Below.size (by assumption)) | (simp; done) | (simp; omega)))) | (with_reducible exact Nat.le_refl _) | omega | (with_reducible exact Below.size (by assumption)) | (simp only [World.size_alloc, World.size_setCell, World.size_drew]; omega) | (simp; done) | (simp; omega)))⟩
        have h1 := hy.out (by omega)
        rw [show t + 1 - 1 = t from by omega] at h1
        rw [← hx.out, ← h1, HZ.out]
  · have hno : loadOk l t = false := by simpa using hok
    have hN : lostN l t = 0 := by simp [lostN, hno]
    have hD : lostD l t = 0 := by simp [lostD, hno]
    rw [hN, hD, hno]
    clear hN hD
    go_enter Try.func35, Try.ntmps35
    go_wp2_with (go_at_call 50; refine (sL7Ok_any _ _ _).mono ?_; rintro e w1 ⟨rfl, rfl⟩)
    go_returns
    exact ⟨rfl, by (repeat' (first | (with_reducible exact Below.refl _ _) | (with_reducible assumption) | (with_reducible refine Below.drew ?_) | (with_reducible refine below_drewN ?_ _) | (with_reducible refine Below.alloc ?_ ?_ _) | (with_reducible refine Below.setCell ?_ ?_ _) | (refine Below.trans ?_ (Below.mono (by assumption) (by first | omega | (with_reducible exact Below.size (by assumption)) | (simp; done) | (simp; omega)))) | (with_reducible exact Nat.le_refl _) | omega | (with_reducible exact Below.size (by assumption)) | (simp only [World.size_alloc, World.size_setCell, World.size_drew]; omega) | (simp; done) | (simp; omega)))⟩

end Go.Proofs.Ytmckjikdecmagaa
