/- Contracts of LostPart (program and reference). -/
import Derived.Test.YtmckjikdecmagaaLib
import Derived.Test.YtmckjikdecmagaaLow
set_option linter.unusedSimpArgs false
set_option linter.unusedVariables false
namespace Go.Proofs.Ytmckjikdecmagaa
open Go.RowKit

/-- What LostPart returns. -/
def lostN (l t : Int) : Int := if loadOk l t then ((lostP l.toNat t.toNat).1 : Int) else 0
def lostD (l t : Int) : Int := if loadOk l t then ((lostP l.toNat t.toNat).2 : Int) else 0

set_option maxHeartbeats 400000 in
theorem iLostPart_any (l t : Int) (w : World) :
    Calls Try.prog 25 #[.int .i64 l, .int .i64 t] w fun e w' => e = .returned (.tuple #[.agg #[.int .i64 (lostN l t), .int .i64 (lostD l t)], .bool (loadOk l t)]) ∧ Below w.heap.size w w' := by
  by_cases hok : loadOk l t = true
  · have hv := (loadOk_iff l t).1 hok
    obtain ⟨a1, a2, a3, a4⟩ := hv
    have hN : lostN l t = (lostP l.toNat t.toNat).1 := by simp [lostN, hok]
    have hD : lostD l t = (lostP l.toNat t.toNat).2 := by simp [lostD, hok]
    rw [hN, hD]
    clear hN hD
    obtain ⟨l, rfl⟩ := Int.eq_ofNat_of_zero_le a1
    obtain ⟨t, rfl⟩ := Int.eq_ofNat_of_zero_le a3
    simp only [Int.toNat_natCast]
    go_enter Try.func25, Try.ntmps25
    go_wp2_with (go_at_call 52; refine (iLoadValid_any _ _ _).mono ?_; rintro e w1 ⟨rfl, rfl⟩)
    go_loopw [7] (fun n wr => ∃ k : Nat, n = .int .i64 (k + 1) ∧ k ≤ t ∧ Blk wr (w.heap.size + 1) #[.int .i64 (lostP l k).1, .int .i64 (lostP l k).2] 25 ∧
        (∃ x y, Blk wr w.heap.size #[x, y] 25) ∧ Below w.heap.size w wr) (fun n _ => t + 1 - (intOf n).toNat)
    case atStart => exact ⟨0, rfl, by omega, by (show Blk _ _ #[.int .i64 1, .int .i64 1] _; (repeat' (first | (with_reducible assumption) | rfl | omega | (with_reducible exact Blk.new (by first | rfl | (simp; done) | (simp; omega))) | (with_reducible apply Blk.set) | (with_reducible apply Blk.other (by first | (simp; done) | (simp; omega) | omega)) | (with_reducible apply Blk.alloc) | (with_reducible apply Blk.drewN) | (with_reducible apply Blk.drew) | (with_reducible apply Blk.below) | (simp; omega)))), ⟨.int .i64 0, .int .i64 0, by (repeat' (first | (with_reducible assumption) | rfl | omega | (with_reducible exact Blk.new (by first | rfl | (simp; done) | (simp; omega))) | (with_reducible apply Blk.set) | (with_reducible apply Blk.other (by first | (simp; done) | (simp; omega) | omega)) | (with_reducible apply Blk.alloc) | (with_reducible apply Blk.drewN) | (with_reducible apply Blk.drew) | (with_reducible apply Blk.below) | (simp; omega)))⟩, by (repeat' (first | (with_reducible exact Below.refl _ _) | (with_reducible assumption) | (with_reducible refine Below.drew ?_) | (with_reducible refine below_drewN ?_ _) | (with_reducible refine Below.alloc ?_ ?_ _) | (with_reducible refine Below.setCell ?_ ?_ _) | (refine Below.trans ?_ (Below.mono (by assumption) (by first | omega | (with_reducible exact Below.size (by assumption)) | (simp; done) | (simp; omega)))) | (with_reducible exact Nat.le_refl _) | omega | (with_reducible exact Below.size (by assumption)) | (simp only [World.size_alloc, World.size_setCell, World.size_drew]; omega) | (simp; done) | (simp; omega)))⟩
    case round =>
      obtain ⟨k, rfl, hk, hB1, ⟨x, y, hB0⟩, hbel⟩ := hrel
      obtain ⟨s1, s2, s3⟩ := lostP_small l (by omega) k (by omega)
      have hstep : lostP l (k + 1) = lowP (l * (lostP l k).1) ((k + 1) * (lostP l k).2 + l * (lostP l k).1) := rfl
      have HS := Lib.hid hstep
      clear hstep
      obtain ⟨p, hp⟩ : ∃ p, (lostP l k).1 = p := ⟨_, rfl⟩
      obtain ⟨q, hq⟩ : ∃ q, (lostP l k).2 = q := ⟨_, rfl⟩
      have HP := Lib.hid hp
      have HQ := Lib.hid hq
      rw [hp] at hB1 s1
      rw [hq] at hB1 s2 s3
      clear hp hq
      have m1 : (l : Int) * p ≤ 600000000 := by have h : l * p ≤ 600000000 := Nat.mul_le_mul (show l ≤ 6 by omega) s1; rw [← Int.natCast_mul]; omega
      have m2 : 0 ≤ (l : Int) * p := Int.mul_nonneg (by omega) (by omega)
      have m3 : ((k : Int) + 1) * q ≤ 900000000 := by have h : (k + 1) * q ≤ 900000000 := Nat.mul_le_mul (show k + 1 ≤ 9 by omega) s3; rw [show ((k : Int) + 1) * q = (((k + 1) * q : Nat) : Int) from by push_cast; rfl]; omega
      have m4 : 1 ≤ ((k : Int) + 1) * q := by have h : 1 ≤ (k + 1) * q := Nat.mul_le_mul (show 1 ≤ k + 1 by omega) s2; rw [show ((k : Int) + 1) * q = (((k + 1) * q : Nat) : Int) from by push_cast; rfl]; omega
      obtain ⟨c0, c1, f0, f1, l1⟩ := hB1.two
      obtain ⟨d0, d1, g0, g1, l0⟩ := hB0.two
      by_cases hkt : k < t
      · go_wp2_with fail
        refine (iLowest_any _ _ _ (by omega) (by omega) (by omega) (by omega)).mono ?_
        rintro e w1 ⟨rfl, hb⟩
        obtain ⟨hc, hf⟩ := bcell hb
        have hz := hb.size
        have e1 : ((l : Int) * p).toNat = l * p := by rw [← Int.natCast_mul, Int.toNat_natCast]
        have e2 : (((k : Int) + 1) * q + (l : Int) * p).toNat = (k + 1) * q + l * p := by
          rw [show ((k : Int) + 1) * q + (l : Int) * p = (((k + 1) * q + l * p : Nat) : Int) by push_cast; rfl, Int.toNat_natCast]
        rw [e1, e2]
        clear e1 e2
        have hE : lowP (l * p) ((k + 1) * q + l * p) = lostP l (k + 1) := by rw [HS.out, HP.out, HQ.out]
        rw [hE]
        clear hE
        go_wp2_with fail
        go_roundw
        case rel =>
          exact ⟨k + 1, by go_num, by omega, by (repeat' (first | (with_reducible assumption) | rfl | omega | (with_reducible exact Blk.new (by first | rfl | (simp; done) | (simp; omega))) | (with_reducible apply Blk.set) | (with_reducible apply Blk.other (by first | (simp; done) | (simp; omega) | omega)) | (with_reducible apply Blk.alloc) | (with_reducible apply Blk.drewN) | (with_reducible apply Blk.drew) | (with_reducible apply Blk.below) | (simp; omega))), ⟨x, y, by (repeat' (first | (with_reducible assumption) | rfl | omega | (with_reducible exact Blk.new (by first | rfl | (simp; done) | (simp; omega))) | (with_reducible apply Blk.set) | (with_reducible apply Blk.other (by first | (simp; done) | (simp; omega) | omega)) | (with_reducible apply Blk.alloc) | (with_reducible apply Blk.drewN) | (with_reducible apply Blk.drew) | (with_reducible apply Blk.below) | (simp; omega)))⟩, by (repeat' (first | (with_reducible exact Below.refl _ _) | (with_reducible assumption) | (with_reducible refine Below.drew ?_) | (with_reducible refine below_drewN ?_ _) | (with_reducible refine Below.alloc ?_ ?_ _) | (with_reducible refine Below.setCell ?_ ?_ _) | (refine Below.trans ?_ (Below.mono (by assumption) (by first | omega | (with_reducible exact Below.size (by assumption)) | (simp; done) | (simp; omega)))) | (with_reducible exact Nat.le_refl _) | omega | (with_reducible exact Below.size (by assumption)) | (simp only [World.size_alloc, World.size_setCell, World.size_drew]; omega) | (simp; done) | (simp; omega)))⟩
        case measure => simp [intOf]; omega
      · obtain rfl : k = t := by omega
        go_wp2_with fail
        refine bodyPost_ret (v := .tuple #[.agg #[.int .i64 p, .int .i64 q], .bool true]) (by simp [results, Try.results25, go_sem, d0, d1]) rfl ⟨?_, by (repeat' (first | (with_reducible exact Below.refl _ _) | (with_reducible assumption) | (with_reducible refine Below.drew ?_) | (with_reducible refine below_drewN ?_ _) | (with_reducible refine Below.alloc ?_ ?_ _) | (with_reducible refine Below.setCell ?_ ?_ _) | (refine Below.trans ?_ (Below.mono (by assumption) (by first | omega | (with_reducible exact Below.size (by assumption)) | (simp; done) | (simp; omega)))) | (with_reducible exact Nat.le_refl _) | omega | (with_reducible exact Below.size (by assumption)) | (simp only [World.size_alloc, World.size_setCell, World.size_drew]; omega) | (simp; done) | (simp; omega)))⟩
        rw [HP.out, HQ.out, hok]
  · have hno : loadOk l t = false := by simpa using hok
    have hN : lostN l t = 0 := by simp [lostN, hno]
    have hD : lostD l t = 0 := by simp [lostD, hno]
    rw [hN, hD]
    clear hN hD
    go_enter Try.func25, Try.ntmps25
    go_wp2_with (go_at_call 52; refine (iLoadValid_any _ _ _).mono ?_; rintro e w1 ⟨rfl, rfl⟩)
    go_returns
    exact ⟨by rw [hno], by (repeat' (first | (with_reducible exact Below.refl _ _) | (with_reducible assumption) | (with_reducible refine Below.drew ?_) | (with_reducible refine below_drewN ?_ _) | (with_reducible refine Below.alloc ?_ ?_ _) | (with_reducible refine Below.setCell ?_ ?_ _) | (refine Below.trans ?_ (Below.mono (by assumption) (by first | omega | (with_reducible exact Below.size (by assumption)) | (simp; done) | (simp; omega)))) | (with_reducible exact Nat.le_refl _) | omega | (with_reducible exact Below.size (by assumption)) | (simp only [World.size_alloc, World.size_setCell, World.size_drew]; omega) | (simp; done) | (simp; omega)))⟩
set_option maxHeartbeats 400000 in
theorem sLostPart_any (l t : Int) (w : World) :
    Calls Try.prog 24 #[.int .i64 l, .int .i64 t] w fun e w' => e = .returned (.tuple #[.agg #[.int .i64 (lostN l t), .int .i64 (lostD l t)], .bool (loadOk l t)]) ∧ Below w.heap.size w w' := by
  by_cases hok : loadOk l t = true
  · have hv := (loadOk_iff l t).1 hok
    obtain ⟨a1, a2, a3, a4⟩ := hv
    have hN : lostN l t = (lostP l.toNat t.toNat).1 := by simp [lostN, hok]
    have hD : lostD l t = (lostP l.toNat t.toNat).2 := by simp [lostD, hok]
    rw [hN, hD]
    clear hN hD
    obtain ⟨l, rfl⟩ := Int.eq_ofNat_of_zero_le a1
    obtain ⟨t, rfl⟩ := Int.eq_ofNat_of_zero_le a3
    simp only [Int.toNat_natCast]
    go_enter Try.func24, Try.ntmps24
    go_wp2_with (go_at_call 50; refine (sL7Ok_any _ _ _).mono ?_; rintro e w1 ⟨rfl, rfl⟩)
    go_loopw [7] (fun n wr => ∃ k : Nat, n = .int .i64 (k + 1) ∧ k ≤ t ∧ Blk wr (w.heap.size + 1) #[.int .i64 (lostP l k).1, .int .i64 (lostP l k).2] 25 ∧
        (∃ x y, Blk wr w.heap.size #[x, y] 25) ∧ Below w.heap.size w wr) (fun n _ => t + 1 - (intOf n).toNat)
    case atStart => exact ⟨0, rfl, by omega, by (show Blk _ _ #[.int .i64 1, .int .i64 1] _; (repeat' (first | (with_reducible assumption) | rfl | omega | (with_reducible exact Blk.new (by first | rfl | (simp; done) | (simp; omega))) | (with_reducible apply Blk.set) | (with_reducible apply Blk.other (by first | (simp; done) | (simp; omega) | omega)) | (with_reducible apply Blk.alloc) | (with_reducible apply Blk.drewN) | (with_reducible apply Blk.drew) | (with_reducible apply Blk.below) | (simp; omega)))), ⟨.int .i64 0, .int .i64 0, by (repeat' (first | (with_reducible assumption) | rfl | omega | (with_reducible exact Blk.new (by first | rfl | (simp; done) | (simp; omega))) | (with_reducible apply Blk.set) | (with_reducible apply Blk.other (by first | (simp; done) | (simp; omega) | omega)) | (with_reducible apply Blk.alloc) | (with_reducible apply Blk.drewN) | (with_reducible apply Blk.drew) | (with_reducible apply Blk.below) | (simp; omega)))⟩, by (repeat' (first | (with_reducible exact Below.refl _ _) | (with_reducible assumption) | (with_reducible refine Below.drew ?_) | (with_reducible refine below_drewN ?_ _) | (with_reducible refine Below.alloc ?_ ?_ _) | (with_reducible refine Below.setCell ?_ ?_ _) | (refine Below.trans ?_ (Below.mono (by assumption) (by first | omega | (with_reducible exact Below.size (by assumption)) | (simp; done) | (simp; omega)))) | (with_reducible exact Nat.le_refl _) | omega | (with_reducible exact Below.size (by assumption)) | (simp only [World.size_alloc, World.size_setCell, World.size_drew]; omega) | (simp; done) | (simp; omega)))⟩
    case round =>
      obtain ⟨k, rfl, hk, hB1, ⟨x, y, hB0⟩, hbel⟩ := hrel
      obtain ⟨s1, s2, s3⟩ := lostP_small l (by omega) k (by omega)
      have hstep : lostP l (k + 1) = lowP (l * (lostP l k).1) ((k + 1) * (lostP l k).2 + l * (lostP l k).1) := rfl
      have HS := Lib.hid hstep
      clear hstep
      obtain ⟨p, hp⟩ : ∃ p, (lostP l k).1 = p := ⟨_, rfl⟩
      obtain ⟨q, hq⟩ : ∃ q, (lostP l k).2 = q := ⟨_, rfl⟩
      have HP := Lib.hid hp
      have HQ := Lib.hid hq
      rw [hp] at hB1 s1
      rw [hq] at hB1 s2 s3
      clear hp hq
      have m1 : (l : Int) * p ≤ 600000000 := by have h : l * p ≤ 600000000 := Nat.mul_le_mul (show l ≤ 6 by omega) s1; rw [← Int.natCast_mul]; omega
      have m2 : 0 ≤ (l : Int) * p := Int.mul_nonneg (by omega) (by omega)
      have m3 : ((k : Int) + 1) * q ≤ 900000000 := by have h : (k + 1) * q ≤ 900000000 := Nat.mul_le_mul (show k + 1 ≤ 9 by omega) s3; rw [show ((k : Int) + 1) * q = (((k + 1) * q : Nat) : Int) from by push_cast; rfl]; omega
      have m4 : 1 ≤ ((k : Int) + 1) * q := by have h : 1 ≤ (k + 1) * q := Nat.mul_le_mul (show 1 ≤ k + 1 by omega) s2; rw [show ((k : Int) + 1) * q = (((k + 1) * q : Nat) : Int) from by push_cast; rfl]; omega
      obtain ⟨c0, c1, f0, f1, l1⟩ := hB1.two
      obtain ⟨d0, d1, g0, g1, l0⟩ := hB0.two
      by_cases hkt : k < t
      · go_wp2_with fail
        refine (sLow_any _ _ _ (by omega) (by omega) (by omega) (by omega)).mono ?_
        rintro e w1 ⟨rfl, hb⟩
        obtain ⟨hc, hf⟩ := bcell hb
        have hz := hb.size
        have e1 : ((l : Int) * p).toNat = l * p := by rw [← Int.natCast_mul, Int.toNat_natCast]
        have e2 : (((k : Int) + 1) * q + (l : Int) * p).toNat = (k + 1) * q + l * p := by
          rw [show ((k : Int) + 1) * q + (l : Int) * p = (((k + 1) * q + l * p : Nat) : Int) by push_cast; rfl, Int.toNat_natCast]
        rw [e1, e2]
        clear e1 e2
        have hE : lowP (l * p) ((k + 1) * q + l * p) = lostP l (k + 1) := by rw [HS.out, HP.out, HQ.out]
        rw [hE]
        clear hE
        go_wp2_with fail
        go_roundw
        case rel =>
          exact ⟨k + 1, by go_num, by omega, by (repeat' (first | (with_reducible assumption) | rfl | omega | (with_reducible exact Blk.new (by first | rfl | (simp; done) | (simp; omega))) | (with_reducible apply Blk.set) | (with_reducible apply Blk.other (by first | (simp; done) | (simp; omega) | omega)) | (with_reducible apply Blk.alloc) | (with_reducible apply Blk.drewN) | (with_reducible apply Blk.drew) | (with_reducible apply Blk.below) | (simp; omega))), ⟨x, y, by (repeat' (first | (with_reducible assumption) | rfl | omega | (with_reducible exact Blk.new (by first | rfl | (simp; done) | (simp; omega))) | (with_reducible apply Blk.set) | (with_reducible apply Blk.other (by first | (simp; done) | (simp; omega) | omega)) | (with_reducible apply Blk.alloc) | (with_reducible apply Blk.drewN) | (with_reducible apply Blk.drew) | (with_reducible apply Blk.below) | (simp; omega)))⟩, by (repeat' (first | (with_reducible exact Below.refl _ _) | (with_reducible assumption) | (with_reducible refine Below.drew ?_) | (with_reducible refine below_drewN ?_ _) | (with_reducible refine Below.alloc ?_ ?_ _) | (with_reducible refine Below.setCell ?_ ?_ _) | (refine Below.trans ?_ (Below.mono (by assumption) (by first | omega | (with_reducible exact Below.size (by assumption)) | (simp; done) | (simp; omega)))) | (with_reducible exact Nat.le_refl _) | omega | (with_reducible exact Below.size (by assumption)) | (simp only [World.size_alloc, World.size_setCell, World.size_drew]; omega) | (simp; done) | (simp; omega)))⟩
        case measure => simp [intOf]; omega
      · obtain rfl : k = t := by omega
        go_wp2_with fail
        refine bodyPost_ret (v := .tuple #[.agg #[.int .i64 p, .int .i64 q], .bool true]) (by simp [results, Try.results24, go_sem, d0, d1]) rfl ⟨?_, by (repeat' (first | (with_reducible exact Below.refl _ _) | (with_reducible assumption) | (with_reducible refine Below.drew ?_) | (with_reducible refine below_drewN ?_ _) | (with_reducible refine Below.alloc ?_ ?_ _) | (with_reducible refine Below.setCell ?_ ?_ _) | (refine Below.trans ?_ (Below.mono (by assumption) (by first | omega | (with_reducible exact Below.size (by assumption)) | (simp; done) | (simp; omega)))) | (with_reducible exact Nat.le_refl _) | omega | (with_reducible exact Below.size (by assumption)) | (simp only [World.size_alloc, World.size_setCell, World.size_drew]; omega) | (simp; done) | (simp; omega)))⟩
        rw [HP.out, HQ.out, hok]
  · have hno : loadOk l t = false := by simpa using hok
    have hN : lostN l t = 0 := by simp [lostN, hno]
    have hD : lostD l t = 0 := by simp [lostD, hno]
    rw [hN, hD]
    clear hN hD
    go_enter Try.func24, Try.ntmps24
    go_wp2_with (go_at_call 50; refine (sL7Ok_any _ _ _).mono ?_; rintro e w1 ⟨rfl, rfl⟩)
    go_returns
    exact ⟨by rw [hno], by (repeat' (first | (with_reducible exact Below.refl _ _) | (with_reducible assumption) | (with_reducible refine Below.drew ?_) | (with_reducible refine below_drewN ?_ _) | (with_reducible refine Below.alloc ?_ ?_ _) | (with_reducible refine Below.setCell ?_ ?_ _) | (refine Below.trans ?_ (Below.mono (by assumption) (by first | omega | (with_reducible exact Below.size (by assumption)) | (simp; done) | (simp; omega)))) | (with_reducible exact Nat.le_refl _) | omega | (with_reducible exact Below.size (by assumption)) | (simp only [World.size_alloc, World.size_setCell, World.size_drew]; omega) | (simp; done) | (simp; omega)))⟩
end Go.Proofs.Ytmckjikdecmagaa
