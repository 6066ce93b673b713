/- The walks of the laws of BusyParts, LostSum and TakenLoad. -/
import Derived.Test.YtmckjikdecmagaaB7
set_option linter.unusedSimpArgs false
set_option linter.unusedVariables false
namespace Go.Proofs.Ytmckjikdecmagaa
open Go.RowKit

theorem Rds.drewN {w : World} {v : Value} {n size : Nat} {xs : List Value} (k : Nat) (h : Rds w v n size xs) : Rds (w.drewN k) v n size xs := h

def busyI (l t : Nat) : List Int := (busyL l t).map (fun x : Nat => (x : Int))
theorem busyR_yes (l t : Nat) (h : loadOk l t = true) : busyR l t = busyI l t := by simp only [busyR, h, if_true, Int.toNat_natCast, busyI]
theorem busyR_no (l t : Int) (h : loadOk l t = false) : busyR l t = [] := by simp [busyR, h]
theorem busyI_len (l t : Nat) : (busyI l t).length = t + 1 := by simp [busyI, busyL]
theorem busyI_at (l t n : Nat) (h : n ≤ t) : (ints (busyI l t))[n]? = some (.int .i64 (busyAt l t n)) := by
  rw [ints_at _ _ ((busyAt l t n : Nat) : Int)]; simp [busyI, busyL, show n < t + 1 by omega]
theorem sum_cast (xs : List Nat) : sumL (xs.map (fun x : Nat => (x : Int))) = (xs.sum : Nat) := by
  have h : ∀ (ys : List Nat) (a : Int), (ys.map (fun x : Nat => (x : Int))).foldl (· + ·) a = a + (ys.sum : Nat) := by
    intro ys
    induction ys with
    | nil => intro a; simp
    | cons y ys ih => intro a; simp only [List.map_cons, List.foldl_cons, ih, List.sum_cons]; omega
  rw [sumL, h]; omega
theorem sum_busy (l t k : Nat) : sumL ((busyI l t).take k) = (sumTo l t k : Nat) := by
  rw [busyI, ← List.map_take, sum_cast]; rfl
theorem sumTo_any (l t k : Nat) (hl : l ≤ 6) (ht : t ≤ 8) : sumTo l t k ≤ 100000000 := by
  by_cases h : k ≤ 9
  · exact sumTo_small l t k hl ht h
  · have e : sumTo l t k = sumTo l t 9 := by
      unfold sumTo
      rw [List.take_of_length_le (by simp [busyL]; omega), List.take_of_length_le (by simp [busyL]; omega)]
    rw [e]; exact sumTo_small l t 9 hl ht (by omega)
theorem sumL_busyI (l t : Nat) : sumL (busyI l t) = (sumTo l t (t + 1) : Nat) := by
  rw [← sum_busy, List.take_of_length_le (by simp [busyI, busyL])]

set_option maxHeartbeats 2000000 in
theorem wBusyParts (a : Option Addr) (len cap : Nat) (zs : List Int) (w : World) (h0 : IsRow .u8 w a len cap zs) :
    Calls Try.prog 12 #[.slice a len cap] w fun e w' => e = .returned (.bool true) ∧ Below w.heap.size w w' := by
  have h := h0.code
  have hm := h.bd
  by_cases hbig : len > 1048576
  · go_enter Try.func12, Try.ntmps12
    go_wp2
    go_returns
    exact ⟨rfl, Below.refl _ _⟩
  · go_enter Try.func12, Try.ntmps12
    go_wp2_with fail
    refine (DrawBusyParts_any _ _ _ _ _ h).mono ?_
    rintro e w1 ⟨l, t, rfl, k1, k2, k3, k4, hb1⟩
    go_wp2_with fail
    refine (iBusy_any _ _ _).mono ?_
    rintro e w2 ⟨v, rfl, ho2, hb2⟩
    have hbel2 : Below w.heap.size w w2 := by (repeat' (first | (with_reducible exact Below.refl _ _) | (with_reducible assumption) | (with_reducible refine Below.drew ?_) | (with_reducible refine below_drewN ?_ _) | (with_reducible refine Below.alloc ?_ ?_ _) | (with_reducible refine Below.setCell ?_ ?_ _) | (refine Below.trans ?_ (Below.mono (by assumption) (by first | omega | (with_reducible exact Below.size (by assumption)) | (simp; done) | (simp; omega)))) | (with_reducible exact Nat.le_refl _) | omega | (with_reducible exact Below.size (by assumption)) | (simp only [World.size_alloc, World.size_setCell, World.size_drew]; omega) | (simp; done) | (simp; omega)))
    have hr2 := Rds.ofOwns ho2
    clear ho2 hb2
    go_wp2_with fail
    refine (sBusy_any _ _ _).mono ?_
    rintro e w3 ⟨u, rfl, ho3, hb3⟩
    have hbel3 : Below w.heap.size w w3 := by (repeat' (first | (with_reducible exact Below.refl _ _) | (with_reducible assumption) | (with_reducible refine Below.drew ?_) | (with_reducible refine below_drewN ?_ _) | (with_reducible refine Below.alloc ?_ ?_ _) | (with_reducible refine Below.setCell ?_ ?_ _) | (refine Below.trans ?_ (Below.mono (by assumption) (by first | omega | (with_reducible exact Below.size (by assumption)) | (simp; done) | (simp; omega)))) | (with_reducible exact Nat.le_refl _) | omega | (with_reducible exact Below.size (by assumption)) | (simp only [World.size_alloc, World.size_setCell, World.size_drew]; omega) | (simp; done) | (simp; omega)))
    have hr3 := hr2.below hb3
    have hu3 := Rds.ofOwns ho3
    clear ho3 hb3 hr2
    go_wp2_with fail
    refine (sameInts_any _ _ _ _ _ hr3 hu3).mono ?_
    rintro e w4 ⟨rfl, hb4⟩
    rw [decide_eq_true rfl]
    have hbel4 : Below w.heap.size w w4 := by (repeat' (first | (with_reducible exact Below.refl _ _) | (with_reducible assumption) | (with_reducible refine Below.drew ?_) | (with_reducible refine below_drewN ?_ _) | (with_reducible refine Below.alloc ?_ ?_ _) | (with_reducible refine Below.setCell ?_ ?_ _) | (refine Below.trans ?_ (Below.mono (by assumption) (by first | omega | (with_reducible exact Below.size (by assumption)) | (simp; done) | (simp; omega)))) | (with_reducible exact Nat.le_refl _) | omega | (with_reducible exact Below.size (by assumption)) | (simp only [World.size_alloc, World.size_setCell, World.size_drew]; omega) | (simp; done) | (simp; omega)))
    have hr4 := hr3.below hb4
    clear hb4 hr3 hu3
    by_cases hok : loadOk l t = true
    · obtain ⟨a1, a2, a3, a4⟩ := (loadOk_iff l t).1 hok
      obtain ⟨l, rfl⟩ := Int.eq_ofNat_of_zero_le a1
      obtain ⟨t, rfl⟩ := Int.eq_ofNat_of_zero_le a3
      have hl : l ≤ 6 := by omega
      have ht : t ≤ 8 := by omega
      rw [busyR_yes l t hok, busyI_len] at hr4
      obtain ⟨va, vc, rfl, _, hvm, hvc, hcell⟩ := hr4.open1
      rcases hcell with hcell | ⟨b, off, rfl, hbl, hcell⟩
      · omega
      have hcc : ∀ i, i ≤ t → w4.cell? ⟨b, off + i, none⟩ = some (.int .i64 (busyAt l t i)) := fun i hi => by rw [hcell i (by omega), busyI_at l t i hi]
      have HC := Lib.hid hcc
      clear hcell hcc hr4 hok
      have hne : ((t : Int) + 1 == 0) = false := by simp; omega
      go_wp2_with fail
      go_loopw [6] (fun n wr => ∃ j q : Nat, j ≤ t ∧ n = .int .i64 (j + 1) ∧ wr = w4.drewN q) (fun n _ => t + 1 - (intOf n).toNat)
      case atStart => exact ⟨0, 0, by omega, rfl, rfl⟩
      case round =>
        obtain ⟨j, q, hj, rfl, rfl⟩ := hrel
        by_cases hjt : j < t
        · have c1 := HC.out j (by omega)
          have c2 := HC.out (j + 1) (by omega)
          have b1 := busyAt_small l t j hl ht (by omega)
          have b2 := busyAt_small l t (j + 1) hl ht (by omega)
          have hbal := busy_balance l t j hl ht (by omega)
          obtain ⟨x, hx⟩ : ∃ x, busyAt l t j = x := ⟨_, rfl⟩
          obtain ⟨y, hy⟩ : ∃ y, busyAt l t (j + 1) = y := ⟨_, rfl⟩
          rw [hx] at c1 b1 hbal
          rw [hy] at c2 b2 hbal
          clear hx hy
          have m1 : (x : Int) * l ≤ 60000000 := by have h : x * l ≤ 60000000 := Nat.mul_le_mul b1 hl; rw [← Int.natCast_mul]; omega
          have m2 : 0 ≤ (x : Int) * l := Int.mul_nonneg (by omega) (by omega)
          have m3 : (y : Int) * (j + 1) = (x : Int) * l := by rw [show (y : Int) * (j + 1) = ((y * (j + 1) : Nat) : Int) from by push_cast; rfl, ← hbal]; push_cast; rfl
          have m4 : (y : Int) * (j + 1) ≤ 60000000 := by omega
          have m5 : 0 ≤ (y : Int) * (j + 1) := by omega
          have hE : ((x : Int) * l != (y : Int) * (j + 1)) = false := by simp [m3]
          clear m3 hbal
          have c2' : w4.cell? ⟨b, off + j + 1, none⟩ = some (.int .i64 y) := c2
          have c2'' : w4.cell? ⟨b, off + (j + 1), none⟩ = some (.int .i64 y) := c2
          go_wp2_with fail
          go_quiet (fail)
          go_wp2
          go_roundw
          case rel => exact ⟨j + 1, _, by omega, by go_num, rfl⟩
          case measure => simp [intOf]; omega
        · obtain rfl : j = t := by omega
          have c1 : w4.cell? ⟨b, off, none⟩ = some (.int .i64 (busyAt l j 0)) := HC.out 0 (by omega)
          have b1 := busy_pos l j hl ht
          obtain ⟨x, hx⟩ : ∃ x, busyAt l j 0 = x := ⟨_, rfl⟩
          rw [hx] at c1 b1
          clear hx
          have hd1 : decide ((1 : Int) ≤ x) = true := by simp; omega
          go_wp2
          go_returns
          exact ⟨rfl, by (repeat' (first | (with_reducible exact Below.refl _ _) | (with_reducible assumption) | (with_reducible refine Below.drew ?_) | (with_reducible refine below_drewN ?_ _) | (with_reducible refine Below.alloc ?_ ?_ _) | (with_reducible refine Below.setCell ?_ ?_ _) | (refine Below.trans ?_ (Below.mono (by assumption) (by first | omega | (with_reducible exact Below.size (by assumption)) | (simp; done) | (simp; omega)))) | (with_reducible exact Nat.le_refl _) | omega | (with_reducible exact Below.size (by assumption)) | (simp only [World.size_alloc, World.size_setCell, World.size_drew]; omega) | (simp; done) | (simp; omega)))⟩
    · have hno : loadOk l t = false := by simpa using hok
      rw [busyR_no l t hno] at hr4
      obtain ⟨va, vc, rfl, _, hvm, hvc, hcell⟩ := hr4.open1
      clear hcell hr4 hno hok
      go_wp2_with fail
      refine (alive_any _).mono ?_
      rintro e w5 ⟨rfl, hb5⟩
      go_wp2
      go_returns
      exact ⟨rfl, by (repeat' (first | (with_reducible exact Below.refl _ _) | (with_reducible assumption) | (with_reducible refine Below.drew ?_) | (with_reducible refine below_drewN ?_ _) | (with_reducible refine Below.alloc ?_ ?_ _) | (with_reducible refine Below.setCell ?_ ?_ _) | (refine Below.trans ?_ (Below.mono (by assumption) (by first | omega | (with_reducible exact Below.size (by assumption)) | (simp; done) | (simp; omega)))) | (with_reducible exact Nat.le_refl _) | omega | (with_reducible exact Below.size (by assumption)) | (simp only [World.size_alloc, World.size_setCell, World.size_drew]; omega) | (simp; done) | (simp; omega)))⟩

set_option maxHeartbeats 2000000 in
theorem wLostSum (a : Option Addr) (len cap : Nat) (zs : List Int) (w : World) (h0 : IsRow .u8 w a len cap zs) :
    Calls Try.prog 13 #[.slice a len cap] w fun e w' => e = .returned (.bool true) ∧ Below w.heap.size w w' := by
  have h := h0.code
  have hm := h.bd
  by_cases hbig : len > 1048576
  · go_enter Try.func13, Try.ntmps13
    go_wp2
    go_returns
    exact ⟨rfl, Below.refl _ _⟩
  · go_enter Try.func13, Try.ntmps13
    go_wp2_with fail
    refine (DrawLostSum_any _ _ _ _ _ h).mono ?_
    rintro e w1 ⟨l, t, rfl, k1, k2, k3, k4, hb1⟩
    have hz1 := hb1.size
    obtain ⟨pn, hpn⟩ : ∃ o, lostN l t = o := ⟨_, rfl⟩
    obtain ⟨pd, hpd⟩ : ∃ o, lostD l t = o := ⟨_, rfl⟩
    obtain ⟨o, ho⟩ : ∃ o, loadOk l t = o := ⟨_, rfl⟩
    have HPN := Lib.hid hpn
    have HPD := Lib.hid hpd
    have HO := Lib.hid ho
    clear hpn hpd ho
    go_wp2_with fail
    refine (iLostSum_any _ _ _).mono ?_
    rintro e w2 ⟨rfl, hb2⟩
    rw [HPN.out, HPD.out, HO.out]
    have hz2 := hb2.size
    have hP2 := Blk.new (w := w2) (cs := #[.int .i64 pn, .int .i64 pd]) (T := 25) rfl
    have hbel2 : Below w.heap.size w w2 := by (repeat' (first | (with_reducible exact Below.refl _ _) | (with_reducible assumption) | (with_reducible refine Below.drew ?_) | (with_reducible refine below_drewN ?_ _) | (with_reducible refine Below.alloc ?_ ?_ _) | (with_reducible refine Below.setCell ?_ ?_ _) | (refine Below.trans ?_ (Below.mono (by assumption) (by first | omega | (with_reducible exact Below.size (by assumption)) | (simp; done) | (simp; omega)))) | (with_reducible exact Nat.le_refl _) | omega | (with_reducible exact Below.size (by assumption)) | (simp only [World.size_alloc, World.size_setCell, World.size_drew]; omega) | (simp; done) | (simp; omega)))
    clear hb2
    go_wp2_with fail
    refine (sLostSum_any _ _ _).mono ?_
    rintro e w3 ⟨rfl, hb3⟩
    rw [HPN.out, HPD.out, HO.out]
    have hz3 := hb3.size
    have hP3 := Blk.belowAll hP2 hb3
    have hbel3 : Below w.heap.size w w3 := by (repeat' (first | (with_reducible exact Below.refl _ _) | (with_reducible assumption) | (with_reducible refine Below.drew ?_) | (with_reducible refine below_drewN ?_ _) | (with_reducible refine Below.alloc ?_ ?_ _) | (with_reducible refine Below.setCell ?_ ?_ _) | (refine Below.trans ?_ (Below.mono (by assumption) (by first | omega | (with_reducible exact Below.size (by assumption)) | (simp; done) | (simp; omega)))) | (with_reducible exact Nat.le_refl _) | omega | (with_reducible exact Below.size (by assumption)) | (simp only [World.size_alloc, World.size_setCell, World.size_drew]; omega) | (simp; done) | (simp; omega)))
    obtain ⟨p0, p1, pf0, pf1, pl⟩ := hP3.two
    have hoo : (o != o) = false := by cases o <;> rfl
    clear hb3 hP2
    go_wp2_with fail
    refine (iBusy_any _ _ _).mono ?_
    rintro e w4 ⟨v, rfl, ho4, hb4⟩
    have hP4 := Blk.belowAll (hP3.alloc _) hb4
    have hbel4 : Below w.heap.size w w4 := by (repeat' (first | (with_reducible exact Below.refl _ _) | (with_reducible assumption) | (with_reducible refine Below.drew ?_) | (with_reducible refine below_drewN ?_ _) | (with_reducible refine Below.alloc ?_ ?_ _) | (with_reducible refine Below.setCell ?_ ?_ _) | (refine Below.trans ?_ (Below.mono (by assumption) (by first | omega | (with_reducible exact Below.size (by assumption)) | (simp; done) | (simp; omega)))) | (with_reducible exact Nat.le_refl _) | omega | (with_reducible exact Below.size (by assumption)) | (simp only [World.size_alloc, World.size_setCell, World.size_drew]; omega) | (simp; done) | (simp; omega)))
    have hr4 := Rds.ofOwns ho4
    clear hb4 hP3 p0 p1 pf0 pf1 pl ho4
    obtain ⟨p0, p1, pf0, pf1, pl⟩ := hP4.two
    cases o
    · have HN0 : pn = 0 := by rw [← HPN.out, lostN, HO.out]; rfl
      have HD0 : pd = 0 := by rw [← HPD.out, lostD, HO.out]; rfl
      subst HN0 HD0
      rw [busyR_no l t HO.out] at hr4
      obtain ⟨va, vc, rfl, _, hvm, hvc, hcell⟩ := hr4.open1
      clear hcell hr4
      go_wp2_with fail
      refine (alive_any _).mono ?_
      rintro e w5 ⟨rfl, hb5⟩
      go_wp2
      go_returns
      exact ⟨rfl, by (repeat' (first | (with_reducible exact Below.refl _ _) | (with_reducible assumption) | (with_reducible refine Below.drew ?_) | (with_reducible refine below_drewN ?_ _) | (with_reducible refine Below.alloc ?_ ?_ _) | (with_reducible refine Below.setCell ?_ ?_ _) | (refine Below.trans ?_ (Below.mono (by assumption) (by first | omega | (with_reducible exact Below.size (by assumption)) | (simp; done) | (simp; omega)))) | (with_reducible exact Nat.le_refl _) | omega | (with_reducible exact Below.size (by assumption)) | (simp only [World.size_alloc, World.size_setCell, World.size_drew]; omega) | (simp; done) | (simp; omega)))⟩
    · obtain ⟨a1, a2, a3, a4⟩ := (loadOk_iff l t).1 HO.out
      obtain ⟨l, rfl⟩ := Int.eq_ofNat_of_zero_le a1
      obtain ⟨t, rfl⟩ := Int.eq_ofNat_of_zero_le a3
      have hl : l ≤ 6 := by omega
      have ht : t ≤ 8 := by omega
      have ePN : pn = (lostP l t).1 := by rw [← HPN.out, lostN, HO.out]; simp
      have ePD : pd = (lostP l t).2 := by rw [← HPD.out, lostD, HO.out]; simp
      obtain ⟨s1, s2, s3⟩ := lostP_small l hl t ht
      have s4 := lostP_le l hl t ht
      have hbl := busy_lost l t hl ht
      have hsm := sumTo_small l t (t + 1) hl ht (by omega)
      have hb3 := busyAt_small l t t hl ht (by omega)
      obtain ⟨x, hx⟩ : ∃ x, (lostP l t).1 = x := ⟨_, rfl⟩
      obtain ⟨y, hy⟩ : ∃ y, (lostP l t).2 = y := ⟨_, rfl⟩
      rw [hx] at ePN s1 s4 hbl
      rw [hy] at ePD s2 s3 s4 hbl
      subst ePN ePD
      rw [busyR_yes l t HO.out] at hr4
      have hr5 := hr4
      rw [busyI_len] at hr5
      obtain ⟨va, vc, rfl, _, hvm, hvc, hcell⟩ := hr5.open1
      rcases hcell with hcell | ⟨b, off, rfl, hbl2, hcell⟩
      · omega
      have c1 : w4.cell? ⟨b, off + t, none⟩ = some (.int .i64 (busyAt l t t)) := by rw [hcell t (by omega), busyI_at l t t (by omega)]
      obtain ⟨s, hs⟩ : ∃ s, sumTo l t (t + 1) = s := ⟨_, rfl⟩
      obtain ⟨z, hz⟩ : ∃ z, busyAt l t t = z := ⟨_, rfl⟩
      have HSUM : Hid (sumL (busyI l t) = (s : Int)) := by unfold Hid; rw [sumL_busyI, hs]
      rw [hs] at hbl hsm
      rw [hz] at hbl hb3 c1
      clear hs hz hx hy hcell hr5
      have m1 : (z : Int) * y ≤ 1000000000000000 := by have h : z * y ≤ 10000000 * 100000000 := Nat.mul_le_mul hb3 s3; rw [← Int.natCast_mul]; omega
      have m2 : 0 ≤ (z : Int) * y := Int.mul_nonneg (by omega) (by omega)
      have m3 : (s : Int) * x = (z : Int) * y := by rw [← Int.natCast_mul, ← hbl, Int.natCast_mul]
      have m4 : (s : Int) * x ≤ 1000000000000000 := by omega
      have m5 : 0 ≤ (s : Int) * x := by omega
      have hE : ((z : Int) * y == (s : Int) * x) = true := by simp [m3]
      have hbd : ∀ k, -1000000000000000000 ≤ sumL ((busyI l t).take k) ∧ sumL ((busyI l t).take k) ≤ 1000000000000000000 := by
        intro k
        rw [sum_busy]
        have := sumTo_any l t k hl ht
        omega
      have HBD := Lib.hid hbd
      have HR4 := Lib.hid hr4
      clear m3 hbl hbd hr4
      have hd1 : ((t : Int) + 1 == (t : Int) + 1) = true := by simp
      have hd2 : decide ((1 : Int) ≤ y) = true := by simp; omega
      go_wp2_with fail
      go_quiet ((go_at_call 42; exact Calls.quiet_of_same ((sumOf_any _ _ _ (HR4.out.drewN _) HBD.out).mono (fun e w' h => ⟨by rw [h.1, HSUM.out], h.2.symm⟩))))
      go_wp2
      go_returns
      exact ⟨rfl, by (repeat' (first | (with_reducible exact Below.refl _ _) | (with_reducible assumption) | (with_reducible refine Below.drew ?_) | (with_reducible refine below_drewN ?_ _) | (with_reducible refine Below.alloc ?_ ?_ _) | (with_reducible refine Below.setCell ?_ ?_ _) | (refine Below.trans ?_ (Below.mono (by assumption) (by first | omega | (with_reducible exact Below.size (by assumption)) | (simp; done) | (simp; omega)))) | (with_reducible exact Nat.le_refl _) | omega | (with_reducible exact Below.size (by assumption)) | (simp only [World.size_alloc, World.size_setCell, World.size_drew]; omega) | (simp; done) | (simp; omega)))⟩

set_option maxHeartbeats 2000000 in
theorem wTakenLoad (a : Option Addr) (len cap : Nat) (zs : List Int) (w : World) (h0 : IsRow .u8 w a len cap zs) :
    Calls Try.prog 15 #[.slice a len cap] w fun e w' => e = .returned (.bool true) ∧ Below w.heap.size w w' := by
  have h := h0.code
  have hm := h.bd
  by_cases hbig : len > 1048576
  · go_enter Try.func15, Try.ntmps15
    go_wp2
    go_returns
    exact ⟨rfl, Below.refl _ _⟩
  · go_enter Try.func15, Try.ntmps15
    go_wp2_with fail
    refine (DrawTakenLoad_any _ _ _ _ _ h).mono ?_
    rintro e w1 ⟨l, t, rfl, k1, k2, k3, k4, hb1⟩
    have hz1 := hb1.size
    obtain ⟨pn, hpn⟩ : ∃ o, takenN l t = o := ⟨_, rfl⟩
    obtain ⟨pd, hpd⟩ : ∃ o, takenD l t = o := ⟨_, rfl⟩
    obtain ⟨o, ho⟩ : ∃ o, loadOk l t = o := ⟨_, rfl⟩
    have HPN := Lib.hid hpn
    have HPD := Lib.hid hpd
    have HO := Lib.hid ho
    clear hpn hpd ho
    go_wp2_with fail
    refine (iTaken_any _ _ _).mono ?_
    rintro e w2 ⟨rfl, hb2⟩
    rw [HPN.out, HPD.out, HO.out]
    have hz2 := hb2.size
    have hP2 := Blk.new (w := w2) (cs := #[.int .i64 pn, .int .i64 pd]) (T := 25) rfl
    have hbel2 : Below w.heap.size w w2 := by (repeat' (first | (with_reducible exact Below.refl _ _) | (with_reducible assumption) | (with_reducible refine Below.drew ?_) | (with_reducible refine below_drewN ?_ _) | (with_reducible refine Below.alloc ?_ ?_ _) | (with_reducible refine Below.setCell ?_ ?_ _) | (refine Below.trans ?_ (Below.mono (by assumption) (by first | omega | (with_reducible exact Below.size (by assumption)) | (simp; done) | (simp; omega)))) | (with_reducible exact Nat.le_refl _) | omega | (with_reducible exact Below.size (by assumption)) | (simp only [World.size_alloc, World.size_setCell, World.size_drew]; omega) | (simp; done) | (simp; omega)))
    clear hb2
    go_wp2_with fail
    refine (sTaken_any _ _ _).mono ?_
    rintro e w3 ⟨rfl, hb3⟩
    rw [HPN.out, HPD.out, HO.out]
    have hz3 := hb3.size
    have hP3 := Blk.belowAll hP2 hb3
    have hbel3 : Below w.heap.size w w3 := by (repeat' (first | (with_reducible exact Below.refl _ _) | (with_reducible assumption) | (with_reducible refine Below.drew ?_) | (with_reducible refine below_drewN ?_ _) | (with_reducible refine Below.alloc ?_ ?_ _) | (with_reducible refine Below.setCell ?_ ?_ _) | (refine Below.trans ?_ (Below.mono (by assumption) (by first | omega | (with_reducible exact Below.size (by assumption)) | (simp; done) | (simp; omega)))) | (with_reducible exact Nat.le_refl _) | omega | (with_reducible exact Below.size (by assumption)) | (simp only [World.size_alloc, World.size_setCell, World.size_drew]; omega) | (simp; done) | (simp; omega)))
    obtain ⟨p0, p1, pf0, pf1, pl⟩ := hP3.two
    have hoo : (o != o) = false := by cases o <;> rfl
    clear hb3 hP2
    cases o
    · have HN0 : pn = 0 := by rw [← HPN.out, takenN, HO.out]; rfl
      have HD0 : pd = 0 := by rw [← HPD.out, takenD, HO.out]; rfl
      subst HN0 HD0
      go_wp2_with fail
      refine (alive_any _).mono ?_
      rintro e w5 ⟨rfl, hb5⟩
      go_wp2
      go_returns
      exact ⟨rfl, by (repeat' (first | (with_reducible exact Below.refl _ _) | (with_reducible assumption) | (with_reducible refine Below.drew ?_) | (with_reducible refine below_drewN ?_ _) | (with_reducible refine Below.alloc ?_ ?_ _) | (with_reducible refine Below.setCell ?_ ?_ _) | (refine Below.trans ?_ (Below.mono (by assumption) (by first | omega | (with_reducible exact Below.size (by assumption)) | (simp; done) | (simp; omega)))) | (with_reducible exact Nat.le_refl _) | omega | (with_reducible exact Below.size (by assumption)) | (simp only [World.size_alloc, World.size_setCell, World.size_drew]; omega) | (simp; done) | (simp; omega)))⟩
    · go_wp2_with fail
      refine (iBusy_any _ _ _).mono ?_
      rintro e w4 ⟨v, rfl, ho4, hb4⟩
      have hP4 := Blk.belowAll (hP3.alloc _) hb4
      have hbel4 : Below w.heap.size w w4 := by (repeat' (first | (with_reducible exact Below.refl _ _) | (with_reducible assumption) | (with_reducible refine Below.drew ?_) | (with_reducible refine below_drewN ?_ _) | (with_reducible refine Below.alloc ?_ ?_ _) | (with_reducible refine Below.setCell ?_ ?_ _) | (refine Below.trans ?_ (Below.mono (by assumption) (by first | omega | (with_reducible exact Below.size (by assumption)) | (simp; done) | (simp; omega)))) | (with_reducible exact Nat.le_refl _) | omega | (with_reducible exact Below.size (by assumption)) | (simp only [World.size_alloc, World.size_setCell, World.size_drew]; omega) | (simp; done) | (simp; omega)))
      have hr4 := Rds.ofOwns ho4
      clear hb4 hP3 p0 p1 pf0 pf1 pl ho4
      obtain ⟨p0, p1, pf0, pf1, pl⟩ := hP4.two
      obtain ⟨a1, a2, a3, a4⟩ := (loadOk_iff l t).1 HO.out
      obtain ⟨l, rfl⟩ := Int.eq_ofNat_of_zero_le a1
      obtain ⟨t, rfl⟩ := Int.eq_ofNat_of_zero_le a3
      have hl : l ≤ 6 := by omega
      have ht : t ≤ 8 := by omega
      have ePN : pn = (takenP l t).1 := by rw [← HPN.out, takenN, HO.out]; simp
      have ePD : pd = (takenP l t).2 := by rw [← HPD.out, takenD, HO.out]; simp
      obtain ⟨s1, s2, s3, s4, s5, s6⟩ := taken_facts l t hl ht
      have hsm := sumTo_small l t (t + 1) hl ht (by omega)
      have hmm := mean_small l t (t + 1) hl ht (by omega)
      obtain ⟨x, hx⟩ : ∃ x, (takenP l t).1 = x := ⟨_, rfl⟩
      obtain ⟨y, hy⟩ : ∃ y, (takenP l t).2 = y := ⟨_, rfl⟩
      rw [hx] at ePN s1 s2 s4 s5 s6
      rw [hy] at ePD s1 s3 s5 s6
      subst ePN ePD
      rw [busyR_yes l t HO.out] at hr4
      have hr5 := hr4
      rw [busyI_len] at hr5
      obtain ⟨va, vc, rfl, _, hvm, hvc, hcell⟩ := hr5.open1
      rcases hcell with hcell | ⟨b, off, rfl, hbl2, hcell⟩
      · omega
      have hcc : ∀ i, i ≤ t → w4.cell? ⟨b, off + i, none⟩ = some (.int .i64 (busyAt l t i)) := fun i hi => by rw [hcell i (by omega), busyI_at l t i hi]
      have HC := Lib.hid hcc
      obtain ⟨s, hs⟩ : ∃ s, sumTo l t (t + 1) = s := ⟨_, rfl⟩
      obtain ⟨mn, hmn⟩ : ∃ z, meanTo l t (t + 1) = z := ⟨_, rfl⟩
      have HSUM : Hid (sumL (busyI l t) = (s : Int)) := by unfold Hid; rw [sumL_busyI, hs]
      rw [hs] at s1 hsm
      rw [hmn] at s1 hmm
      have HMN := Lib.hid hmn
      clear hs hx hy hcell hr5 hcc hmn
      have m1 : (x : Int) * s ≤ 100000000000000000 := by have h : x * s ≤ 1000000000 * 100000000 := Nat.mul_le_mul s2 hsm; rw [← Int.natCast_mul]; omega
      have m2 : 0 ≤ (x : Int) * s := Int.mul_nonneg (by omega) (by omega)
      have m3 : (mn : Int) * y = (x : Int) * s := by rw [← Int.natCast_mul, ← s1, Int.natCast_mul]
      have m4 : (mn : Int) * y ≤ 100000000000000000 := by omega
      have m5 : 0 ≤ (mn : Int) * y := by omega
      have m6 : (t : Int) * y ≤ 8000000000 := by have h : t * y ≤ 8 * 1000000000 := Nat.mul_le_mul ht s3; rw [← Int.natCast_mul]; omega
      have m7 : 0 ≤ (t : Int) * y := Int.mul_nonneg (by omega) (by omega)
      have m8 : (l : Int) * y ≤ 6000000000 := by have h : l * y ≤ 6 * 1000000000 := Nat.mul_le_mul hl s3; rw [← Int.natCast_mul]; omega
      have m9 : 0 ≤ (l : Int) * y := Int.mul_nonneg (by omega) (by omega)
      have hE : ((x : Int) * s == (mn : Int) * y) = true := by simp [m3]
      have hF : (decide ((x : Int) ≤ (l : Int) * y)) = true := by simp; rw [← Int.natCast_mul]; omega
      have hbd : ∀ k, -1000000000000000000 ≤ sumL ((busyI l t).take k) ∧ sumL ((busyI l t).take k) ≤ 1000000000000000000 := by
        intro k
        rw [sum_busy]
        have := sumTo_any l t k hl ht
        omega
      have HBD := Lib.hid hbd
      have HR4 := Lib.hid hr4
      have S4 := Lib.hid s4
      have S5 := Lib.hid s5
      clear m3 s1 hbd hr4 s4 s5 s6
      go_wp2_with fail
      go_loop [10, 11] (fun s n => ∃ j q : Nat, Hid (q = meanTo l t j) ∧ j ≤ t + 1 ∧ n = .int .i64 j ∧ s = .int .i64 q) (fun _ n => t + 1 - (intOf n).toNat)
      case atStart => exact ⟨0, 0, rfl, by omega, rfl, rfl⟩
      case round =>
        obtain ⟨j, q, hq, hj, rfl, rfl⟩ := hrel
        by_cases hjt : j < t + 1
        · have c1 := HC.out j (by omega)
          have b1 := busyAt_small l t j hl ht (by omega)
          have b2 := mean_small l t j hl ht (by omega)
          rw [← hq.out] at b2
          have hst : meanTo l t (j + 1) = meanTo l t j + j * busyAt l t j := rfl
          obtain ⟨z, hz⟩ : ∃ z, busyAt l t j = z := ⟨_, rfl⟩
          rw [hz] at c1 b1 hst
          have n1 : (j : Int) * z ≤ 80000000 := by have h : j * z ≤ 8 * 10000000 := Nat.mul_le_mul (by omega) b1; rw [← Int.natCast_mul]; omega
          have n2 : 0 ≤ (j : Int) * z := Int.mul_nonneg (by omega) (by omega)
          have HST := Lib.hid hst
          clear hst hz hE hF
          go_wp2_with fail
          go_round
          case rel => exact ⟨j + 1, q + j * z, by unfold Hid; rw [HST.out, hq.out], by omega, by go_num, by go_num⟩
          case measure => simp [intOf]; omega
        · obtain rfl : j = t + 1 := by omega
          have hqm : q = mn := by rw [hq.out, HMN.out]
          subst hqm
          by_cases t0 : t = 0
          · have x0 := S4.out t0
            subst t0 x0
            have m0 : (q : Int) * y = 0 := by have := hE; simp only [beq_iff_eq] at this; omega
            have hE0 : ((0 : Int) == (q : Int) * y) = true := by rw [m0]; rfl
            have hE1 : ((q : Int) * y == 0) = true := by rw [m0]; rfl
            have hF0 : decide ((0 : Int) ≤ (l : Int) * y) = true := by simp; omega
            clear m0 hE hF
            go_wp2_with fail
            go_quiet ((go_at_call 42; exact Calls.quiet_of_same ((sumOf_any _ _ _ (HR4.out.drewN _) HBD.out).mono (fun e w' h => ⟨by rw [h.1, HSUM.out], h.2.symm⟩))))
            go_wp2
            go_returns
            exact ⟨rfl, by (repeat' (first | (with_reducible exact Below.refl _ _) | (with_reducible assumption) | (with_reducible refine Below.drew ?_) | (with_reducible refine below_drewN ?_ _) | (with_reducible refine Below.alloc ?_ ?_ _) | (with_reducible refine Below.setCell ?_ ?_ _) | (refine Below.trans ?_ (Below.mono (by assumption) (by first | omega | (with_reducible exact Below.size (by assumption)) | (simp; done) | (simp; omega)))) | (with_reducible exact Nat.le_refl _) | omega | (with_reducible exact Below.size (by assumption)) | (simp only [World.size_alloc, World.size_setCell, World.size_drew]; omega) | (simp; done) | (simp; omega)))⟩
          · have x0 : (x : Int) < (t : Int) * y := by have := S5.out (by omega); rw [← Int.natCast_mul]; omega
            have hG : decide ((x : Int) < (t : Int) * y) = true := by simpa using x0
            have tz : ((t : Int) == 0) = false := by simp; omega
            go_wp2_with fail
            go_quiet ((go_at_call 42; exact Calls.quiet_of_same ((sumOf_any _ _ _ (HR4.out.drewN _) HBD.out).mono (fun e w' h => ⟨by rw [h.1, HSUM.out], h.2.symm⟩))))
            go_wp2
            go_returns
            exact ⟨rfl, by (repeat' (first | (with_reducible exact Below.refl _ _) | (with_reducible assumption) | (with_reducible refine Below.drew ?_) | (with_reducible refine below_drewN ?_ _) | (with_reducible refine Below.alloc ?_ ?_ _) | (with_reducible refine Below.setCell ?_ ?_ _) | (refine Below.trans ?_ (Below.mono (by assumption) (by first | omega | (with_reducible exact Below.size (by assumption)) | (simp; done) | (simp; omega)))) | (with_reducible exact Nat.le_refl _) | omega | (with_reducible exact Below.size (by assumption)) | (simp only [World.size_alloc, World.size_setCell, World.size_drew]; omega) | (simp; done) | (simp; omega)))⟩

end Go.Proofs.Ytmckjikdecmagaa
