/- Contract of the reference's BusyParts. -/
import Derived.Test.YtmckjikdecmagaaBusy
set_option linter.unusedSimpArgs false
set_option linter.unusedVariables false
namespace Go.Proofs.Ytmckjikdecmagaa
open Go.RowKit

set_option maxHeartbeats 1000000 in
theorem sBusy_yes (l t : Nat) (w : World) (hl : l ≤ 6) (ht : t ≤ 8) :
    Calls Try.prog 27 #[.int .i64 l, .int .i64 t] w fun e w' => ∃ v, e = .returned v ∧ w'.ownsRow w.heap.size 3 1 v (t + 1) (ints ((busyL l t).map (fun x : Nat => (x : Int)))) ∧ Below w.heap.size w w' := by
  have hok : loadOk l t = true := (loadOk_iff l t).2 ⟨by omega, by omega, by omega, by omega⟩
  obtain ⟨i0, hi, hz0, hz1, hz2⟩ := info_parts infoI
  go_enter Try.func27, Try.ntmps27
  go_wp2_with fail
  go_loopw [5, 6] (fun v i wr => ∃ j : Nat, j ≤ t + 1 ∧ i = .int .i64 j ∧ wr.ownsRow w.heap.size 3 1 v j (ints (((List.range j).map (busyAt l t)).map (fun x : Nat => (x : Int)))) ∧ Below w.heap.size w wr) (fun _ i _ => t + 1 - (intOf i).toNat)
  case atStart =>
    exact ⟨0, by omega, rfl, World.ownsRow_lit _ #[] 0 (Nat.le_refl _) (by unfold maxLen; omega) rfl, by (repeat' (first | (with_reducible exact Below.refl _ _) | (with_reducible assumption) | (with_reducible refine Below.drew ?_) | (with_reducible refine below_drewN ?_ _) | (with_reducible refine Below.alloc ?_ ?_ _) | (with_reducible refine Below.setCell ?_ ?_ _) | (refine Below.trans ?_ (Below.mono (by assumption) (by first | omega | (with_reducible exact Below.size (by assumption)) | (simp; done) | (simp; omega)))) | (with_reducible exact Nat.le_refl _) | omega | (with_reducible exact Below.size (by assumption)) | (simp only [World.size_alloc, World.size_setCell, World.size_drew]; omega) | (simp; done) | (simp; omega)))⟩
  case round =>
    obtain ⟨j, hj, rfl, hown, hbel⟩ := hrel
    by_cases hjt : j < t + 1
    · go_wp2_with (go_at_call 50; refine (sL7Ok_any _ _ _).mono ?_; rintro e w1 ⟨rfl, rfl⟩)
      go_loop [7, 8] (fun x k => ∃ d P : Nat, Hid (P = l ^ d) ∧ d ≤ j ∧ k = .int .i64 d ∧ x = .int .i64 P) (fun _ k => j - (intOf k).toNat)
      case atStart => exact ⟨0, 1, rfl, by omega, rfl, rfl⟩
      case round =>
        obtain ⟨d, P, hP, hd, rfl, rfl⟩ := hrel
        have hl1 : P ≤ 10077696 := by rw [hP.out]; exact pow_small l d hl (by omega)
        have hl2 : (P : Int) * l ≤ 60466176 := by have h : P * l ≤ 60466176 := Nat.mul_le_mul hl1 hl; rw [← Int.natCast_mul]; omega
        have hl3 : 0 ≤ (P : Int) * l := Int.mul_nonneg (by omega) (by omega)
        by_cases hdj : d < j
        · go_wp2_with fail
          go_round
          case rel => exact ⟨d + 1, P * l, by unfold Hid; rw [hP.out, Nat.pow_succ], by omega, by go_num, by go_num⟩
          case measure => simp [intOf]; omega
        · obtain rfl : d = j := by omega
          clear hl2 hl3
          go_wp2_with fail
          go_loop [7, 9] (fun x k => ∃ e y : Nat, Hid (y = P * rise d e) ∧ d + 1 + e ≤ t + 1 ∧ k = .int .i64 (d + 1 + e : Nat) ∧ x = .int .i64 y) (fun _ k => t + 1 - (intOf k).toNat)
          case atStart => exact ⟨0, P, by simp [Hid, rise], by omega, by go_num, rfl⟩
          case round =>
            obtain ⟨e, y, hy, he, rfl, rfl⟩ := hrel
            by_cases hk : d + 1 + e < t + 1
            · have hx1 : y * (d + 1 + e) ≤ 169075682574336 := by
                have := powrise_small l d (e + 1) hl (by omega)
                rw [rise, ← hP.out, ← Nat.mul_assoc, ← hy.out, show d + e + 1 = d + 1 + e from by omega] at this
                exact this
              have hx2 : (y : Int) * (d + 1 + e) ≤ 169075682574336 := by rw [show (y : Int) * (d + 1 + e) = ((y * (d + 1 + e) : Nat) : Int) from by push_cast; rfl]; omega
              have hx3 : 0 ≤ (y : Int) * (d + 1 + e) := Int.mul_nonneg (by omega) (by omega)
              go_wp2_with fail
              go_round
              case rel => exact ⟨e + 1, y * (d + 1 + e), by unfold Hid; rw [rise, ← Nat.mul_assoc, ← hy.out, show d + e + 1 = d + 1 + e from by omega], by omega, by go_num, by go_num⟩
              case measure => simp [intOf]; omega
            · have hx' : y = busyAt l t d := by rw [hy.out, hP.out, busyAt, show e = t - d from by omega]
              have HX := Lib.hid hx'
              clear hx'
              go_wp2_with (at_builtin; refine wpList_append_own _ rfl _ _ 37 rfl w.heap.size 3 i0 (.int .i64 0) 1 8 Try.underlying37 hi hz0 hz1 hz2 rfl (by decide) _ _ _ rfl (hown.alloc _) ⟨wr.heap.size, 0, none⟩ 1 1 [.int .i64 y] rfl rfl (cell_one_new _ _ _) (by intro u hu; simp at hu; subst hu; rfl) (by unfold maxLen; omega) (by omega) (by have := hbel.size; simp; omega) ?_; intro v' w1 hown' hgrow _)
              have hbel' := below_push hbel (Nat.le_refl _) hown hgrow
              go_roundw
              case rel =>
                refine ⟨d + 1, by omega, by go_num, ?_, hbel'⟩
                rw [List.range_succ, List.map_append, List.map_append]
                simpa [ints, HX.out] using hown'
              case measure => simp [intOf]; omega
    · obtain rfl : j = t + 1 := by omega
      go_wp2_with (go_at_call 50; refine (sL7Ok_any _ _ _).mono ?_; rintro e w1 ⟨rfl, rfl⟩)
      go_returns
      exact ⟨_, rfl, hown, hbel⟩

/-- What BusyParts returns. -/
def busyR (l t : Int) : List Int := if loadOk l t then (busyL l.toNat t.toNat).map (fun x : Nat => (x : Int)) else []

set_option maxHeartbeats 400000 in
theorem iBusy_any (l t : Int) (w : World) :
    Calls Try.prog 28 #[.int .i64 l, .int .i64 t] w fun e w' => ∃ v, e = .returned v ∧ w'.ownsRow w.heap.size 3 1 v (busyR l t).length (ints (busyR l t)) ∧ Below w.heap.size w w' := by
  by_cases hok : loadOk l t = true
  · obtain ⟨a1, a2, a3, a4⟩ := (loadOk_iff l t).1 hok
    obtain ⟨l, rfl⟩ := Int.eq_ofNat_of_zero_le a1
    obtain ⟨t, rfl⟩ := Int.eq_ofNat_of_zero_le a3
    refine (iBusy_yes l t w (by omega) (by omega)).mono ?_
    rintro e w' ⟨g, cap, rfl, hg, hown, hbel⟩
    have hR : busyR l t = (busyL l t).map (fun x : Nat => (x : Int)) := by simp only [busyR, hok, if_true, Int.toNat_natCast]
    rw [hR]
    refine ⟨_, rfl, ?_, hbel⟩
    have := hown.back hg
    simpa [busyL] using this
  · have hno : loadOk l t = false := by simpa using hok
    have hR : busyR l t = [] := by simp [busyR, hno]
    rw [hR]
    clear hR
    go_enter Try.func28, Try.ntmps28
    go_wp2_with (go_at_call 52; refine (iLoadValid_any _ _ _).mono ?_; rintro e w1 ⟨rfl, rfl⟩)
    go_returns
    exact ⟨_, rfl, World.ownsRow_nil _ _ _ _, Below.refl _ _⟩

set_option maxHeartbeats 400000 in
theorem sBusy_any (l t : Int) (w : World) :
    Calls Try.prog 27 #[.int .i64 l, .int .i64 t] w fun e w' => ∃ v, e = .returned v ∧ w'.ownsRow w.heap.size 3 1 v (busyR l t).length (ints (busyR l t)) ∧ Below w.heap.size w w' := by
  by_cases hok : loadOk l t = true
  · obtain ⟨a1, a2, a3, a4⟩ := (loadOk_iff l t).1 hok
    obtain ⟨l, rfl⟩ := Int.eq_ofNat_of_zero_le a1
    obtain ⟨t, rfl⟩ := Int.eq_ofNat_of_zero_le a3
    refine (sBusy_yes l t w (by omega) (by omega)).mono ?_
    rintro e w' ⟨v, rfl, hown, hbel⟩
    have hR : busyR l t = (busyL l t).map (fun x : Nat => (x : Int)) := by simp only [busyR, hok, if_true, Int.toNat_natCast]
    rw [hR]
    exact ⟨_, rfl, by simpa [busyL] using hown, hbel⟩
  · have hno : loadOk l t = false := by simpa using hok
    have hR : busyR l t = [] := by simp [busyR, hno]
    rw [hR]
    clear hR
    go_enter Try.func27, Try.ntmps27
    go_wp2_with fail
    refine wp_loop_rounds 1 ?_
    rw [rounds_succ]
    go_wp2_with (go_at_call 50; refine (sL7Ok_any _ _ _).mono ?_; rintro e w1 ⟨rfl, rfl⟩)
    all_goals
      go_returns
      exact ⟨_, rfl, World.ownsRow_lit _ #[] 0 (Nat.le_refl _) (by unfold maxLen; omega) rfl, by (repeat' (first | (with_reducible exact Below.refl _ _) | (with_reducible assumption) | (with_reducible refine Below.drew ?_) | (with_reducible refine below_drewN ?_ _) | (with_reducible refine Below.alloc ?_ ?_ _) | (with_reducible refine Below.setCell ?_ ?_ _) | (refine Below.trans ?_ (Below.mono (by assumption) (by first | omega | (with_reducible exact Below.size (by assumption)) | (simp; done) | (simp; omega)))) | (with_reducible exact Nat.le_refl _) | omega | (with_reducible exact Below.size (by assumption)) | (simp only [World.size_alloc, World.size_setCell, World.size_drew]; omega) | (simp; done) | (simp; omega)))⟩

end Go.Proofs.Ytmckjikdecmagaa
