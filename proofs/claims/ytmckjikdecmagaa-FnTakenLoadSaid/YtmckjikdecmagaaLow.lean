/- Contracts of lowest and the reference's l7Low. -/
import Derived.Test.YtmckjikdecmagaaPl7
import Derived.Test.YtmckjikdecmagaaRows
import Derived.WalkKit
import Derived.WalkSpells
import Derived.WalkLawsBesides
import Derived.Handy
import Derived.Deep.QuietTactic
import Derived.BigQuiet
import Derived.Lib.Hide
set_option linter.unusedSimpArgs false
set_option linter.unusedVariables false
namespace Go.Proofs.Ytmckjikdecmagaa
open Go.RowKit

set_option maxHeartbeats 400000 in
theorem iLowest_any (num den : Int) (w : World) (h0 : 0 ≤ num) (h1 : 1 ≤ den) (h2 : num ≤ 1000000000000) (h3 : den ≤ 1000000000000) :
    Calls Try.prog 53 #[.int .i64 num, .int .i64 den] w fun e w' => e = .returned (.agg #[.int .i64 (lowP num.toNat den.toNat).1, .int .i64 (lowP num.toNat den.toNat).2]) ∧ Below w.heap.size w w' := by
  obtain ⟨n, rfl⟩ := Int.eq_ofNat_of_zero_le h0
  obtain ⟨d, rfl⟩ := Int.eq_ofNat_of_zero_le (show 0 ≤ den by omega)
  simp only [Int.toNat_natCast]
  go_enter Try.func53, Try.ntmps53
  go_wp2
  go_loopw [5, 6] (fun a b wr => ∃ x y k : Nat, a = .int .i64 x ∧ b = .int .i64 y ∧ x ≤ 1000000000000 ∧ y ≤ 1000000000000 ∧ Hid (Nat.gcd x y = Nat.gcd d n) ∧ wr = (w.alloc (.cells #[.int .i64 0, .int .i64 0] 25)).drewN k) (fun _ b _ => (intOf b).toNat)
  case atStart => exact ⟨d, n, 0, rfl, rfl, by omega, by omega, rfl, rfl⟩
  case round =>
    obtain ⟨x, y, k, rfl, rfl, hx, hy, hg, rfl⟩ := hrel
    by_cases hyz : 0 < y
    · have hd1 : ((y : Int) != 0) = true := by simp; omega
      have hd2 : ((y : Int) == 0) = false := by simp; omega
      go_wp2_with fail
      go_quiet (fail)
      go_wp2
      go_roundw
      case rel => exact ⟨y, x % y, k + nq, rfl, by go_num, by omega, by have := Nat.mod_lt x hyz; omega, by unfold Hid; rw [← hg.out, Nat.gcd_comm y, ← Nat.gcd_rec, Nat.gcd_comm], by rw [World.drewN_drewN]⟩
      case measure => simp [intOf]; have := Nat.mod_lt x hyz; omega
    · obtain rfl : y = 0 := by omega
      have hg2 := hg.out
      rw [Nat.gcd_zero_right] at hg2
      subst hg2
      have hpos : 0 < d.gcd n := Nat.gcd_pos_of_pos_left _ (by omega)
      clear hg
      obtain ⟨g, hG⟩ : ∃ g, d.gcd n = g := ⟨_, rfl⟩
      have HG := Lib.hid hG
      rw [hG] at hx hpos ⊢
      clear hG
      go_wp2_with fail
      have hgz : ((g : Int) == 0) = false := by simp; omega
      have b1 : (n : Int) / g ≤ 1000000000000 := Int.le_trans (Int.ediv_le_self _ (by omega)) h2
      have b2 : (d : Int) / g ≤ 1000000000000 := Int.le_trans (Int.ediv_le_self _ (by omega)) h3
      have b3 : 0 ≤ (n : Int) / g := Int.ediv_nonneg (by omega) (by omega)
      have b4 : 0 ≤ (d : Int) / g := Int.ediv_nonneg (by omega) (by omega)
      go_region
      go_wp2
      go_returns
      refine ⟨?_, by (repeat' (first | (with_reducible exact Below.refl _ _) | (with_reducible assumption) | (with_reducible refine Below.drew ?_) | (with_reducible refine below_drewN ?_ _) | (with_reducible refine Below.alloc ?_ ?_ _) | (with_reducible refine Below.setCell ?_ ?_ _) | (refine Below.trans ?_ (Below.mono (by assumption) (by first | omega | (with_reducible exact Below.size (by assumption)) | (simp; done) | (simp; omega)))) | (with_reducible exact Nat.le_refl _) | omega | (with_reducible exact Below.size (by assumption)) | (simp only [World.size_alloc, World.size_setCell, World.size_drew]; omega) | (simp; done) | (simp; omega)))⟩
      rw [lowP, HG.out]
      rfl

set_option maxHeartbeats 400000 in
theorem sGcd_any (a b : Int) (w : World) (h0 : 0 ≤ a) (h1 : 0 ≤ b) (h2 : a ≤ 1000000000000) (h3 : b ≤ 1000000000000) :
    Calls Try.prog 58 #[.int .i64 a, .int .i64 b] w fun e w' => e = .returned (.int .i64 (Nat.gcd a.toNat b.toNat)) ∧ w = w' := by
  obtain ⟨n, rfl⟩ := Int.eq_ofNat_of_zero_le h0
  obtain ⟨d, rfl⟩ := Int.eq_ofNat_of_zero_le h1
  simp only [Int.toNat_natCast]
  go_enter Try.func58, Try.ntmps58
  go_wp2
  go_loop [0, 1] (fun a b => ∃ x y : Nat, a = .int .i64 x ∧ b = .int .i64 y ∧ x ≤ 1000000000000 ∧ y ≤ 1000000000000 ∧ Hid (Nat.gcd x y = Nat.gcd n d)) (fun _ b => (intOf b).toNat)
  case atStart => exact ⟨n, d, rfl, rfl, by omega, by omega, rfl⟩
  case round =>
    obtain ⟨x, y, rfl, rfl, hx, hy, hg⟩ := hrel
    by_cases hyz : 0 < y
    · have hd1 : ((y : Int) != 0) = true := by simp; omega
      have hd2 : ((y : Int) == 0) = false := by simp; omega
      go_wp2
      go_round
      case rel => exact ⟨y, x % y, rfl, by go_num, by omega, by have := Nat.mod_lt x hyz; omega, by unfold Hid; rw [← hg.out, Nat.gcd_comm y, ← Nat.gcd_rec, Nat.gcd_comm]⟩
      case measure => simp [intOf]; have := Nat.mod_lt x hyz; omega
    · obtain rfl : y = 0 := by omega
      go_wp2
      go_returns
      have hg2 := hg.out
      rw [Nat.gcd_zero_right] at hg2
      exact ⟨by rw [← hg2]; rfl, rfl⟩

set_option maxHeartbeats 400000 in
theorem sLow_any (num den : Int) (w : World) (h0 : 0 ≤ num) (h1 : 1 ≤ den) (h2 : num ≤ 1000000000000) (h3 : den ≤ 1000000000000) :
    Calls Try.prog 51 #[.int .i64 num, .int .i64 den] w fun e w' => e = .returned (.agg #[.int .i64 (lowP num.toNat den.toNat).1, .int .i64 (lowP num.toNat den.toNat).2]) ∧ Below w.heap.size w w' := by
  obtain ⟨n, rfl⟩ := Int.eq_ofNat_of_zero_le h0
  obtain ⟨d, rfl⟩ := Int.eq_ofNat_of_zero_le (show 0 ≤ den by omega)
  simp only [Int.toNat_natCast]
  go_enter Try.func51, Try.ntmps51
  go_wp2_with fail
  refine (sGcd_any _ _ _ (by omega) (by omega) (by omega) (by omega)).mono ?_
  rintro e w1 ⟨rfl, rfl⟩
  simp only [Int.toNat_natCast]
  have hpos : 0 < n.gcd d := Nat.gcd_pos_of_pos_right _ (by omega)
  obtain ⟨g, hG⟩ : ∃ g, n.gcd d = g := ⟨_, rfl⟩
  have HG := Lib.hid hG
  rw [hG] at hpos ⊢
  clear hG
  have hgz : ((g : Int) == 0) = false := by simp; omega
  have b1 : (n : Int) / g ≤ 1000000000000 := Int.le_trans (Int.ediv_le_self _ (by omega)) h2
  have b2 : (d : Int) / g ≤ 1000000000000 := Int.le_trans (Int.ediv_le_self _ (by omega)) h3
  have b3 : 0 ≤ (n : Int) / g := Int.ediv_nonneg (by omega) (by omega)
  have b4 : 0 ≤ (d : Int) / g := Int.ediv_nonneg (by omega) (by omega)
  go_wp2_with fail
  go_region
  go_wp2
  go_returns
  refine ⟨?_, by (repeat' (first | (with_reducible exact Below.refl _ _) | (with_reducible assumption) | (with_reducible refine Below.drew ?_) | (with_reducible refine below_drewN ?_ _) | (with_reducible refine Below.alloc ?_ ?_ _) | (with_reducible refine Below.setCell ?_ ?_ _) | (refine Below.trans ?_ (Below.mono (by assumption) (by first | omega | (with_reducible exact Below.size (by assumption)) | (simp; done) | (simp; omega)))) | (with_reducible exact Nat.le_refl _) | omega | (with_reducible exact Below.size (by assumption)) | (simp only [World.size_alloc, World.size_setCell, World.size_drew]; omega) | (simp; done) | (simp; omega)))⟩
  rw [lowP, Nat.gcd_comm, HG.out]
  rfl

set_option maxHeartbeats 400000 in
theorem iLoadValid_any (l t : Int) (w : World) :
    Calls Try.prog 52 #[.int .i64 l, .int .i64 t] w fun e w' => e = .returned (.bool (loadOk l t)) ∧ w = w' := by
  go_enter Try.func52, Try.ntmps52
  go_wp2
  all_goals (go_returns; refine ⟨?_, rfl⟩; congr 2; simp [loadOk]; omega)

set_option maxHeartbeats 400000 in
theorem sL7Ok_any (l t : Int) (w : World) :
    Calls Try.prog 50 #[.int .i64 l, .int .i64 t] w fun e w' => e = .returned (.bool (loadOk l t)) ∧ w = w' := by
  go_enter Try.func50, Try.ntmps50
  go_wp2
  all_goals (go_returns; refine ⟨?_, rfl⟩; congr 2; simp [loadOk]; omega)

end Go.Proofs.Ytmckjikdecmagaa
