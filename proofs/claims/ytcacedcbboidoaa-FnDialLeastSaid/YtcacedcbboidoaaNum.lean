/- Contracts of LengthsValid, shareOf, l6Power, ShareSum (program and reference). -/
import Derived.Test.YtcacedcbboidoaaPl6
import Derived.Test.YtcacedcbboidoaaInts
import Derived.Test.YtcacedcbboidoaaIn
set_option linter.unusedSimpArgs false
set_option linter.unusedVariables false
namespace Go.Proofs.Ytcacedcbboidoaa
open Go.RowKit

set_option maxHeartbeats 400000 in
theorem iLengthsValid_any (v : Value) (zs : List Int) (w : World) (hv : Rds w v zs.length 1 (ints zs)) :
    Calls Try.prog 67 #[v] w fun e w' => e = .returned (.bool (lensB zs)) ∧ w = w' := by
  obtain ⟨a, ca, rfl, hl1, hm1, hn1, hc1⟩ := hv.open1
  unfold maxLen at hm1
  clear hl1 hv
  obtain ⟨n, hn⟩ : ∃ n, zs.length = n := ⟨_, rfl⟩
  rw [hn] at hm1 hn1 hc1 ⊢
  have HN := Lib.hid hn
  clear hn
  by_cases h10 : n ≤ 10
  · go_enter Try.func67, Try.ntmps67
    go_wp2_with fail
    go_loop [10] (fun i => ∃ k : Nat, k ≤ n ∧ i = .int .i64 k ∧ Hid ((zs.take k).all lenB = true)) (fun i => n - (intOf i).toNat)
    case atStart => exact ⟨0, by omega, rfl, rfl⟩
    case round =>
      obtain ⟨k, hk, rfl, hall⟩ := hrel
      by_cases hkn : k < n
      · rcases hc1 with hc1 | ⟨b1, o1, rfl, hb1, hc1⟩
        · omega
        obtain ⟨z, hz⟩ : ∃ z, zs[k]? = some z := ⟨_, List.getElem?_eq_getElem (by rw [HN.out]; omega)⟩
        have g1 := hc1 k hkn
        rw [ints_at _ _ _ hz] at g1
        have HZ := Lib.hid hz
        clear hc1 hz
        by_cases hb : 1 ≤ z ∧ z ≤ 3
        · obtain ⟨q1, q2⟩ := hb
          go_wp2_with fail
          go_round
          case rel => exact ⟨k + 1, by omega, by go_num, by unfold Hid; rw [all_step lenB zs k z HZ.out, hall.out, (lenB_iff z).2 ⟨q1, q2⟩]; rfl⟩
          case measure => simp [intOf]; omega
        · have hno : lenB z = false := by rw [Bool.eq_false_iff]; exact fun h => hb ((lenB_iff z).1 h)
          have HNO := Lib.hid hno
          clear hno
          by_cases q1 : 1 ≤ z
          · have q2 : ¬ z ≤ 3 := fun h => hb ⟨q1, h⟩
            clear hb
            go_wp2
            go_returns
            exact ⟨by simp [lensB, all_no lenB zs k z HZ.out HNO.out], rfl⟩
          · clear hb
            go_wp2
            go_returns
            exact ⟨by simp [lensB, all_no lenB zs k z HZ.out HNO.out], rfl⟩
      · obtain rfl : k = n := by omega
        go_wp2
        go_returns
        have h1 := hall.out
        rw [List.take_of_length_le (by rw [HN.out]; omega)] at h1
        exact ⟨by simp [lensB, HN.out, h1, h10], rfl⟩
  · go_enter Try.func67, Try.ntmps67
    go_wp2
    go_returns
    exact ⟨by simp [lensB, HN.out, h10], rfl⟩

set_option maxHeartbeats 400000 in
theorem sLengthsValid_any (v : Value) (zs : List Int) (w : World) (hv : Rds w v zs.length 1 (ints zs)) :
    Calls Try.prog 78 #[v] w fun e w' => e = .returned (.bool (lensB zs)) ∧ w = w' := by
  obtain ⟨a, ca, rfl, hl1, hm1, hn1, hc1⟩ := hv.open1
  unfold maxLen at hm1
  clear hl1 hv
  obtain ⟨n, hn⟩ : ∃ n, zs.length = n := ⟨_, rfl⟩
  rw [hn] at hm1 hn1 hc1 ⊢
  have HN := Lib.hid hn
  clear hn
  go_enter Try.func78, Try.ntmps78
  go_wp2_with fail
  go_loop [3] (fun i => ∃ k : Nat, k ≤ n ∧ i = .int .i64 k ∧ Hid ((zs.take k).all lenB = true)) (fun i => n - (intOf i).toNat)
  case atStart => exact ⟨0, by omega, rfl, rfl⟩
  case round =>
    obtain ⟨k, hk, rfl, hall⟩ := hrel
    by_cases hkn : k < n
    · rcases hc1 with hc1 | ⟨b1, o1, rfl, hb1, hc1⟩
      · omega
      obtain ⟨z, hz⟩ : ∃ z, zs[k]? = some z := ⟨_, List.getElem?_eq_getElem (by rw [HN.out]; omega)⟩
      have g1 := hc1 k hkn
      rw [ints_at _ _ _ hz] at g1
      have HZ := Lib.hid hz
      clear hc1 hz
      go_wp2_with fail
      refine (sIn_any _ _ _ _).mono ?_
      rintro e w1 ⟨rfl, rfl⟩
      rw [show (decide (1 ≤ z) && decide (z ≤ 3)) = lenB z from rfl]
      obtain ⟨o, ho⟩ : ∃ o, lenB z = o := ⟨_, rfl⟩
      have HO := Lib.hid ho
      rw [ho]
      clear ho
      cases o
      · go_wp2
        go_returns
        exact ⟨by simp [lensB, all_no lenB zs k z HZ.out HO.out], rfl⟩
      · go_wp2_with fail
        go_round
        case rel => exact ⟨k + 1, by omega, by go_num, by unfold Hid; rw [all_step lenB zs k z HZ.out, hall.out, HO.out]; rfl⟩
        case measure => simp [intOf]; omega
    · obtain rfl : k = n := by omega
      have h1 := hall.out
      rw [List.take_of_length_le (by rw [HN.out]; omega)] at h1
      have hfin : lensB zs = decide (k ≤ 10) := by simp [lensB, HN.out, h1]
      have HF := Lib.hid hfin
      clear hfin h1
      by_cases h10 : k ≤ 10
      · have hd : decide ((k : Int) ≤ 10) = true := by simp; omega
        go_wp2
        go_returns
        exact ⟨by rw [HF.out]; simp [h10], rfl⟩
      · have hd : decide ((k : Int) ≤ 10) = false := by simp; omega
        go_wp2
        go_returns
        exact ⟨by rw [HF.out]; simp [h10], rfl⟩

set_option maxHeartbeats 400000 in
theorem shareOf_any (z : Int) (w : World) (h0 : 0 ≤ z) (h1 : z ≤ 3) :
    Calls Try.prog 77 #[.int .i64 z] w fun e w' => e = .returned (.int .i64 (shareN z)) ∧ w = w' := by
  have hz : z = 0 ∨ z = 1 ∨ z = 2 ∨ z = 3 := by omega
  rcases hz with rfl | rfl | rfl | rfl
  all_goals
    go_enter Try.func77, Try.ntmps77
    go_wp2
    go_rounds 4
    go_returns
    exact ⟨rfl, rfl⟩

set_option maxHeartbeats 400000 in
theorem l6Power_any (z : Int) (w : World) (h0 : 0 ≤ z) (h1 : z ≤ 3) :
    Calls Try.prog 79 #[.int .i64 z] w fun e w' => e = .returned (.int .i64 (shareN (3 - z))) ∧ w = w' := by
  have hz : z = 0 ∨ z = 1 ∨ z = 2 ∨ z = 3 := by omega
  rcases hz with rfl | rfl | rfl | rfl
  all_goals
    go_enter Try.func79, Try.ntmps79
    go_wp2
    go_rounds 4
    go_returns
    exact ⟨rfl, rfl⟩

set_option maxHeartbeats 400000 in
theorem iShareSum_any (v : Value) (zs : List Int) (w : World) (hv : Rds w v zs.length 1 (ints zs)) :
    Calls Try.prog 21 #[v] w fun e w' => e = .returned (.int .i64 (shareR zs)) ∧ w = w' := by
  obtain ⟨a, ca, rfl, hl1, hm1, hn1, hc1⟩ := hv.open1
  have HV := Lib.hid hv
  clear hl1 hv
  obtain ⟨n, hn⟩ : ∃ n, zs.length = n := ⟨_, rfl⟩
  rw [hn] at hm1 hn1 hc1 HV ⊢
  have HN := Lib.hid hn
  clear hn
  have HV2 : Hid (Rds w (.slice a n ca) zs.length 1 (ints zs)) := by rw [HN.out]; exact HV
  obtain ⟨o, ho⟩ : ∃ o, lensB zs = o := ⟨_, rfl⟩
  have HO := Lib.hid ho
  clear ho
  go_enter Try.func21, Try.ntmps21
  go_wp2_with fail
  refine (iLengthsValid_any _ zs _ HV2.out).mono ?_
  rintro e w1 ⟨rfl, rfl⟩
  rw [HO.out]
  cases o
  · go_wp2
    go_returns
    exact ⟨by simp [shareR, HO.out], rfl⟩
  · have h10 := lensB_len HO.out
    rw [HN.out] at h10
    go_wp2_with fail
    go_loop [3, 11] (fun s i => ∃ k x : Nat, k ≤ n ∧ i = .int .i64 k ∧ s = .int .i64 x ∧ Hid (x = shareTo zs k) ∧ x ≤ 64 * k) (fun _ i => n - (intOf i).toNat)
    case atStart => exact ⟨0, 0, by omega, rfl, rfl, by simp [Hid, shareTo], by omega⟩
    case round =>
      obtain ⟨k, x, hk, rfl, rfl, hx, hxb⟩ := hrel
      by_cases hkn : k < n
      · rcases hc1 with hc1 | ⟨b1, o1, rfl, hb1, hc1⟩
        · omega
        obtain ⟨z, hz⟩ : ∃ z, zs[k]? = some z := ⟨_, List.getElem?_eq_getElem (by rw [HN.out]; omega)⟩
        have g1 := hc1 k hkn
        rw [ints_at _ _ _ hz] at g1
        obtain ⟨z1, z2⟩ := lensB_at HO.out k z hz
        obtain ⟨y1, y2⟩ := shareN_small z (by omega)
        have hst := shareTo_step zs k z hz
        have HST := Lib.hid hst
        clear hc1 hz hst
        go_wp2_with (first
          | (go_at_call 77; refine (shareOf_any _ _ (by omega) (by omega)).mono ?_; rintro e w1 ⟨rfl, rfl⟩)
          | (go_at_call 79; refine (l6Power_any _ _ (by omega) (by omega)).mono ?_; rintro e w1 ⟨rfl, rfl⟩; rw [show (3 : Int) - (3 - z) = z from by omega]))
        go_round
        case rel => exact ⟨k + 1, x + shareN z, by omega, by go_num, by go_num, by unfold Hid; rw [HST.out, hx.out], by omega⟩
        case measure => simp [intOf]; omega
      · obtain rfl : k = n := by omega
        go_wp2
        go_returns
        refine ⟨?_, rfl⟩
        have hf : shareR zs = (x : Int) := by simp [shareR, HO.out, HN.out, hx.out]
        rw [hf]
        rfl
set_option maxHeartbeats 400000 in
theorem sShareSum_any (v : Value) (zs : List Int) (w : World) (hv : Rds w v zs.length 1 (ints zs)) :
    Calls Try.prog 22 #[v] w fun e w' => e = .returned (.int .i64 (shareR zs)) ∧ w = w' := by
  obtain ⟨a, ca, rfl, hl1, hm1, hn1, hc1⟩ := hv.open1
  have HV := Lib.hid hv
  clear hl1 hv
  obtain ⟨n, hn⟩ : ∃ n, zs.length = n := ⟨_, rfl⟩
  rw [hn] at hm1 hn1 hc1 HV ⊢
  have HN := Lib.hid hn
  clear hn
  have HV2 : Hid (Rds w (.slice a n ca) zs.length 1 (ints zs)) := by rw [HN.out]; exact HV
  obtain ⟨o, ho⟩ : ∃ o, lensB zs = o := ⟨_, rfl⟩
  have HO := Lib.hid ho
  clear ho
  go_enter Try.func22, Try.ntmps22
  go_wp2_with fail
  refine (sLengthsValid_any _ zs _ HV2.out).mono ?_
  rintro e w1 ⟨rfl, rfl⟩
  rw [HO.out]
  cases o
  · go_wp2
    go_returns
    exact ⟨by simp [shareR, HO.out], rfl⟩
  · have h10 := lensB_len HO.out
    rw [HN.out] at h10
    go_wp2_with fail
    go_loop [3, 4] (fun s i => ∃ k x : Nat, k ≤ n ∧ i = .int .i64 k ∧ s = .int .i64 x ∧ Hid (x = shareTo zs k) ∧ x ≤ 64 * k) (fun _ i => n - (intOf i).toNat)
    case atStart => exact ⟨0, 0, by omega, rfl, rfl, by simp [Hid, shareTo], by omega⟩
    case round =>
      obtain ⟨k, x, hk, rfl, rfl, hx, hxb⟩ := hrel
      by_cases hkn : k < n
      · rcases hc1 with hc1 | ⟨b1, o1, rfl, hb1, hc1⟩
        · omega
        obtain ⟨z, hz⟩ : ∃ z, zs[k]? = some z := ⟨_, List.getElem?_eq_getElem (by rw [HN.out]; omega)⟩
        have g1 := hc1 k hkn
        rw [ints_at _ _ _ hz] at g1
        obtain ⟨z1, z2⟩ := lensB_at HO.out k z hz
        obtain ⟨y1, y2⟩ := shareN_small z (by omega)
        have hst := shareTo_step zs k z hz
        have HST := Lib.hid hst
        clear hc1 hz hst
        go_wp2_with (first
          | (go_at_call 77; refine (shareOf_any _ _ (by omega) (by omega)).mono ?_; rintro e w1 ⟨rfl, rfl⟩)
          | (go_at_call 79; refine (l6Power_any _ _ (by omega) (by omega)).mono ?_; rintro e w1 ⟨rfl, rfl⟩; rw [show (3 : Int) - (3 - z) = z from by omega]))
        go_round
        case rel => exact ⟨k + 1, x + shareN z, by omega, by go_num, by go_num, by unfold Hid; rw [HST.out, hx.out], by omega⟩
        case measure => simp [intOf]; omega
      · obtain rfl : k = n := by omega
        go_wp2
        go_returns
        refine ⟨?_, rfl⟩
        have hf : shareR zs = (x : Int) := by simp [shareR, HO.out, HN.out, hx.out]
        rw [hf]
        rfl

end Go.Proofs.Ytcacedcbboidoaa
