/- Contracts of DigitsOk (program and reference). -/
import Derived.Test.YtedadhoneebfnaaDoorPl6
import Derived.Test.YtedadhoneebfnaaDoorLib
import Derived.Test.YtedadhoneebfnaaDoorIn
set_option linter.unusedSimpArgs false
set_option linter.unusedVariables false
namespace Go.Proofs.YtedadhoneebfnaaDoor
open Go.RowKit

def digB (c : UInt8) : Bool := decide (48 ≤ (c.toNat : Int)) && decide ((c.toNat : Int) ≤ 51)
def digsB (s : ByteArray) : Bool := s.data.toList.all digB
theorem bytes_at (s : ByteArray) (k : Nat) (h : k < s.size) : s.data.toList[k]? = some s[k] := by
  rw [List.getElem?_eq_getElem (by simpa using h)]; rfl

set_option maxHeartbeats 400000 in
theorem iDigitsOk_any (s : ByteArray) (w : World) (hs : s.size ≤ maxLen) :
    Calls Tryd.prog 35 #[.string s] w fun e w' => e = .returned (.bool (digsB s)) ∧ w = w' := by
  unfold maxLen at hs
  go_enter Tryd.func35, Tryd.ntmps35
  go_wp2_with fail
  go_loop [6] (fun i => ∃ k : Nat, k ≤ s.size ∧ i = .int .i64 k ∧ Hid ((s.data.toList.take k).all digB = true)) (fun i => s.size - (intOf i).toNat)
  case atStart => exact ⟨0, by omega, rfl, rfl⟩
  case round =>
    obtain ⟨k, hk, rfl, hall⟩ := hrel
    by_cases hkn : k < s.size
    · have HZ := Lib.hid (bytes_at s k hkn)
      by_cases hb : 48 ≤ (s[k].toNat : Int) ∧ (s[k].toNat : Int) ≤ 51
      · obtain ⟨q1, q2⟩ := hb
        have hd : digB s[k] = true := by simp only [digB, q1, q2, decide_true, Bool.and_self]
        have HD := Lib.hid hd
        have q3 : (s[k].toNat : Int) < 52 := by omega
        clear hd
        go_wp2_with fail
        go_round
        case rel => exact ⟨k + 1, by omega, by go_num, by unfold Hid; rw [all_step digB _ k _ HZ.out, hall.out, HD.out]; rfl⟩
        case measure => simp [intOf]; omega
      · have hno : digB s[k] = false := by simp only [digB, Bool.and_eq_false_iff, decide_eq_false_iff_not]; omega
        have HF := Lib.hid (all_no digB _ k _ HZ.out hno)
        clear hno
        by_cases q1 : 48 ≤ (s[k].toNat : Int)
        · have q2 : 52 ≤ (s[k].toNat : Int) := by omega
          clear hb
          go_wp2
          go_returns
          exact ⟨by rw [digsB, HF.out]; rfl, rfl⟩
        · clear hb
          go_wp2
          go_returns
          exact ⟨by rw [digsB, HF.out]; rfl, rfl⟩
    · obtain rfl : k = s.size := by omega
      have h1 := hall.out
      rw [List.take_of_length_le (by simp)] at h1
      have H1 := Lib.hid h1
      clear h1 hall
      go_wp2
      go_returns
      exact ⟨by rw [digsB, H1.out]; rfl, rfl⟩

set_option maxHeartbeats 400000 in
theorem sDigitsOk_any (s : ByteArray) (w : World) (hs : s.size ≤ maxLen) :
    Calls Tryd.prog 33 #[.string s] w fun e w' => e = .returned (.bool (digsB s)) ∧ w = w' := by
  unfold maxLen at hs
  go_enter Tryd.func33, Tryd.ntmps33
  go_wp2_with fail
  go_loop [3] (fun i => ∃ k : Nat, k ≤ s.size ∧ i = .int .i64 k ∧ Hid ((s.data.toList.take k).all digB = true)) (fun i => s.size - (intOf i).toNat)
  case atStart => exact ⟨0, by omega, rfl, rfl⟩
  case round =>
    obtain ⟨k, hk, rfl, hall⟩ := hrel
    by_cases hkn : k < s.size
    · have HZ := Lib.hid (bytes_at s k hkn)
      have hc := s[k].toNat_lt
      have hx : (decide (0 ≤ ((s[k].toNat : Int) - 48) % 256) && decide (((s[k].toNat : Int) - 48) % 256 ≤ 3)) = digB s[k] := by
        unfold digB
        rw [Bool.eq_iff_iff]
        simp only [Bool.and_eq_true, decide_eq_true_eq]
        omega
      have HX := Lib.hid hx
      clear hx
      go_wp2_with fail
      refine (sIn_any _ _ _ _).mono ?_
      rintro e w1 ⟨rfl, rfl⟩
      rw [HX.out]
      obtain ⟨o, ho⟩ : ∃ o, digB s[k] = o := ⟨_, rfl⟩
      have HO := Lib.hid ho
      rw [ho]
      clear ho
      cases o
      · have HF := Lib.hid (all_no digB _ k _ HZ.out HO.out)
        go_wp2
        go_returns
        exact ⟨by rw [digsB, HF.out]; rfl, rfl⟩
      · have hq : 48 ≤ (s[k].toNat : Int) := by
          have := HO.out
          simp only [digB, Bool.and_eq_true, decide_eq_true_eq] at this
          exact this.1
        go_wp2_with fail
        go_round
        case rel => exact ⟨k + 1, by omega, by go_num, by unfold Hid; rw [all_step digB _ k _ HZ.out, hall.out, HO.out]; rfl⟩
        case measure => simp [intOf]; omega
    · obtain rfl : k = s.size := by omega
      have h1 := hall.out
      rw [List.take_of_length_le (by simp)] at h1
      have H1 := Lib.hid h1
      clear h1 hall
      go_wp2
      go_returns
      exact ⟨by rw [digsB, H1.out]; rfl, rfl⟩

end Go.Proofs.YtedadhoneebfnaaDoor
