/- Contracts of strings.HasPrefix and the reference's l6Begins. -/
import Derived.Test.YtedadhoneebfnaaLib
import Derived.Test.YtedadhoneebfnaaRows
import Derived.Handy
set_option linter.unusedSimpArgs false
set_option linter.unusedVariables false
namespace Go.Proofs.Ytedadhoneebfnaa
open Go.RowKit

/-- Whether s begins with p. -/
def preB (s p : ByteArray) : Bool := p.data.toList.isPrefixOf s.data.toList
theorem preB_long {s p : ByteArray} (h : s.size < p.size) : preB s p = false := by
  rw [Bool.eq_false_iff]
  intro e
  have := (List.isPrefixOf_iff_prefix.1 e).length_le
  simp at this
  omega
theorem preB_cut {s p : ByteArray} (h : p.size ≤ s.size) : ((s.extract 0 p.size).toList == p.toList) = preB s p := by
  rw [Bool.eq_iff_iff, beq_iff_eq, ByteArray.toList_eq, ByteArray.toList_eq]
  unfold preB
  rw [List.isPrefixOf_iff_prefix, List.prefix_iff_eq_take]
  have e1 : (s.extract 0 p.size).data.toList = s.data.toList.take p.data.toList.length := by simp [ByteArray.data_extract]
  rw [e1]
  exact eq_comm

set_option maxHeartbeats 400000 in
theorem hasPrefix_any (s p : ByteArray) (w : World) (hs : s.size ≤ maxLen) (hp : p.size ≤ maxLen) :
    Calls Try.prog 105 #[.string s, .string p] w fun e w' => e = .returned (.bool (preB s p)) ∧ w = w' := by
  unfold maxLen at hs hp
  by_cases h : p.size ≤ s.size
  · have hc := preB_cut h
    obtain ⟨b, hb⟩ : ∃ b, preB s p = b := ⟨_, rfl⟩
    rw [hb] at hc
    have HB := Lib.hid hb
    clear hb
    go_enter Try.func105, Try.ntmps105
    go_wp2
    go_returns
    rw [HB.out]
    exact ⟨rfl, rfl⟩
  · rw [preB_long (by omega)]
    go_enter Try.func105, Try.ntmps105
    go_wp2
    go_returns
    exact ⟨rfl, rfl⟩
set_option maxHeartbeats 400000 in
theorem l6Begins_any (s p : ByteArray) (w : World) (hs : s.size ≤ maxLen) (hp : p.size ≤ maxLen) :
    Calls Try.prog 102 #[.string s, .string p] w fun e w' => e = .returned (.bool (preB s p)) ∧ w = w' := by
  unfold maxLen at hs hp
  by_cases h : p.size ≤ s.size
  · have hc := preB_cut h
    obtain ⟨b, hb⟩ : ∃ b, preB s p = b := ⟨_, rfl⟩
    rw [hb] at hc
    have HB := Lib.hid hb
    clear hb
    go_enter Try.func102, Try.ntmps102
    go_wp2
    go_returns
    rw [HB.out]
    exact ⟨rfl, rfl⟩
  · rw [preB_long (by omega)]
    go_enter Try.func102, Try.ntmps102
    go_wp2
    go_returns
    exact ⟨rfl, rfl⟩

end Go.Proofs.Ytedadhoneebfnaa
