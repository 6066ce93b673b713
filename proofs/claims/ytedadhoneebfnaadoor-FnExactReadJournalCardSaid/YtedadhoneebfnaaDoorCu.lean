/- Contracts of strings.Cut and stringslite.Cut at one byte. -/
import Derived.Test.YtedadhoneebfnaaDoorRp
import Derived.Test.YtedadhoneebfnaaDoorSi
import Derived.Deep.QuietTactic
import Derived.BigQuiet
import Derived.IntWalk
set_option linter.unusedSimpArgs false
set_option linter.unusedVariables false
namespace Go.Proofs.YtedadhoneebfnaaDoor
open Go.RowKit

theorem index_ix (l : List UInt8) (c : UInt8) : Lib.indexByte l c = if ix c l < l.length then (ix c l : Int) else -1 := by
  induction l with
  | nil => simp [Lib.indexByte, ix]
  | cons x xs ih =>
    unfold Lib.indexByte
    by_cases h : x == c
    · rw [if_pos h]; simp [ix, List.findIdx_cons, h]
    · rw [if_neg h, ih]
      have e : ix c (x :: xs) = ix c xs + 1 := by simp [ix, List.findIdx_cons, h]
      rw [e]
      by_cases h2 : ix c xs < xs.length
      · rw [if_pos h2, if_neg (by first | (simp; done) | (simp; omega)), if_pos (by first | (simp; done) | (simp; omega))]; first | rfl | omega
      · rw [if_neg h2, if_pos (by decide), if_neg (by first | (simp; done) | (simp; omega))]
theorem cut_bef (s : ByteArray) (c : UInt8) : s.extract 0 (ix c (tl s)) = ba (bef c (tl s)) := by
  apply bytes_ext; simp [ba, bef, tl, ByteArray.data_extract]
theorem cut_aft (s : ByteArray) (c : UInt8) : s.extract (ix c (tl s) + 1) s.size = ba (aft c (tl s)) := by
  apply bytes_ext; simp [ba, aft, tl, ByteArray.data_extract]
  exact List.take_of_length_le (by rw [List.length_drop]; simp)
theorem cut_none {s : ByteArray} {c : UInt8} (h : ¬ ix c (tl s) < s.size) : s = ba (bef c (tl s)) ∧ (⟨#[]⟩ : ByteArray) = ba (aft c (tl s)) := by
  have h1 := tl_size s
  constructor
  · apply bytes_ext; rw [ba, bef, List.take_of_length_le (by omega)]
  · apply bytes_ext; simp [ba, aft]; omega
def CutPost (s : ByteArray) (c : UInt8) (w : World) (e : Ending) (w' : World) : Prop := ∃ q, e = .returned (.tuple #[.string (ba (bef c (tl s))), .string (ba (aft c (tl s))), .bool (decide (ix c (tl s) < s.size))]) ∧ w' = w.drewN q

set_option maxRecDepth 100000 in
set_option maxHeartbeats 1000000 in
theorem cut0_any (s : ByteArray) (c : UInt8) (w : World) (hs : s.size ≤ maxLen) :
    Calls Tryd.prog 54 #[.string s, .string ⟨#[c]⟩] w (CutPost s c w) := by
  have HI := Lib.hid (index_ix (tl s) c)
  have HZ := Lib.hid (tl_size s)
  unfold maxLen at hs
  go_enter Tryd.func54, Tryd.ntmps54
  go_wp2_with fail
  refine (Tryd.stringslite_Index_one s c _).mono ?_
  rintro e w1 ⟨rfl, rfl⟩
  by_cases h : ix c (tl s) < s.size
  · have HV : Hid (Lib.indexByte (tl s) c = (ix c (tl s) : Int)) := by rw [Hid, HI.out, HZ.out, if_pos h]
    rw [HV.out]
    obtain ⟨k, hk⟩ : ∃ k, ix c (tl s) = k := ⟨_, rfl⟩
    have HK := Lib.hid hk
    rw [hk] at h
    rw [hk]
    have HCB := Lib.hid (cut_bef s c)
    have HCA := Lib.hid (cut_aft s c)
    have hs1 : IntKind.i64.wrap ((k : Int) + 1) = (k : Int) + 1 := IntWalk.i64_in _ (by omega)
    have hs2 : (0 : Int) ≤ (k : Int) + 1 := by omega
    have hs3 : ((k : Int) + 1).toNat = k + 1 := by omega
    have hs4 : (k : Int) + 1 ≤ (s.size : Int) := by omega
    have hs5 : (k : Int) ≤ (s.size : Int) := by omega
    have hs6 : (0 : Int) ≤ (k : Int) := by omega
    clear hk HV HI
    go_wp2_with fail
    go_quiet (fail)
    go_wp2
    go_returns
    refine ⟨_, ?_, rfl⟩
    rw [← HCB.out, ← HCA.out, HK.out, decide_eq_true h]
    rfl
  · have HV : Hid (Lib.indexByte (tl s) c = -1) := by rw [Hid, HI.out, HZ.out, if_neg h]
    rw [HV.out]
    have HCN := Lib.hid (cut_none h)
    have HH := Lib.hid h
    clear HV HI h
    go_wp2
    go_returns
    refine ⟨0, ?_, rfl⟩
    rw [← HCN.out.1, ← HCN.out.2, decide_eq_false HH.out]
    rfl

set_option maxRecDepth 100000 in
set_option maxHeartbeats 1000000 in
theorem cut_any (s : ByteArray) (c : UInt8) (w : World) (hs : s.size ≤ maxLen) :
    Calls Tryd.prog 41 #[.string s, .string ⟨#[c]⟩] w (CutPost s c w) := by
  have HS := Lib.hid hs
  clear hs
  go_enter Tryd.func41, Tryd.ntmps41
  go_wp2_with fail
  refine (cut0_any s c _ HS.out).mono ?_
  rintro e w1 ⟨q, rfl, rfl⟩
  go_wp2
  go_returns
  exact ⟨q, rfl, rfl⟩

end Go.Proofs.YtedadhoneebfnaaDoor
