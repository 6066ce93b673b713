/- The laws' helpers on one deed, and the walk of FnExactDeedText. -/
import Derived.Test.YtedadhoneebfnaaDoorDy
set_option linter.unusedSimpArgs false
set_option linter.unusedVariables false
namespace Go.Proofs.YtedadhoneebfnaaDoor
open Go.RowKit

set_option maxHeartbeats 400000 in
theorem szExDeed_any (k l : Int) (s : ByteArray) (w : World) (hs : s.size ≤ maxLen) :
    Calls Tryd.prog 10 #[.agg #[.int .i64 k, .int .i64 l, .string s], .int .i64 1048576] w fun e w' => e = .returned (.int .i64 (if s.size ≤ 1048576 then 1048576 - (s.size : Int) else -1)) ∧ Below w.heap.size w w' := by
  unfold maxLen at hs
  by_cases h : s.size ≤ 1048576
  · have HT : Hid ((if s.size ≤ 1048576 then 1048576 - (s.size : Int) else -1) = 1048576 - (s.size : Int)) := if_pos h
    go_enter Tryd.func10, Tryd.ntmps10
    go_wp2
    go_returns
    exact ⟨by first | rfl | (rw [HT.out]; rfl), by (repeat' (first | (with_reducible exact Below.refl _ _) | (with_reducible assumption) | (with_reducible refine Below.drew ?_) | (with_reducible refine below_drewN ?_ _) | (with_reducible refine Below.alloc ?_ ?_ _) | (with_reducible refine Below.setCell ?_ ?_ _) | (refine Below.trans ?_ (Below.mono (by assumption) (by first | omega | (with_reducible exact Below.size (by assumption)) | (simp; done) | (simp; omega)))) | (with_reducible exact Nat.le_refl _) | omega | (with_reducible exact Below.size (by assumption)) | (simp only [World.size_alloc, World.size_setCell, World.size_drew]; omega) | (simp; done) | (simp; omega)))⟩
  · have HT : Hid ((if s.size ≤ 1048576 then 1048576 - (s.size : Int) else -1) = -1) := if_neg h
    go_enter Tryd.func10, Tryd.ntmps10
    go_wp2
    go_returns
    exact ⟨by first | rfl | (rw [HT.out]; rfl), by (repeat' (first | (with_reducible exact Below.refl _ _) | (with_reducible assumption) | (with_reducible refine Below.drew ?_) | (with_reducible refine below_drewN ?_ _) | (with_reducible refine Below.alloc ?_ ?_ _) | (with_reducible refine Below.setCell ?_ ?_ _) | (refine Below.trans ?_ (Below.mono (by assumption) (by first | omega | (with_reducible exact Below.size (by assumption)) | (simp; done) | (simp; omega)))) | (with_reducible exact Nat.le_refl _) | omega | (with_reducible exact Below.size (by assumption)) | (simp only [World.size_alloc, World.size_setCell, World.size_drew]; omega) | (simp; done) | (simp; omega)))⟩

set_option maxHeartbeats 400000 in
theorem toExDeed_any (k l : Int) (s : ByteArray) (w : World) :
    Calls Tryd.prog 12 #[.agg #[.int .i64 k, .int .i64 l, .string s]] w fun e w' => e = .returned (.agg #[.int .i64 k, .int .i64 l, .string s]) ∧ Below w.heap.size w w' := by
  go_enter Tryd.func12, Tryd.ntmps12
  go_wp2
  go_returns
  exact ⟨by simp [go_sem], by (repeat' (first | (with_reducible exact Below.refl _ _) | (with_reducible assumption) | (with_reducible refine Below.drew ?_) | (with_reducible refine below_drewN ?_ _) | (with_reducible refine Below.alloc ?_ ?_ _) | (with_reducible refine Below.setCell ?_ ?_ _) | (refine Below.trans ?_ (Below.mono (by assumption) (by first | omega | (with_reducible exact Below.size (by assumption)) | (simp; done) | (simp; omega)))) | (with_reducible exact Nat.le_refl _) | omega | (with_reducible exact Below.size (by assumption)) | (simp only [World.size_alloc, World.size_setCell, World.size_drew]; omega) | (simp; done) | (simp; omega)))⟩

set_option maxRecDepth 100000 in
set_option maxHeartbeats 1000000 in
theorem exactDeedText_any (k l : Int) (s : ByteArray) (w : World) (hs : s.size ≤ maxLen) :
    Calls Tryd.prog 3 #[.agg #[.int .i64 k, .int .i64 l, .string s]] w fun e w' => e = .returned (.bool true) ∧ Below w.heap.size w w' := by
  have hbel0 : Below w.heap.size w (w.alloc (.cells #[.int .i64 k, .int .i64 l, .string s] 23)) := by (repeat' (first | (with_reducible exact Below.refl _ _) | (with_reducible assumption) | (with_reducible refine Below.drew ?_) | (with_reducible refine below_drewN ?_ _) | (with_reducible refine Below.alloc ?_ ?_ _) | (with_reducible refine Below.setCell ?_ ?_ _) | (refine Below.trans ?_ (Below.mono (by assumption) (by first | omega | (with_reducible exact Below.size (by assumption)) | (simp; done) | (simp; omega)))) | (with_reducible exact Nat.le_refl _) | omega | (with_reducible exact Below.size (by assumption)) | (simp only [World.size_alloc, World.size_setCell, World.size_drew]; omega) | (simp; done) | (simp; omega)))
  have hB := Blk.new (w := w) (cs := #[.int .i64 k, .int .i64 l, .string s]) (T := 23) rfl
  obtain ⟨t1, t2, t3, _, _, _, tlt⟩ := hB.three
  go_enter Tryd.func3, Tryd.ntmps3
  go_wp2_with fail
  refine (szExDeed_any k l s _ hs).mono ?_
  rintro e w1 ⟨rfl, hb1⟩
  have hbel1 : Below w.heap.size w w1 := hbel0.trans (Below.mono hb1 hbel0.size)
  have hB1 := hB.belowAll hb1
  clear hB hb1 t1 t2 t3 tlt
  obtain ⟨t1, t2, t3, _, _, _, tlt⟩ := hB1.three
  by_cases hle : s.size ≤ 1048576
  · rw [if_pos hle]
    go_wp2_with fail
    refine (toExDeed_any k l s _).mono ?_
    rintro e w2 ⟨rfl, hb2⟩
    have hbel2 : Below w.heap.size w w2 := hbel1.trans (Below.mono hb2 hbel1.size)
    have hB2 := hB1.belowAll hb2
    clear hB1 hb2 t1 t2 t3 tlt
    obtain ⟨t1, t2, t3, _, _, _, tlt⟩ := hB2.three
    go_wp2_with fail
    refine (sDeedText_any k l s _ hs).mono ?_
    rintro e w3 ⟨rfl, hb3⟩
    have hbel3 : Below w.heap.size w w3 := hbel2.trans (Below.mono hb3 hbel2.size)
    have hB3 := hB2.belowAll hb3
    clear hB2 hb3 t1 t2 t3 tlt
    obtain ⟨t1, t2, t3, _, _, _, tlt⟩ := hB3.three
    go_wp2_with fail
    refine (toExDeed_any k l s _).mono ?_
    rintro e w4 ⟨rfl, hb4⟩
    have hbel4 : Below w.heap.size w w4 := hbel3.trans (Below.mono hb4 hbel3.size)
    have hB4 := hB3.belowAll hb4
    clear hB3 hb4 t1 t2 t3 tlt
    obtain ⟨t1, t2, t3, _, _, _, tlt⟩ := hB4.three
    go_wp2_with fail
    refine (iDeedText_any k l s _ hs).mono ?_
    rintro e w5 ⟨rfl, hb5⟩
    have hbel5 : Below w.heap.size w w5 := hbel4.trans (Below.mono hb5 hbel4.size)
    obtain ⟨T, hT⟩ : ∃ T, dtxt k l s = T := ⟨_, rfl⟩
    rw [hT]
    have hsb := str_eq (rfl : T = T)
    go_wp2
    go_returns
    exact ⟨rfl, hbel5⟩
  · rw [if_neg hle]
    go_wp2
    go_returns
    exact ⟨rfl, hbel1⟩

end Go.Proofs.YtedadhoneebfnaaDoor
