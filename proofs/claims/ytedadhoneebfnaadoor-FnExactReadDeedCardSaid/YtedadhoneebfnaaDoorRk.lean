/- The walk of the exact law of ReadDeed. -/
import Derived.Test.YtedadhoneebfnaaDoorRz
import Derived.Test.YtedadhoneebfnaaDoorDk
set_option linter.unusedSimpArgs false
set_option linter.unusedVariables false
namespace Go.Proofs.YtedadhoneebfnaaDoor
open Go.RowKit

set_option maxRecDepth 100000 in
set_option maxHeartbeats 1000000 in
theorem exactReadDeed_any (s : ByteArray) (w : World) (hs : s.size ≤ maxLen) :
    Calls Tryd.prog 5 #[.string s] w fun e w' => e = .returned (.bool true) ∧ Below w.heap.size w w' := by
  have HS := Lib.hid hs
  unfold maxLen at hs
  by_cases hb : 1048576 < s.size
  · go_enter Tryd.func5, Tryd.ntmps5
    go_wp2
    go_returns
    exact ⟨rfl, Below.refl _ _⟩
  have hb2 : s.size ≤ 1048576 := by omega
  obtain ⟨⟨⟨k, l, t⟩, b⟩, hr⟩ : ∃ z, rdeed s = z := ⟨_, rfl⟩
  have HR := Lib.hid hr
  clear hr hb
  go_enter Tryd.func5, Tryd.ntmps5
  go_wp2_with fail
  refine (sReadDeed_any s _ (by omega)).mono ?_
  rintro e w1 ⟨rfl, hb1⟩
  rw [HR.out]
  have hW := Blk.new (w := w1) (cs := #[.int .i64 k, .int .i64 l, .string t]) (T := 26) rfl
  have hbel1 := hb1.alloc hb1.size (.cells #[.int .i64 k, .int .i64 l, .string t] 26)
  go_wp2_with fail
  refine (iReadDeed_any s _ HS.out).mono ?_
  rintro e w2 ⟨rfl, hb2'⟩
  rw [HR.out]
  have hW2 := hW.belowAll hb2'
  have hbel2 : Below w.heap.size w w2 := hbel1.trans (Below.mono hb2' hbel1.size)
  obtain ⟨d0, d1, d2, _, _, _, dlt⟩ := hW2.three
  have hz2 := hbel2.size
  have hG := Blk.new (w := w2) (cs := #[.int .i64 k, .int .i64 l, .string t]) (T := 26) rfl
  clear hb2' hbel1 hb1
  obtain ⟨g0, g1, g2, _, _, _, glt⟩ := hG.three
  have hW3 := hW2.alloc (.cells #[.int .i64 k, .int .i64 l, .string t] 26)
  obtain ⟨h0, h1, h2, _, _, _, hlt⟩ := hW3.three
  have hbel3 := hbel2.alloc hz2 (.cells #[.int .i64 k, .int .i64 l, .string t] 26)
  go_wp2_with fail
  refine (eqExDeed_any k l k l t t _).mono ?_
  rintro e w4 ⟨rfl, hb4⟩
  rw [decide_eq_true rfl]
  have hbel4 : Below w.heap.size w w4 := hbel3.trans (Below.mono hb4 hbel3.size)
  cases b
  · go_wp2
    go_returns
    exact ⟨rfl, hbel4⟩
  · go_wp2
    go_returns
    exact ⟨rfl, hbel4⟩

end Go.Proofs.YtedadhoneebfnaaDoor
