/- Contracts of sayDeed and answerOf (program). -/
import Derived.Test.YtedadhoneebfnaaGreatDoorLq
import Derived.Test.YtedadhoneebfnaaGreatDoorJ13
import Derived.Test.YtedadhoneebfnaaGreatDoorJ2
import Derived.Test.YtedadhoneebfnaaGreatDoorJ1
set_option linter.unusedSimpArgs false
set_option linter.unusedVariables false
namespace Go.Proofs.YtedadhoneebfnaaGreatDoor
open Go.RowKit

set_option maxRecDepth 100000 in
set_option maxHeartbeats 8000000 in
theorem iSayDeed_any (O E M : Int) (vp vc : Value) (ps : List ByteArray) (cs : List Cl) (k l : Int) (s : ByteArray) (w : World) (hok : ExOk O E M ps cs) (hR : ExRd w vp vc ps cs) (hn : SomeV vp ps.length) (hL : StLen ps) (hs : s.size ≤ maxLen) :
  Calls Tryz.prog 62 #[.agg #[.int .i64 O, .int .i64 E, .int .i64 M, vp, vc], .agg #[.int .i64 k, .int .i64 l, .string s]] w (SayPost O E M (sayL E M ps cs (k, l, s)) w) := by
 have hB := ((Blk.new (w := w) (cs := #[.int .i64 O, .int .i64 E, .int .i64 M, vp, vc]) (T := 33) rfl).alloc (.cells #[.int .i64 k, .int .i64 l, .string s] 55)).alloc (.cells #[.int .i64 0, .int .i64 0, .int .i64 0, .slice none 0 0, .slice none 0 0] 33)
 have hD := (Blk.new (w := w.alloc (.cells #[.int .i64 O, .int .i64 E, .int .i64 M, vp, vc] 33)) (cs := #[.int .i64 k, .int .i64 l, .string s]) (T := 55) (b := w.heap.size + 1) (by simp)).alloc (.cells #[.int .i64 0, .int .i64 0, .int .i64 0, .slice none 0 0, .slice none 0 0] 33)
 have hZ := Blk.new (w := (w.alloc (.cells #[.int .i64 O, .int .i64 E, .int .i64 M, vp, vc] 33)).alloc (.cells #[.int .i64 k, .int .i64 l, .string s] 55)) (cs := #[.int .i64 0, .int .i64 0, .int .i64 0, .slice none 0 0, .slice none 0 0]) (T := 33) (b := w.heap.size + 2) (by simp)
 have hbel0 : Below w.heap.size w (((w.alloc (.cells #[.int .i64 O, .int .i64 E, .int .i64 M, vp, vc] 33)).alloc (.cells #[.int .i64 k, .int .i64 l, .string s] 55)).alloc (.cells #[.int .i64 0, .int .i64 0, .int .i64 0, .slice none 0 0, .slice none 0 0] 33)) := by (exact grownA)
 have HR := Lib.hid hR
 have HNN := Lib.hid hn
 have HL := Lib.hid hL
 have HS := Lib.hid hs
 have HOK := Lib.hid hok
 obtain ⟨hp1, hp2, a1, c1, rfl, _⟩ := hR.plan
 obtain ⟨_, _, a2, c2, rfl, _⟩ := hR.calls
 unfold maxLen at hp2
 obtain ⟨b0, b1, b2, b3, b4, -, -, -, -, -, blt⟩ := hB.five
 obtain ⟨d0, d1, d2, -, -, -, dlt⟩ := hD.three
 clear hR hn hL hs hp1 hok
 go_enter Tryz.func62, Tryz.ntmps62
 go_wp2_with fail
 refine (iExDo_any O E M _ _ ps cs k l s _ (HR.out.below hbel0) HNN.out HL.out HS.out).mono ?_
 intro e w4 h4
 unfold doXQ at h4
 rw [if_pos ((exB_iff _ _ _ _ _).2 HOK.out)] at h4
 obtain ⟨r, hr⟩ : ∃ r, doL E M ps cs k l s = r := ⟨_, rfl⟩
 have HDO := Lib.hid hr
 rw [hr] at h4
 clear hr
 cases r with
 | some y =>
  obtain ⟨ps', cs'⟩ := y
  obtain ⟨vq, vr, rfl, ho4, hb4⟩ := h4
  simp only at ho4
  obtain ⟨aq, cq, ar, cr, rfl, rfl⟩ := agg_parts ho4
  have hZ4 := (hZ.belowAll hb4).alloc (.cells #[.int .i64 O, .int .i64 E, .int .i64 M, .slice aq ps'.length cq, .slice ar cs'.length cr] 33)
  have hX4 := Blk.new (w := w4) (cs := #[.int .i64 O, .int .i64 E, .int .i64 M, .slice aq ps'.length cq, .slice ar cs'.length cr]) (T := 33) (b := w4.heap.size) rfl
  have hal : Below w4.heap.size w4 (w4.alloc (.cells #[.int .i64 O, .int .i64 E, .int .i64 M, .slice aq ps'.length cq, .slice ar cs'.length cr] 33)) := (Below.refl _ _).alloc (Nat.le_refl _) _
  have hbel4 : Below w.heap.size w _ := (hbel0.trans (Below.mono hb4 hbel0.size)).trans (Below.mono hal (hbel0.trans (Below.mono hb4 hbel0.size)).size)
  have HO4 := Lib.hid (ho4.below hal)
  have hzl := hZ.lt
  clear hB hD hZ hb4 hbel0 ho4 hal b0 b1 b2 b3 b4 blt d0 d1 d2 dlt
  obtain ⟨x0, x1, x2, x3, x4, -, -, -, -, -, xlt⟩ := hX4.five
  obtain ⟨r0, r1, r2, r3, r4, f0, f1, f2, f3, f4, rlt⟩ := hZ4.five
  go_wp2
  obtain ⟨z0, z1, z2, z3, z4, -⟩ := (five_set (y0 := .int .i64 O) (y1 := .int .i64 E) (y2 := .int .i64 M) (y3 := .slice aq ps'.length cq) (y4 := .slice ar cs'.length cr) hZ4).five
  refine bodyPost_ret (v := .tuple #[.agg #[.int .i64 O, .int .i64 E, .int .i64 M, .slice aq ps'.length cq, .slice ar cs'.length cr], .string aok]) (by simp [results, Tryz.results62, go_sem, z0, z1, z2, z3, z4]; rfl) rfl ?_
  rw [sayL_some HDO.out]
  exact ⟨_, _, rfl, (HO4.out.result _ _ _ _ _ hzl).lower (by omega), five_below _ _ _ _ _ hbel4 (by omega)⟩
 | none =>
  obtain ⟨vq, vr, rfl, ho4, hb4⟩ := h4
  obtain ⟨aq, cq, ar, cr, rfl, rfl⟩ := agg_parts ho4
  have hal : Below w4.heap.size w4 (w4.alloc (.cells #[.int .i64 O, .int .i64 E, .int .i64 M, .slice aq ps.length cq, .slice ar cs.length cr] 33)) := (Below.refl _ _).alloc (Nat.le_refl _) _
  have hZ4 := (hZ.belowAll hb4).belowAll hal
  have hB4 := (hB.belowAll hb4).belowAll hal
  have hD4 := (hD.belowAll hb4).belowAll hal
  have hX4 := Blk.new (w := w4) (cs := #[.int .i64 O, .int .i64 E, .int .i64 M, .slice aq ps.length cq, .slice ar cs.length cr]) (T := 33) (b := w4.heap.size) rfl
  have hbel4 : Below w.heap.size w _ := (hbel0.trans (Below.mono hb4 hbel0.size)).trans (Below.mono hal (hbel0.trans (Below.mono hb4 hbel0.size)).size)
  have HO4 := Lib.hid (ho4.below hal)
  have hzl := hZ.lt
  have hrd4 := HR.out.below hbel4
  have HRD4 := Lib.hid hrd4
  clear hB hD hZ hb4 hbel0 ho4 hal b0 b1 b2 b3 b4 blt d0 d1 d2 dlt hrd4
  by_cases hk : k = 0
  case neg =>
   have hk1 : (k != 0) = true := by simpa using hk
   have HN : Hid (sayL E M ps cs (k, l, s) = ((ps, cs), ano)) := by unfold Hid; rw [sayL_none HDO.out, notL_no (.inl hk)]
   clear hk
   obtain ⟨x0, x1, x2, x3, x4, -, -, -, -, -, xlt⟩ := hX4.five
   obtain ⟨r0, r1, r2, r3, r4, f0, f1, f2, f3, f4, rlt⟩ := hZ4.five
   obtain ⟨d0, d1, d2, -, -, -, dlt⟩ := hD4.three
   go_wp2
   obtain ⟨z0, z1, z2, z3, z4, -⟩ := (five_set (y0 := .int .i64 O) (y1 := .int .i64 E) (y2 := .int .i64 M) (y3 := .slice aq ps.length cq) (y4 := .slice ar cs.length cr) hZ4).five
   refine bodyPost_ret (v := .tuple #[.agg #[.int .i64 O, .int .i64 E, .int .i64 M, .slice aq ps.length cq, .slice ar cs.length cr], .string ano]) (by simp [results, Tryz.results62, go_sem, z0, z1, z2, z3, z4]; rfl) rfl ?_
   rw [HN.out]
   exact ⟨_, _, rfl, (HO4.out.result _ _ _ _ _ hzl).lower (by omega), five_below _ _ _ _ _ hbel4 (by omega)⟩
  subst hk
  by_cases hl : (ps.length : Int) ≤ l
  ·
   have HN : Hid (sayL E M ps cs (0, l, s) = ((ps, cs), ano)) := by unfold Hid; rw [sayL_none HDO.out, notL_no (.inr hl)]
   obtain ⟨x0, x1, x2, x3, x4, -, -, -, -, -, xlt⟩ := hX4.five
   obtain ⟨r0, r1, r2, r3, r4, f0, f1, f2, f3, f4, rlt⟩ := hZ4.five
   obtain ⟨b0, b1, b2, b3, b4, -, -, -, -, -, blt⟩ := hB4.five
   obtain ⟨d0, d1, d2, -, -, -, dlt⟩ := hD4.three
   go_wp2
   obtain ⟨z0, z1, z2, z3, z4, -⟩ := (five_set (y0 := .int .i64 O) (y1 := .int .i64 E) (y2 := .int .i64 M) (y3 := .slice aq ps.length cq) (y4 := .slice ar cs.length cr) hZ4).five
   refine bodyPost_ret (v := .tuple #[.agg #[.int .i64 O, .int .i64 E, .int .i64 M, .slice aq ps.length cq, .slice ar cs.length cr], .string ano]) (by simp [results, Tryz.results62, go_sem, z0, z1, z2, z3, z4]; rfl) rfl ?_
   rw [HN.out]
   exact ⟨_, _, rfl, (HO4.out.result _ _ _ _ _ hzl).lower (by omega), five_below _ _ _ _ _ hbel4 (by omega)⟩
  ·
   have HNL : Hid (¬ ((0 : Int) ≠ 0 ∨ (ps.length : Int) ≤ l)) := by rintro (h | h); exact h rfl; exact hl h
   obtain ⟨b0, b1, b2, b3, b4, -, -, -, -, -, blt⟩ := hB4.five
   obtain ⟨d0, d1, d2, -, -, -, dlt⟩ := hD4.three
   go_wp2_with fail
   refine (iLineOf_any O E M _ _ ps cs s _ HRD4.out HL.out).mono ?_
   rintro e w5 ⟨rfl, hb5⟩
   have hX5 := hX4.belowAll hb5
   have hZ5 := hZ4.belowAll hb5
   have hbel5 : Below w.heap.size w w5 := hbel4.trans (Below.mono hb5 hbel4.size)
   have HO5 := Lib.hid (HO4.out.below hb5)
   have HLX := Lib.hid (lineX_y s HOK.out)
   obtain ⟨z, hz⟩ : ∃ z, lineX O E M ps cs s = z := ⟨_, rfl⟩
   have HZ := Lib.hid hz
   rw [hz]
   clear hX4 hZ4 hB4 hD4 hb5 hbel4 HO4 hz b0 b1 b2 b3 b4 blt d0 d1 d2 dlt
   obtain ⟨x0, x1, x2, x3, x4, -, -, -, -, -, xlt⟩ := hX5.five
   obtain ⟨r0, r1, r2, r3, r4, f0, f1, f2, f3, f4, rlt⟩ := hZ5.five
   by_cases hz0 : z < 0
   ·
    have HN : Hid (sayL E M ps cs (0, l, s) = ((ps, cs), awrong)) := by unfold Hid; rw [sayL_none HDO.out, notL_wrong HNL.out (by rw [← HLX.out, HZ.out]; exact hz0)]
    go_wp2
    obtain ⟨z0, z1, z2, z3, z4, -⟩ := (five_set (y0 := .int .i64 O) (y1 := .int .i64 E) (y2 := .int .i64 M) (y3 := .slice aq ps.length cq) (y4 := .slice ar cs.length cr) hZ5).five
    refine bodyPost_ret (v := .tuple #[.agg #[.int .i64 O, .int .i64 E, .int .i64 M, .slice aq ps.length cq, .slice ar cs.length cr], .string awrong]) (by simp [results, Tryz.results62, go_sem, z0, z1, z2, z3, z4]; rfl) rfl ?_
    rw [HN.out]
    exact ⟨_, _, rfl, (HO5.out.result _ _ _ _ _ hzl).lower (by omega), five_below _ _ _ _ _ hbel5 (by omega)⟩
   ·
    have HN : Hid (sayL E M ps cs (0, l, s) = ((ps, cs), abusy)) := by unfold Hid; rw [sayL_none HDO.out, notL_busy HNL.out (by rw [← HLX.out, HZ.out]; exact hz0)]
    go_wp2
    obtain ⟨z0, z1, z2, z3, z4, -⟩ := (five_set (y0 := .int .i64 O) (y1 := .int .i64 E) (y2 := .int .i64 M) (y3 := .slice aq ps.length cq) (y4 := .slice ar cs.length cr) hZ5).five
    refine bodyPost_ret (v := .tuple #[.agg #[.int .i64 O, .int .i64 E, .int .i64 M, .slice aq ps.length cq, .slice ar cs.length cr], .string abusy]) (by simp [results, Tryz.results62, go_sem, z0, z1, z2, z3, z4]; rfl) rfl ?_
    rw [HN.out]
    exact ⟨_, _, rfl, (HO5.out.result _ _ _ _ _ hzl).lower (by omega), five_below _ _ _ _ _ hbel5 (by omega)⟩

end Go.Proofs.YtedadhoneebfnaaGreatDoor
