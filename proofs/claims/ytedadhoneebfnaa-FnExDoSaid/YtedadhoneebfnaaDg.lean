/- Contract of ExDo (program). -/
import Derived.Test.YtedadhoneebfnaaDf
set_option linter.unusedSimpArgs false
set_option linter.unusedVariables false
namespace Go.Proofs.Ytedadhoneebfnaa
open Go.RowKit

theorem doQ_inv {O E M : Int} {ps : List ByteArray} {cs : List Cl} {r : Option (List ByteArray × List Cl)} {w : World} {e : Ending} {w' : World} (h : doQ O E M ps cs r w e w') :
  ∃ vp vc ps' cs' b, e = .returned (.tuple #[.agg #[.int .i64 O, .int .i64 E, .int .i64 M, vp, vc], .bool b]) ∧ ExOwn w' w.heap.size vp vc ps' cs' ∧ Below w.heap.size w w' ∧ (∀ w0 e' w'', ExNewB O E M ps' cs' b w0 e' w'' → doQ O E M ps cs r w0 e' w'') := by
 cases r with
 | none =>
  obtain ⟨vp, vc, h1, h2, h3⟩ := h
  exact ⟨vp, vc, ps, cs, false, h1, h2, h3, fun _ _ _ h => h⟩
 | some y =>
  obtain ⟨vp, vc, h1, h2, h3⟩ := h
  exact ⟨vp, vc, y.1, y.2, true, h1, h2, h3, fun _ _ _ h => h⟩
/-- What ExDo leaves. -/
noncomputable def doXQ (O E M : Int) (ps : List ByteArray) (cs : List Cl) (k l : Int) (s : ByteArray) : World → Ending → World → Prop :=
 if exB O E M ps cs = true then doQ O E M ps cs (doL E M ps cs k l s) else ExNewB 0 0 0 [] [] false
theorem doXQ_no {O E M : Int} {ps : List ByteArray} {cs : List Cl} (h : exB O E M ps cs = false) {k l : Int} {s : ByteArray} {w : World} {e : Ending} {w' : World} (hh : ExNewB 0 0 0 [] [] false w e w') : doXQ O E M ps cs k l s w e w' := by
 unfold doXQ; rw [h]; exact hh
theorem doXQ_yes {O E M : Int} {ps : List ByteArray} {cs : List Cl} (h : exB O E M ps cs = true) {k l : Int} {s : ByteArray} {w : World} {e : Ending} {w' : World} (hh : doQ O E M ps cs (doL E M ps cs k l s) w e w') : doXQ O E M ps cs k l s w e w' := by
 unfold doXQ; rw [h]; exact hh
theorem agg_parts {w : World} {vp vc : Value} {ps : List ByteArray} {cs : List Cl} {base : Nat} (h : ExOwn w base vp vc ps cs) : ∃ a1 c1 a2 c2, vp = .slice a1 ps.length c1 ∧ vc = .slice a2 cs.length c2 := by
 obtain ⟨a1, c1, h1⟩ := own_len9 h.plan
 obtain ⟨a2, c2, h2⟩ := own_len9 h.calls
 exact ⟨a1, c1, a2, c2, h1, h2⟩

set_option maxRecDepth 100000 in
set_option maxHeartbeats 8000000 in
theorem iExDo_any (O E M : Int) (vp vc : Value) (ps : List ByteArray) (cs : List Cl) (k l : Int) (s : ByteArray) (w : World) (hR : ExRd w vp vc ps cs) (hn : SomeV vp ps.length) (hL : StLen ps) (hs : s.size ≤ maxLen) :
  Calls Try.prog 50 #[.agg #[.int .i64 O, .int .i64 E, .int .i64 M, vp, vc], .agg #[.int .i64 k, .int .i64 l, .string s]] w (doXQ O E M ps cs k l s w) := by
 have hB := ((Blk.new (w := w) (cs := #[.int .i64 O, .int .i64 E, .int .i64 M, vp, vc]) (T := 33) rfl).alloc (.cells #[.int .i64 k, .int .i64 l, .string s] 68)).alloc (.cells #[.int .i64 0, .int .i64 0, .int .i64 0, .slice none 0 0, .slice none 0 0] 33)
 have hD := (Blk.new (w := w.alloc (.cells #[.int .i64 O, .int .i64 E, .int .i64 M, vp, vc] 33)) (cs := #[.int .i64 k, .int .i64 l, .string s]) (T := 68) (b := w.heap.size + 1) (by simp)).alloc (.cells #[.int .i64 0, .int .i64 0, .int .i64 0, .slice none 0 0, .slice none 0 0] 33)
 have hZ := Blk.new (w := (w.alloc (.cells #[.int .i64 O, .int .i64 E, .int .i64 M, vp, vc] 33)).alloc (.cells #[.int .i64 k, .int .i64 l, .string s] 68)) (cs := #[.int .i64 0, .int .i64 0, .int .i64 0, .slice none 0 0, .slice none 0 0]) (T := 33) (b := w.heap.size + 2) (by simp)
 have hbel0 : Below w.heap.size w (((w.alloc (.cells #[.int .i64 O, .int .i64 E, .int .i64 M, vp, vc] 33)).alloc (.cells #[.int .i64 k, .int .i64 l, .string s] 68)).alloc (.cells #[.int .i64 0, .int .i64 0, .int .i64 0, .slice none 0 0, .slice none 0 0] 33)) := by (exact grownA)
 have HR := Lib.hid hR
 have HNN := Lib.hid hn
 have HL := Lib.hid hL
 have HS := Lib.hid hs
 obtain ⟨hp1, hp2, a1, c1, rfl, _⟩ := hR.plan
 obtain ⟨_, _, a2, c2, rfl, _⟩ := hR.calls
 unfold maxLen at hp2
 obtain ⟨b0, b1, b2, b3, b4, -, -, -, -, -, blt⟩ := hB.five
 obtain ⟨d0, d1, d2, -, -, -, dlt⟩ := hD.three
 clear hR hn hL hs hp1
 go_enter Try.func50, Try.ntmps50
 go_wp2_with fail
 refine (iExchangeValid_any O E M _ _ ps cs _ (HR.out.below hbel0) HL.out).mono ?_
 rintro e w1 ⟨rfl, hb1⟩
 have hbel1 : Below w.heap.size w w1 := by (exact grownA)
 have hB1 := hB.belowAll hb1
 have hD1 := hD.belowAll hb1
 have hZ1 := hZ.belowAll hb1
 clear hB hD hZ hb1 hbel0 b0 b1 b2 b3 b4 blt d0 d1 d2 dlt
 obtain ⟨b0, b1, b2, b3, b4, -, -, -, -, -, blt⟩ := hB1.five
 obtain ⟨d0, d1, d2, -, -, -, dlt⟩ := hD1.three
 obtain ⟨r0, r1, r2, r3, r4, f0, f1, f2, f3, f4, rlt⟩ := hZ1.five
 obtain ⟨d, hd⟩ : ∃ d, exB O E M ps cs = d := ⟨_, rfl⟩
 have HD := Lib.hid hd
 rw [hd]
 clear hd
 cases d
 ·
  go_wp2
  obtain ⟨z0, z1, z2, z3, z4, -⟩ := (five_set (y0 := .int .i64 0) (y1 := .int .i64 0) (y2 := .int .i64 0) (y3 := .slice none 0 0) (y4 := .slice none 0 0) hZ1).five
  refine bodyPost_ret (v := .tuple #[.agg #[.int .i64 0, .int .i64 0, .int .i64 0, .slice none 0 0, .slice none 0 0], .bool false]) (by simp [results, Try.results50, go_sem, z0, z1, z2, z3, z4, r0, r1, r2, r3, r4]) rfl ?_
  exact doXQ_no HD.out ⟨_, _, rfl, ExOwn.nothing _ _, five_below _ _ _ _ _ hbel1 (by omega)⟩
 have HOK := Lib.hid ((exB_iff _ _ _ _ _).1 HD.out)
 have hcn := HOK.out.calls.count (lines_le HOK.out.calls.sh)
 have hpn := HOK.out.lines.2
 by_cases hl0 : l < 0
 ·
  have HN : Hid (doL E M ps cs k l s = none) := by unfold Hid doL; rw [if_pos (.inl hl0)]
  go_wp2_with fail
  refine (copyExchange_any O E M _ _ ps cs _ (HR.out.below hbel1) HNN.out (by omega) (by omega)).mono ?_
  rintro e w4 ⟨vq, vr, rfl, ho4, hb4⟩
  have hZ4 := hZ1.belowAll hb4
  have hbel4 : Below w.heap.size w w4 := hbel1.trans (Below.mono hb4 hbel1.size)
  obtain ⟨aq, cq, ar, cr, rfl, rfl⟩ := agg_parts ho4
  clear hb4 r0 r1 r2 r3 r4 f0 f1 f2 f3 f4 b0 b1 b2 b3 b4 blt d0 d1 d2 dlt
  obtain ⟨r0, r1, r2, r3, r4, f0, f1, f2, f3, f4, rlt4⟩ := hZ4.five
  have HO4 := Lib.hid ho4
  clear ho4
  go_wp2
  obtain ⟨z0, z1, z2, z3, z4, -⟩ := (five_set (y0 := .int .i64 O) (y1 := .int .i64 E) (y2 := .int .i64 M) (y3 := .slice aq ps.length cq) (y4 := .slice ar cs.length cr) hZ4).five
  refine bodyPost_ret (v := .tuple #[.agg #[.int .i64 O, .int .i64 E, .int .i64 M, .slice aq ps.length cq, .slice ar cs.length cr], .bool false]) (by simp [results, Try.results50, go_sem, z0, z1, z2, z3, z4]) rfl ?_
  exact doXQ_yes HD.out (doQ_none HN.out ⟨_, _, rfl, (HO4.out.result _ _ _ _ _ rlt).lower (by omega), five_below _ _ _ _ _ hbel4 (by omega)⟩)
 by_cases hl1 : (ps.length : Int) ≤ l
 ·
  have HN : Hid (doL E M ps cs k l s = none) := by unfold Hid doL; rw [if_pos (.inr hl1)]
  go_wp2_with fail
  refine (copyExchange_any O E M _ _ ps cs _ (HR.out.below hbel1) HNN.out (by omega) (by omega)).mono ?_
  rintro e w4 ⟨vq, vr, rfl, ho4, hb4⟩
  have hZ4 := hZ1.belowAll hb4
  have hbel4 : Below w.heap.size w w4 := hbel1.trans (Below.mono hb4 hbel1.size)
  obtain ⟨aq, cq, ar, cr, rfl, rfl⟩ := agg_parts ho4
  clear hb4 r0 r1 r2 r3 r4 f0 f1 f2 f3 f4 b0 b1 b2 b3 b4 blt d0 d1 d2 dlt
  obtain ⟨r0, r1, r2, r3, r4, f0, f1, f2, f3, f4, rlt4⟩ := hZ4.five
  have HO4 := Lib.hid ho4
  clear ho4
  go_wp2
  obtain ⟨z0, z1, z2, z3, z4, -⟩ := (five_set (y0 := .int .i64 O) (y1 := .int .i64 E) (y2 := .int .i64 M) (y3 := .slice aq ps.length cq) (y4 := .slice ar cs.length cr) hZ4).five
  refine bodyPost_ret (v := .tuple #[.agg #[.int .i64 O, .int .i64 E, .int .i64 M, .slice aq ps.length cq, .slice ar cs.length cr], .bool false]) (by simp [results, Try.results50, go_sem, z0, z1, z2, z3, z4]) rfl ?_
  exact doXQ_yes HD.out (doQ_none HN.out ⟨_, _, rfl, (HO4.out.result _ _ _ _ _ rlt).lower (by omega), five_below _ _ _ _ _ hbel4 (by omega)⟩)
 by_cases hk0 : k = 0
 ·
  subst hk0
  go_wp2_with fail
  refine (doCall_any O E M _ _ ps cs 0 l s _ HOK.out (HR.out.below hbel1) HNN.out HL.out ⟨by omega, by omega⟩).mono ?_
  intro e w4 h4
  obtain ⟨vq, vr, ps', cs', b, rfl, ho4, hb4, hmk⟩ := doQ_inv h4
  clear h4
  have HMK := Lib.hid hmk
  clear hmk
  have hZ4 := hZ1.belowAll hb4
  have hbel4 : Below w.heap.size w w4 := hbel1.trans (Below.mono hb4 hbel1.size)
  obtain ⟨aq, cq, ar, cr, rfl, rfl⟩ := agg_parts ho4
  clear hb4 r0 r1 r2 r3 r4 f0 f1 f2 f3 f4 b0 b1 b2 b3 b4 blt d0 d1 d2 dlt
  obtain ⟨r0, r1, r2, r3, r4, f0, f1, f2, f3, f4, rlt4⟩ := hZ4.five
  have HO4 := Lib.hid ho4
  clear ho4
  go_wp2
  obtain ⟨z0, z1, z2, z3, z4, -⟩ := (five_set (y0 := .int .i64 O) (y1 := .int .i64 E) (y2 := .int .i64 M) (y3 := .slice aq ps'.length cq) (y4 := .slice ar cs'.length cr) hZ4).five
  refine bodyPost_ret (v := .tuple #[.agg #[.int .i64 O, .int .i64 E, .int .i64 M, .slice aq ps'.length cq, .slice ar cs'.length cr], .bool b]) (by simp [results, Try.results50, go_sem, z0, z1, z2, z3, z4]) rfl ?_
  exact doXQ_yes HD.out (HMK.out _ _ _ ⟨_, _, rfl, (HO4.out.result _ _ _ _ _ rlt).lower (by omega), five_below _ _ _ _ _ hbel4 (by omega)⟩)
 have hq0 : ((k : Int) == 0) = false := by simpa using hk0
 by_cases hk1 : k = 1
 ·
  subst hk1
  go_wp2_with fail
  refine (doDrop_any O E M _ _ ps cs 1 l s _ HOK.out (HR.out.below hbel1) HNN.out HL.out ⟨by omega, by omega⟩).mono ?_
  intro e w4 h4
  obtain ⟨vq, vr, ps', cs', b, rfl, ho4, hb4, hmk⟩ := doQ_inv h4
  clear h4
  have HMK := Lib.hid hmk
  clear hmk
  have hZ4 := hZ1.belowAll hb4
  have hbel4 : Below w.heap.size w w4 := hbel1.trans (Below.mono hb4 hbel1.size)
  obtain ⟨aq, cq, ar, cr, rfl, rfl⟩ := agg_parts ho4
  clear hb4 r0 r1 r2 r3 r4 f0 f1 f2 f3 f4 b0 b1 b2 b3 b4 blt d0 d1 d2 dlt
  obtain ⟨r0, r1, r2, r3, r4, f0, f1, f2, f3, f4, rlt4⟩ := hZ4.five
  have HO4 := Lib.hid ho4
  clear ho4
  go_wp2
  obtain ⟨z0, z1, z2, z3, z4, -⟩ := (five_set (y0 := .int .i64 O) (y1 := .int .i64 E) (y2 := .int .i64 M) (y3 := .slice aq ps'.length cq) (y4 := .slice ar cs'.length cr) hZ4).five
  refine bodyPost_ret (v := .tuple #[.agg #[.int .i64 O, .int .i64 E, .int .i64 M, .slice aq ps'.length cq, .slice ar cs'.length cr], .bool b]) (by simp [results, Try.results50, go_sem, z0, z1, z2, z3, z4]) rfl ?_
  exact doXQ_yes HD.out (HMK.out _ _ _ ⟨_, _, rfl, (HO4.out.result _ _ _ _ _ rlt).lower (by omega), five_below _ _ _ _ _ hbel4 (by omega)⟩)
 have hq1 : ((k : Int) == 1) = false := by simpa using hk1
 by_cases hk2 : k = 2
 ·
  subst hk2
  obtain ⟨ln, rfl⟩ := Int.eq_ofNat_of_zero_le (show 0 ≤ l by omega)
  go_wp2_with fail
  refine (doNumber_any O E M _ _ ps cs 2 ln s _ HOK.out (HR.out.below hbel1) HNN.out HL.out (by omega) HS.out).mono ?_
  intro e w4 h4
  obtain ⟨vq, vr, ps', cs', b, rfl, ho4, hb4, hmk⟩ := doQ_inv h4
  clear h4
  have HMK := Lib.hid hmk
  clear hmk
  have hZ4 := hZ1.belowAll hb4
  have hbel4 : Below w.heap.size w w4 := hbel1.trans (Below.mono hb4 hbel1.size)
  obtain ⟨aq, cq, ar, cr, rfl, rfl⟩ := agg_parts ho4
  clear hb4 r0 r1 r2 r3 r4 f0 f1 f2 f3 f4 b0 b1 b2 b3 b4 blt d0 d1 d2 dlt
  obtain ⟨r0, r1, r2, r3, r4, f0, f1, f2, f3, f4, rlt4⟩ := hZ4.five
  have HO4 := Lib.hid ho4
  clear ho4
  go_wp2
  obtain ⟨z0, z1, z2, z3, z4, -⟩ := (five_set (y0 := .int .i64 O) (y1 := .int .i64 E) (y2 := .int .i64 M) (y3 := .slice aq ps'.length cq) (y4 := .slice ar cs'.length cr) hZ4).five
  refine bodyPost_ret (v := .tuple #[.agg #[.int .i64 O, .int .i64 E, .int .i64 M, .slice aq ps'.length cq, .slice ar cs'.length cr], .bool b]) (by simp [results, Try.results50, go_sem, z0, z1, z2, z3, z4]) rfl ?_
  exact doXQ_yes HD.out (HMK.out _ _ _ ⟨_, _, rfl, (HO4.out.result _ _ _ _ _ rlt).lower (by omega), five_below _ _ _ _ _ hbel4 (by omega)⟩)
 have hq2 : ((k : Int) == 2) = false := by simpa using hk2
 have HN : Hid (doL E M ps cs k l s = none) := by unfold Hid doL; rw [if_neg (by omega), if_neg hk0, if_neg hk1, if_neg hk2]
 clear hk0 hk1 hk2
 go_wp2_with fail
 refine (copyExchange_any O E M _ _ ps cs _ (HR.out.below hbel1) HNN.out (by omega) (by omega)).mono ?_
 rintro e w4 ⟨vq, vr, rfl, ho4, hb4⟩
 have hZ4 := hZ1.belowAll hb4
 have hbel4 : Below w.heap.size w w4 := hbel1.trans (Below.mono hb4 hbel1.size)
 obtain ⟨aq, cq, ar, cr, rfl, rfl⟩ := agg_parts ho4
 clear hb4 r0 r1 r2 r3 r4 f0 f1 f2 f3 f4 b0 b1 b2 b3 b4 blt d0 d1 d2 dlt
 obtain ⟨r0, r1, r2, r3, r4, f0, f1, f2, f3, f4, rlt4⟩ := hZ4.five
 have HO4 := Lib.hid ho4
 clear ho4
 go_wp2
 obtain ⟨z0, z1, z2, z3, z4, -⟩ := (five_set (y0 := .int .i64 O) (y1 := .int .i64 E) (y2 := .int .i64 M) (y3 := .slice aq ps.length cq) (y4 := .slice ar cs.length cr) hZ4).five
 refine bodyPost_ret (v := .tuple #[.agg #[.int .i64 O, .int .i64 E, .int .i64 M, .slice aq ps.length cq, .slice ar cs.length cr], .bool false]) (by simp [results, Try.results50, go_sem, z0, z1, z2, z3, z4]) rfl ?_
 exact doXQ_yes HD.out (doQ_none HN.out ⟨_, _, rfl, (HO4.out.result _ _ _ _ _ rlt).lower (by omega), five_below _ _ _ _ _ hbel4 (by omega)⟩)

end Go.Proofs.Ytedadhoneebfnaa
