/- Contract of ExLine (reference; printed by gen_sl.py). -/
import Derived.Test.YtedadhoneebfnaaGreatDoorTl
import Derived.Test.YtedadhoneebfnaaGreatDoorSv
import Derived.Test.YtedadhoneebfnaaGreatDoorRy
import Derived.Test.YtedadhoneebfnaaGreatDoorJ12
set_option linter.unusedSimpArgs false
set_option linter.unusedVariables false
namespace Go.Proofs.YtedadhoneebfnaaGreatDoor
open Go.RowKit

set_option maxRecDepth 100000 in
set_option maxHeartbeats 40000000 in
theorem sExLine_any (O E M : Int) (vp vc : Value) (ps : List ByteArray) (cs : List Cl) (s : ByteArray) (w : World) (hR : ExRd w vp vc ps cs) (hn : SomeV vp ps.length) (hL : StLen ps) (hs : s.size ≤ 1100000) :
  Calls Tryz.prog 35 #[.agg #[.int .i64 O, .int .i64 E, .int .i64 M, vp, vc], .string s] w (LineQ (lineR O E M ps cs s) w) := by
 have hB := (Blk.new (w := w) (cs := #[.int .i64 O, .int .i64 E, .int .i64 M, vp, vc]) (T := 33) rfl).alloc (.cells #[.int .i64 0, .int .i64 0, .int .i64 0, .slice none 0 0, .slice none 0 0] 33)
 have hZ := Blk.new (w := w.alloc (.cells #[.int .i64 O, .int .i64 E, .int .i64 M, vp, vc] 33)) (cs := #[.int .i64 0, .int .i64 0, .int .i64 0, .slice none 0 0, .slice none 0 0]) (T := 33) (b := w.heap.size + 1) (by simp)
 have hbel0 : Below w.heap.size w ((w.alloc (.cells #[.int .i64 O, .int .i64 E, .int .i64 M, vp, vc] 33)).alloc (.cells #[.int .i64 0, .int .i64 0, .int .i64 0, .slice none 0 0, .slice none 0 0] 33)) := by (exact grownA)
 have HR := Lib.hid hR
 have HNN := Lib.hid hn
 have HL := Lib.hid hL
 have hsm : s.size ≤ maxLen := by unfold maxLen; omega
 have HS := Lib.hid hsm
 have HSS := Lib.hid hs
 obtain ⟨_, hm1, a1, c1, rfl, _, hcp⟩ := hR.plan
 obtain ⟨_, _, a2, c2, rfl, _⟩ := hR.calls
 unfold maxLen at hm1
 have HCP := Lib.hid hcp
 clear hR hn hL hs hsm hcp
 obtain ⟨b0, b1, b2, b3, b4, -, -, -, -, -, blt⟩ := hB.five
 go_enter Tryz.func35, Tryz.ntmps35
 go_wp2_with fail
 refine (sExchangeValid_any O E M _ _ ps cs _ (HR.out.below hbel0) HL.out).mono ?_
 rintro e w1 ⟨rfl, hb1⟩
 have hbel1 : Below w.heap.size w w1 := by (exact grownA)
 have hB1 := hB.belowAll hb1
 have hZ1 := hZ.belowAll hb1
 have hzl := hZ.lt
 clear hB hZ hb1 hbel0 b0 b1 b2 b3 b4 blt
 obtain ⟨d, hd⟩ : ∃ d, exB O E M ps cs = d := ⟨_, rfl⟩
 have HD := Lib.hid hd
 rw [hd]
 clear hd
 cases d
 ·
  obtain ⟨r0, r1, r2, r3, r4, f0, f1, f2, f3, f4, rlt⟩ := hZ1.five
  (try simp only []); repeat first | go_values | go_skip | go_guarded | go_step | go_upon
  obtain ⟨z0, z1, z2, z3, z4, -⟩ := (five_set (y0 := .int .i64 0) (y1 := .int .i64 0) (y2 := .int .i64 0) (y3 := .slice none 0 0) (y4 := .slice none 0 0) hZ1).five
  refine bodyPost_ret (v := .tuple #[.agg #[.int .i64 0, .int .i64 0, .int .i64 0, .slice none 0 0, .slice none 0 0], .string ⟨#[]⟩]) (by simp [results, Tryz.results35, go_sem, z0, z1, z2, z3, z4, r0, r1, r2, r3, r4]; try rfl) rfl ?_
  rw [lineR_no _ HD.out]
  exact ⟨_, _, rfl, ExOwn.nothing _ _, five_below _ _ _ _ _ hbel1 (by omega)⟩
 have HOK := Lib.hid ((exB_iff _ _ _ _ _).1 HD.out)
 have hcn := HOK.out.calls.count (lines_le HOK.out.calls.sh)
 have hpn := HOK.out.lines
 have HLR := Lib.hid (lineR_yes s HD.out)
 go_wp2_with fail
 refine (sReadDeed_any s _ HSS.out).mono ?_
 intro e w2 hq
 unfold RdPost at hq
 obtain ⟨⟨⟨dk, dl, dn⟩, ok⟩, hr⟩ : ∃ z, rdeed s = z := ⟨_, rfl⟩
 have HRD := Lib.hid hr
 rw [hr] at hq
 clear hr
 obtain ⟨rfl, hb2⟩ := hq
 have hal : Below w2.heap.size w2 (w2.alloc (.cells #[.int .i64 dk, .int .i64 dl, .string dn] 55)) := (Below.refl _ _).alloc (Nat.le_refl _) _
 have hbel2 := (hbel1.trans (Below.mono hb2 hbel1.size)).trans (Below.mono hal (hbel1.trans (Below.mono hb2 hbel1.size)).size)
 have hB2 := (hB1.belowAll hb2).belowAll hal
 have hZ2 := (hZ1.belowAll hb2).belowAll hal
 have hD2 := Blk.new (w := w2) (cs := #[.int .i64 dk, .int .i64 dl, .string dn]) (T := 55) (b := w2.heap.size) rfl
 go_wp2_with fail
 refine (l1Cut_any s 32 _ (by have := HSS.out; omega)).mono ?_
 rintro e w4 ⟨vw, rfl, how, hb4⟩
 have hB4 := hB2.belowAll hb4
 have hZ4 := hZ2.belowAll hb4
 have hD4 := hD2.belowAll hb4
 have hbel4 := hbel2.trans (Below.mono hb4 hbel2.size)
 clear hB1 hZ1 hb2 hal hbel1 hB2 hZ2 hD2 hb4 hbel2
 obtain ⟨b0, b1, b2, b3, b4, -, -, -, -, -, blt⟩ := hB4.five
 go_wp2_with fail
 refine (l8Copy_any O E M _ _ ps cs _ (HR.out.below hbel4) (by omega) (by omega)).mono ?_
 rintro e w5 ⟨vq, vr, rfl, ho5, hb5⟩
 obtain ⟨aq, cq, ar, cr, rfl, rfl⟩ := agg_parts ho5
 have hal : Below w5.heap.size w5 (w5.alloc (.cells #[.int .i64 O, .int .i64 E, .int .i64 M, .slice aq ps.length cq, .slice ar cs.length cr] 33)) := (Below.refl _ _).alloc (Nat.le_refl _) _
 have hbel6 := (hbel4.trans (Below.mono hb5 hbel4.size)).trans (Below.mono hal (hbel4.trans (Below.mono hb5 hbel4.size)).size)
 have hB6 := (hB4.belowAll hb5).belowAll hal
 have hZ6 := (hZ4.belowAll hb5).belowAll hal
 have hD6 := (hD4.belowAll hb5).belowAll hal
 have hS6 := Blk.new (w := w5) (cs := #[.int .i64 O, .int .i64 E, .int .i64 M, .slice aq ps.length cq, .slice ar cs.length cr]) (T := 33) (b := w5.heap.size) rfl
 have hO6 := (ho5.lower (show w.heap.size + 2 ≤ _ from by have := hZ4.lt; omega)).below hal
 have how6 := owns_below hal (owns_below hb5 how)
 have hbs9 : w.heap.size + 2 ≤ w5.heap.size := Nat.le_trans hZ4.lt hb5.size
 clear hB4 hZ4 hD4 hb5 hbel4 ho5 how hal b0 b1 b2 b3 b4 blt
 -- the words
 obtain ⟨ln, hln⟩ : ∃ z, (splitL 32 (tl s) []).length = z := ⟨_, rfl⟩
 have HLN := Lib.hid hln
 have hln1 : 1 ≤ ln := by rw [← hln, (split_head 32 (tl s) []).2]; omega
 rw [hln] at how6
 obtain ⟨aw, cw, rfl, _, _, _, hcv⟩ := (Rds.ofOwns how6).open1
 rcases hcv with hcv | ⟨bw, ow, rfl, hbw, hcv⟩
 ·
  omega
 have HCV := Lib.hid hcv
 clear hcv how6 hln
 obtain ⟨wd, hwd⟩ : ∃ z, ba (bef 32 (tl s)) = z := ⟨_, rfl⟩
 have HWD := Lib.hid hwd
 have HW0 : Hid ((w5.alloc (.cells #[.int .i64 O, .int .i64 E, .int .i64 M, .slice aq ps.length cq, .slice ar cs.length cr] 33)).cell? ⟨bw, ow, none⟩ = some (.string wd)) := by
  have q0 := HCV.out 0 (by omega)
  rw [bas_at (split_0 32 (tl s)), Nat.add_zero] at q0
  unfold Hid; rw [q0, hwd]
 clear hwd
 -- the number that is asked for
 have hln9 : ln ≤ s.size + 1 := by rw [← HLN.out]; have := split_count 32 (tl s) []; rw [tl_size] at this; omega
 have hs9 := HSS.out
 have HRW := Lib.hid (HR.out.below hbel6)
 have hz2l : w.heap.size + 2 ≤ (w5.alloc (.cells #[.int .i64 O, .int .i64 E, .int .i64 M, .slice aq ps.length cq, .slice ar cs.length cr] 33)).heap.size := hZ6.lt
 have i0 : (0 : Int) < (ln : Int) := by omega
 have i0n : 0 < ln := by omega
 go_upto_if 32 with fail
 go_cut [10] (fun t10 wc => ∃ nn : Int, t10 = .int .i64 nn ∧ wc = (w5.alloc (.cells #[.int .i64 O, .int .i64 E, .int .i64 M, .slice aq ps.length cq, .slice ar cs.length cr] 33)) ∧ Hid (nn = numS (tl s)))
 case first =>
  by_cases h2 : ln = 2
  ·
   have hm : (32 : UInt8) ∈ tl s := (split_two 32 (tl s)).1 (by rw [HLN.out]; omega)
   have c1 : (w5.alloc (.cells #[.int .i64 O, .int .i64 E, .int .i64 M, .slice aq ps.length cq, .slice ar cs.length cr] 33)).cell? ⟨bw, ow + 1, none⟩ = some (.string (ba (bef 32 (aft 32 (tl s))))) := by
    rw [HCV.out 1 (by omega)]; exact bas_at (split_1 hm)
   obtain ⟨t1, ht1⟩ : ∃ z, ba (bef 32 (aft 32 (tl s))) = z := ⟨_, rfl⟩
   have HT1 : Hid (tl t1 = bef 32 (aft 32 (tl s))) := by unfold Hid; rw [← ht1, tl_ba]
   have HS1 : Hid (t1.size ≤ maxLen) := by
    unfold Hid maxLen
    have h1 := bef_le 32 (aft 32 (tl s))
    have h3 := aft_le 32 (tl s)
    rw [← ht1, ba_size]
    rw [tl_size] at h3
    omega
   have HNS : Hid (numS (tl s) = (readL 4 (tl t1)).getD (-1)) := by unfold Hid numS; rw [HLN.out, if_pos h2, HT1.out]
   rw [ht1] at c1
   subst h2
   clear hm ht1
   go_wp2_with fail
   refine (l1Read_any t1 _ HS1.out).mono ?_
   rintro e w7 ⟨rfl, rfl⟩
   go_wp2_with fail
   go_meet
   exact ⟨_, rfl, rfl, HNS.out.symm⟩
  ·
   have h2b : ((ln : Int) == 2) = false := by simp; omega
   have HNS : Hid (numS (tl s) = -1) := by unfold Hid numS; rw [HLN.out, if_neg h2]
   clear h2
   go_wp2_with fail
   go_meet
   exact ⟨-1, rfl, rfl, HNS.out.symm⟩
 case rest =>
 obtain ⟨nn, rfl, hwc, HNS⟩ := hcut
 rw [← hwc] at hbel6 hB6 hZ6 hD6 hS6 hO6 hbw HCV HW0 HRW hz2l
 clear hwc
 obtain ⟨bs, hbs⟩ : ∃ bs, w5.heap.size = bs := ⟨_, rfl⟩
 rw [hbs] at hS6 hbs9 ⊢
 clear hbs
 obtain ⟨W, hW⟩ : ∃ W : World, wc = W := ⟨_, rfl⟩
 rw [hW] at hbel6 hB6 hZ6 hD6 hS6 hO6 hbw HCV HW0 HRW hz2l ⊢
 clear hW
 cases ok with
 | true =>
  have HDN : Hid (dn.size ≤ maxLen) := by have := rdeed_len HRD.out; have h9 := HS.out; unfold Hid; simp only at this; omega
  have HLQ := Lib.hid (lineQ_deed (E := E) (M := M) (ps := ps) (cs := cs) HRD.out)
  clear hS6 hO6 HNS HW0 HCV
  obtain ⟨b0, b1, b2, b3, b4, -, -, -, -, -, blt⟩ := hB6.five
  obtain ⟨d0, d1, d2, -, -, -, dlt⟩ := hD6.three
  go_wp2_with fail
  refine (sExDo_any O E M _ _ ps cs dk dl dn _ HRW.out HNN.out HL.out HDN.out).mono ?_
  intro e w8 h4
  unfold doXQ at h4
  rw [if_pos HD.out] at h4
  obtain ⟨r, hr⟩ : ∃ r, doL E M ps cs dk dl dn = r := ⟨_, rfl⟩
  have HDO := Lib.hid hr
  rw [hr] at h4
  clear hr
  clear b0 b1 b2 b3 b4 blt d0 d1 d2 dlt
  cases r with
  | some y =>
   obtain ⟨ps', cs'⟩ := y
   obtain ⟨vq, vr, rfl, ho4, hb4⟩ := h4
   simp only at ho4
   obtain ⟨ax, cx, ay, cy, rfl, rfl⟩ := agg_parts ho4
   have hal : Below w8.heap.size w8 (w8.alloc (.cells #[.int .i64 O, .int .i64 E, .int .i64 M, .slice ax ps'.length cx, .slice ay cs'.length cy] 33)) := (Below.refl _ _).alloc (Nat.le_refl _) _
   have hZ8 := (hZ6.belowAll hb4).belowAll hal
   have hX8 := Blk.new (w := w8) (cs := #[.int .i64 O, .int .i64 E, .int .i64 M, .slice ax ps'.length cx, .slice ay cs'.length cy]) (T := 33) (b := w8.heap.size) rfl
   have hbel8 : Below w.heap.size w _ := (hbel6.trans (Below.mono hb4 hbel6.size)).trans (Below.mono hal (hbel6.trans (Below.mono hb4 hbel6.size)).size)
   have HO8 := Lib.hid ((ho4.lower hz2l).below hal)
   clear hB6 hD6 hZ6 hb4 ho4 hal
   obtain ⟨r0, r1, r2, r3, r4, f0, f1, f2, f3, f4, rlt⟩ := hZ8.five
   obtain ⟨x0, x1, x2, x3, x4, -, -, -, -, -, xlt⟩ := hX8.five
   (try simp only []); repeat first | go_values | go_skip | go_guarded | go_step | go_upon
   obtain ⟨z0, z1, z2, z3, z4, -⟩ := (five_set (y0 := .int .i64 O) (y1 := .int .i64 E) (y2 := .int .i64 M) (y3 := .slice ax ps'.length cx) (y4 := .slice ay cs'.length cy) hZ8).five
   refine bodyPost_ret (v := .tuple #[.agg #[.int .i64 O, .int .i64 E, .int .i64 M, .slice ax ps'.length cx, .slice ay cs'.length cy], .string aok]) (by simp [results, Tryz.results35, go_sem, z0, z1, z2, z3, z4]; try rfl) rfl ?_
   rw [HLR.out, HLQ.out, sayL_some HDO.out]
   exact ⟨_, _, rfl, (HO8.out.result _ _ _ _ _ (by simp)).lower (by omega), five_below _ _ _ _ _ hbel8 (by omega)⟩
  | none =>
   obtain ⟨vq, vr, rfl, ho4, hb4⟩ := h4
   obtain ⟨ax, cx, ay, cy, rfl, rfl⟩ := agg_parts ho4
   have hal : Below w8.heap.size w8 (w8.alloc (.cells #[.int .i64 O, .int .i64 E, .int .i64 M, .slice ax ps.length cx, .slice ay cs.length cy] 33)) := (Below.refl _ _).alloc (Nat.le_refl _) _
   have hZ8 := (hZ6.belowAll hb4).belowAll hal
   have hB8 := (hB6.belowAll hb4).belowAll hal
   have hD8 := (hD6.belowAll hb4).belowAll hal
   have hX8 := Blk.new (w := w8) (cs := #[.int .i64 O, .int .i64 E, .int .i64 M, .slice ax ps.length cx, .slice ay cs.length cy]) (T := 33) (b := w8.heap.size) rfl
   have hbel8 : Below w.heap.size w _ := (hbel6.trans (Below.mono hb4 hbel6.size)).trans (Below.mono hal (hbel6.trans (Below.mono hb4 hbel6.size)).size)
   have HO8 := Lib.hid ((ho4.lower hz2l).below hal)
   have HRD8 := Lib.hid ((HRW.out.below hb4).below hal)
   clear hB6 hD6 hZ6 hb4 ho4 hal
   by_cases hk : dk = 0
   case neg =>
    have hk1 : (dk != 0) = true := by simpa using hk
    have HN : Hid (sayL E M ps cs (dk, dl, dn) = ((ps, cs), ano)) := by unfold Hid; rw [sayL_none HDO.out, notL_no (.inl hk)]
    clear hk
    obtain ⟨d0, d1, d2, -, -, -, dlt⟩ := hD8.three
    obtain ⟨r0, r1, r2, r3, r4, f0, f1, f2, f3, f4, rlt⟩ := hZ8.five
    obtain ⟨x0, x1, x2, x3, x4, -, -, -, -, -, xlt⟩ := hX8.five
    (try simp only []); repeat first | go_values | go_skip | go_guarded | go_step | go_upon
    obtain ⟨z0, z1, z2, z3, z4, -⟩ := (five_set (y0 := .int .i64 O) (y1 := .int .i64 E) (y2 := .int .i64 M) (y3 := .slice ax ps.length cx) (y4 := .slice ay cs.length cy) hZ8).five
    refine bodyPost_ret (v := .tuple #[.agg #[.int .i64 O, .int .i64 E, .int .i64 M, .slice ax ps.length cx, .slice ay cs.length cy], .string ano]) (by simp [results, Tryz.results35, go_sem, z0, z1, z2, z3, z4]; try rfl) rfl ?_
    rw [HLR.out, HLQ.out, HN.out]
    exact ⟨_, _, rfl, (HO8.out.result _ _ _ _ _ (by simp)).lower (by omega), five_below _ _ _ _ _ hbel8 (by omega)⟩
   subst hk
   by_cases hl : (ps.length : Int) ≤ dl
   ·
    have HN : Hid (sayL E M ps cs (0, dl, dn) = ((ps, cs), ano)) := by unfold Hid; rw [sayL_none HDO.out, notL_no (.inr hl)]
    obtain ⟨b0, b1, b2, b3, b4, -, -, -, -, -, blt⟩ := hB8.five
    obtain ⟨d0, d1, d2, -, -, -, dlt⟩ := hD8.three
    obtain ⟨r0, r1, r2, r3, r4, f0, f1, f2, f3, f4, rlt⟩ := hZ8.five
    obtain ⟨x0, x1, x2, x3, x4, -, -, -, -, -, xlt⟩ := hX8.five
    (try simp only []); repeat first | go_values | go_skip | go_guarded | go_step | go_upon
    obtain ⟨z0, z1, z2, z3, z4, -⟩ := (five_set (y0 := .int .i64 O) (y1 := .int .i64 E) (y2 := .int .i64 M) (y3 := .slice ax ps.length cx) (y4 := .slice ay cs.length cy) hZ8).five
    refine bodyPost_ret (v := .tuple #[.agg #[.int .i64 O, .int .i64 E, .int .i64 M, .slice ax ps.length cx, .slice ay cs.length cy], .string ano]) (by simp [results, Tryz.results35, go_sem, z0, z1, z2, z3, z4]; try rfl) rfl ?_
    rw [HLR.out, HLQ.out, HN.out]
    exact ⟨_, _, rfl, (HO8.out.result _ _ _ _ _ (by simp)).lower (by omega), five_below _ _ _ _ _ hbel8 (by omega)⟩
   ·
    have HNL : Hid (¬ ((0 : Int) ≠ 0 ∨ (ps.length : Int) ≤ dl)) := by rintro (h | h); exact h rfl; exact hl h
    obtain ⟨b0, b1, b2, b3, b4, -, -, -, -, -, blt⟩ := hB8.five
    obtain ⟨d0, d1, d2, -, -, -, dlt⟩ := hD8.three
    go_wp2_with fail
    refine (sLineOf_any O E M _ _ ps cs dn _ HRD8.out HL.out).mono ?_
    rintro e w9 ⟨rfl, hb5⟩
    have hX9 := hX8.belowAll hb5
    have hZ9 := hZ8.belowAll hb5
    have hbel9 : Below w.heap.size w w9 := hbel8.trans (Below.mono hb5 hbel8.size)
    have HO9 := Lib.hid (HO8.out.below hb5)
    have HLX := Lib.hid (lineX_y dn HOK.out)
    obtain ⟨z, hz⟩ : ∃ z, lineX O E M ps cs dn = z := ⟨_, rfl⟩
    have HZ := Lib.hid hz
    rw [hz]
    clear hX8 hZ8 hB8 hD8 hb5 hbel8 HO8 hz b0 b1 b2 b3 b4 blt d0 d1 d2 dlt
    by_cases hz0 : z < 0
    ·
     have HN : Hid (sayL E M ps cs (0, dl, dn) = ((ps, cs), awrong)) := by unfold Hid; rw [sayL_none HDO.out, notL_wrong HNL.out (by rw [← HLX.out, HZ.out]; exact hz0)]
     obtain ⟨r0, r1, r2, r3, r4, f0, f1, f2, f3, f4, rlt⟩ := hZ9.five
     obtain ⟨x0, x1, x2, x3, x4, -, -, -, -, -, xlt⟩ := hX9.five
     (try simp only []); repeat first | go_values | go_skip | go_guarded | go_step | go_upon
     obtain ⟨z0, z1, z2, z3, z4, -⟩ := (five_set (y0 := .int .i64 O) (y1 := .int .i64 E) (y2 := .int .i64 M) (y3 := .slice ax ps.length cx) (y4 := .slice ay cs.length cy) hZ9).five
     refine bodyPost_ret (v := .tuple #[.agg #[.int .i64 O, .int .i64 E, .int .i64 M, .slice ax ps.length cx, .slice ay cs.length cy], .string awrong]) (by simp [results, Tryz.results35, go_sem, z0, z1, z2, z3, z4]; try rfl) rfl ?_
     rw [HLR.out, HLQ.out, HN.out]
     exact ⟨_, _, rfl, (HO9.out.result _ _ _ _ _ (by simp)).lower (by omega), five_below _ _ _ _ _ hbel9 (by omega)⟩
    ·
     have HN : Hid (sayL E M ps cs (0, dl, dn) = ((ps, cs), abusy)) := by unfold Hid; rw [sayL_none HDO.out, notL_busy HNL.out (by rw [← HLX.out, HZ.out]; exact hz0)]
     obtain ⟨r0, r1, r2, r3, r4, f0, f1, f2, f3, f4, rlt⟩ := hZ9.five
     obtain ⟨x0, x1, x2, x3, x4, -, -, -, -, -, xlt⟩ := hX9.five
     (try simp only []); repeat first | go_values | go_skip | go_guarded | go_step | go_upon
     obtain ⟨z0, z1, z2, z3, z4, -⟩ := (five_set (y0 := .int .i64 O) (y1 := .int .i64 E) (y2 := .int .i64 M) (y3 := .slice ax ps.length cx) (y4 := .slice ay cs.length cy) hZ9).five
     refine bodyPost_ret (v := .tuple #[.agg #[.int .i64 O, .int .i64 E, .int .i64 M, .slice ax ps.length cx, .slice ay cs.length cy], .string abusy]) (by simp [results, Tryz.results35, go_sem, z0, z1, z2, z3, z4]; try rfl) rfl ?_
     rw [HLR.out, HLQ.out, HN.out]
     exact ⟨_, _, rfl, (HO9.out.result _ _ _ _ _ (by simp)).lower (by omega), five_below _ _ _ _ _ hbel9 (by omega)⟩
 | false =>
  clear hD6
  by_cases hni : tl s = wnight
  ·
   have hq1 := str_is (m := [110, 105, 103, 104, 116]) hni
   have HLQ := Lib.hid (lineQ_night (E := E) (M := M) (ps := ps) (cs := cs) HRD.out hni)
   clear hni hS6 hO6 HNS HW0 HCV
   obtain ⟨b0, b1, b2, b3, b4, -, -, -, -, -, blt⟩ := hB6.five
   have HC : Hid (∀ w' : World, Below W.heap.size W w' → w'.cell? ⟨w.heap.size, 0, none⟩ = some (.int .i64 O) ∧ w'.cell? ⟨w.heap.size, 1, none⟩ = some (.int .i64 E) ∧ w'.cell? ⟨w.heap.size, 2, none⟩ = some (.int .i64 M) ∧ w'.cell? ⟨w.heap.size, 3, none⟩ = some (.slice a1 ps.length c1) ∧ w'.cell? ⟨w.heap.size, 4, none⟩ = some (.slice a2 cs.length c2)) := fun w' hb => ⟨keep_below hb b0, keep_below hb b1, keep_below hb b2, keep_below hb b3, keep_below hb b4⟩
   have hcS : Below W.heap.size W W.drew := (Below.refl _ _).drew
   have HNI := Lib.hid (nightX_yes HOK.out)
   go_upto_region 19 with fail
   go_cut [13, 14] (fun tb tx wc => ∃ (b : Nat) (vq vr : Value), tb = .pointer (some ⟨b, 0, none⟩) ∧ tx = .int .i64 (cs.length : Nat) ∧ ExRes W wc b O E M vq vr ps [])
   case first =>
    clear b0 b1 b2 b3 b4 blt
    go_wp2_with fail
    refine wp_region_held_drew (S := fun w' => w'.cell? ⟨w.heap.size, 0, none⟩ = some (.int .i64 O) ∧ w'.cell? ⟨w.heap.size, 1, none⟩ = some (.int .i64 E) ∧ w'.cell? ⟨w.heap.size, 2, none⟩ = some (.int .i64 M) ∧ w'.cell? ⟨w.heap.size, 3, none⟩ = some (.slice a1 ps.length c1) ∧ w'.cell? ⟨w.heap.size, 4, none⟩ = some (.slice a2 cs.length c2)) (by kernel_rfl) (HC.out _ hcS) (fun hHeld => ?_)
    refine take_y 0 73 (v := ?_) rfl ?_ ?_; rotate_left; focus (intro w hSw; (try dsimp only at hSw); go_simp; (try rw [if_neg (by omega)]); (try with_reducible rfl))
    try simp only [Act.put, zp1, zp2, zp3]
    refine take_y 1 74 (v := ?_) rfl ?_ ?_; rotate_left; focus (intro w hSw; (try dsimp only at hSw); go_simp; (try rw [if_neg (by omega)]); (try with_reducible rfl))
    try simp only [Act.put, zp1, zp2, zp3]
    refine wpAnyH_ready (rs := [2, 7]) (by kernel_rfl) (by simp) ?_
    refine AllReadyH.cons rfl (fun K hK => ?_) (AllReadyH.cons rfl (fun K hK => ?_) AllReadyH.nil)
    focus
     go_simp
     refine (sNightDeeds_any O E M _ _ ps cs _ (HRW.out.below hcS) HL.out).mono ?_
     rintro e w3 ⟨vd, rfl, hod, hc3⟩
     rw [HNI.out] at hod
     obtain ⟨ad, cd, rfl⟩ := own_len9 hod
     have hcA : Below W.heap.size W w3 := hcS.trans (Below.mono hc3 hcS.size)
     refine hK.out _ _ (HC.out _ hcA) (fun hHeld2 => ?_)
     clear hHeld hK K; have hHeld := hHeld2; clear hHeld2; try simp only [Act.put, zp1, zp2, zp3]
     refine wpAnyH_ready (rs := [3, 7]) (by kernel_rfl) (by simp) ?_
     refine AllReadyH.cons rfl (fun K hK => ?_) (AllReadyH.cons rfl (fun K hK => ?_) AllReadyH.nil)
     focus
      go_simp
      refine (sExRun_any O E M _ _ _ ps cs (nightL cs) _ (HRW.out.below hcA) HNN.out HL.out (Rds.ofOwns hod) (night_lens cs)).mono ?_
      intro e w4 hq
      rw [runX_yes HD.out, night_run HOK.out] at hq
      obtain ⟨vq, vr, rfl, ho4, hc4⟩ := hq
      simp only at ho4
      obtain ⟨aq, cq, ar, cr, rfl, hvr⟩ := agg_parts ho4
      have hvr2 : vr = .slice ar 0 cr := hvr
      subst hvr2
      have hcB : Below W.heap.size W w4 := hcA.trans (Below.mono hc4 hcA.size)
      refine hK.out _ _ (HC.out _ hcB) (fun hHeld2 => ?_)
      clear hHeld hK K; have hHeld := hHeld2; clear hHeld2; try simp only [Act.put, zp1, zp2, zp3]
      refine take_y 4 72 (v := ?_) rfl ?_ ?_; rotate_left; focus (intro w hSw; (try dsimp only at hSw); go_simp; (try rw [if_neg (by omega)]); (try with_reducible rfl))
      try simp only [Act.put, zp1, zp2, zp3]
      refine take_y 5 77 (v := ?_) rfl ?_ ?_; rotate_left; focus (intro w hSw; (try dsimp only at hSw); go_simp; (try rw [if_neg (by omega)]); (try with_reducible rfl))
      try simp only [Act.put, zp1, zp2, zp3]
      refine take_y 6 78 (v := ?_) rfl ?_ ?_; rotate_left; focus (intro w hSw; (try dsimp only at hSw); go_simp; (try rw [if_neg (by omega)]); (try with_reducible rfl))
      try simp only [Act.put, zp1, zp2, zp3]
      refine wpAnyH_ready (rs := [7]) (by kernel_rfl) (by simp) ?_
      refine AllReadyH.cons rfl (fun K hK => ?_) AllReadyH.nil
      go_simp
      refine hK.out _ _ (HC.out _ (hcB.alloc hcB.size _)) (fun hHeld2 => ?_)
      clear hHeld hK K; have hHeld := hHeld2; clear hHeld2; try simp only [Act.put, zp1, zp2, zp3]
      refine wpAnyH_ready (rs := [8]) (by kernel_rfl) (by simp) ?_
      refine AllReadyH.cons rfl (fun K hK => ?_) AllReadyH.nil
      go_simp
      refine hK.out _ _ (HC.out _ (hcB.alloc hcB.size _)) (fun hHeld2 => ?_)
      clear hHeld hK K; have hHeld := hHeld2; clear hHeld2; try simp only [Act.put, zp1, zp2, zp3]
      have hRS := ExRes.mkA (O := O) (E := E) (M := M) hcB ho4 hcA.size
      refine take_y 9 14 (v := ?_) rfl ?_ ?_; rotate_left; focus (intro w hSw; (try dsimp only at hSw); go_simp; (try rw [if_neg (by omega)]); (try with_reducible rfl))
      try simp only [Act.put, zp1, zp2, zp3]
      refine wpAnyH_done (by kernel_rfl) ?_ _
      clear hHeld
      go_wp2_with fail
      go_meet
      exact ⟨_, _, _, rfl, rfl, hRS⟩
     focus
      go_simp
      have hXb := Blk.new (w := w3) (cs := #[.int .i64 0, .int .i64 0, .int .i64 0, .slice none 0 0, .slice none 0 0]) (T := 33) (b := w3.heap.size) rfl
      have hal : Below w3.heap.size w3 (w3.alloc (.cells #[.int .i64 0, .int .i64 0, .int .i64 0, .slice none 0 0, .slice none 0 0] 33)) := (Below.refl _ _).alloc (Nat.le_refl _) _
      have hcB : Below W.heap.size W (w3.alloc (.cells #[.int .i64 0, .int .i64 0, .int .i64 0, .slice none 0 0, .slice none 0 0] 33)) := hcA.trans (Below.mono hal hcA.size)
      refine hK.out _ _ (HC.out _ hcB) (fun hHeld2 => ?_)
      clear hHeld hK K; have hHeld := hHeld2; clear hHeld2; try simp only [Act.put, zp1, zp2, zp3]
      refine wpAnyH_ready (rs := [3]) (by kernel_rfl) (by simp) ?_
      refine AllReadyH.cons rfl (fun K hK => ?_) AllReadyH.nil
      go_simp
      refine (sExRun_any O E M _ _ _ ps cs (nightL cs) _ (HRW.out.below hcB) HNN.out HL.out (Rds.ofOwns (owns_below hal hod)) (night_lens cs)).mono ?_
      intro e w4 hq
      rw [runX_yes HD.out, night_run HOK.out] at hq
      obtain ⟨vq, vr, rfl, ho4, hc4⟩ := hq
      simp only at ho4
      obtain ⟨aq, cq, ar, cr, rfl, hvr⟩ := agg_parts ho4
      have hvr2 : vr = .slice ar 0 cr := hvr
      subst hvr2
      have hcC : Below W.heap.size W w4 := hcB.trans (Below.mono hc4 hcB.size)
      have hbF := hXb.lt
      have gX := hXb.belowAll hc4
      refine hK.out _ _ (HC.out _ hcC) (fun hHeld2 => ?_)
      clear hHeld hK K; have hHeld := hHeld2; clear hHeld2; try simp only [Act.put, zp1, zp2, zp3]
      refine take_y 4 72 (v := ?_) rfl ?_ ?_; rotate_left; focus (intro w hSw; (try dsimp only at hSw); go_simp; (try rw [if_neg (by omega)]); (try with_reducible rfl))
      try simp only [Act.put, zp1, zp2, zp3]
      refine take_y 5 77 (v := ?_) rfl ?_ ?_; rotate_left; focus (intro w hSw; (try dsimp only at hSw); go_simp; (try rw [if_neg (by omega)]); (try with_reducible rfl))
      try simp only [Act.put, zp1, zp2, zp3]
      refine take_y 6 78 (v := ?_) rfl ?_ ?_; rotate_left; focus (intro w hSw; (try dsimp only at hSw); go_simp; (try rw [if_neg (by omega)]); (try with_reducible rfl))
      try simp only [Act.put, zp1, zp2, zp3]
      have hRS := ExRes.mkB (O := O) (E := E) (M := M) hcC gX (hcA.size) ho4 hbF
      obtain ⟨X0, X1, X2, X3, X4, Y0, Y1, Y2, Y3, Y4, Xlt⟩ := gX.five
      refine wpAnyH_ready (rs := [8]) (by kernel_rfl) (by simp) ?_
      refine AllReadyH.cons rfl (fun K hK => ?_) AllReadyH.nil
      go_simp
      refine hK.out _ _ (HC.out _ (by exact hRS.bel)) (fun hHeld2 => ?_)
      clear hHeld hK K; have hHeld := hHeld2; clear hHeld2; try simp only [Act.put, zp1, zp2, zp3]
      refine take_y 9 14 (v := ?_) rfl ?_ ?_; rotate_left; focus (intro w hSw; (try dsimp only at hSw); go_simp; (try rw [if_neg (by omega)]); (try with_reducible rfl))
      try simp only [Act.put, zp1, zp2, zp3]
      refine wpAnyH_done (by kernel_rfl) ?_ _
      clear hHeld
      go_wp2_with fail
      go_meet
      exact ⟨_, _, _, rfl, rfl, hRS⟩
    focus
     go_simp
     have hXb := Blk.new (w := W.drew) (cs := #[.int .i64 0, .int .i64 0, .int .i64 0, .slice none 0 0, .slice none 0 0]) (T := 33) (b := W.heap.size) (by simp)
     have hal : Below W.drew.heap.size W.drew (W.drew.alloc (.cells #[.int .i64 0, .int .i64 0, .int .i64 0, .slice none 0 0, .slice none 0 0] 33)) := (Below.refl _ _).alloc (Nat.le_refl _) _
     have hcA : Below W.heap.size W (W.drew.alloc (.cells #[.int .i64 0, .int .i64 0, .int .i64 0, .slice none 0 0, .slice none 0 0] 33)) := hcS.trans (Below.mono hal hcS.size)
     refine hK.out _ _ (HC.out _ hcA) (fun hHeld2 => ?_)
     clear hHeld hK K; have hHeld := hHeld2; clear hHeld2; try simp only [Act.put, zp1, zp2, zp3]
     refine wpAnyH_ready (rs := [2]) (by kernel_rfl) (by simp) ?_
     refine AllReadyH.cons rfl (fun K hK => ?_) AllReadyH.nil
     go_simp
     refine (sNightDeeds_any O E M _ _ ps cs _ (HRW.out.below hcA) HL.out).mono ?_
     rintro e w3 ⟨vd, rfl, hod, hc3⟩
     rw [HNI.out] at hod
     obtain ⟨ad, cd, rfl⟩ := own_len9 hod
     have hcB : Below W.heap.size W w3 := hcA.trans (Below.mono hc3 hcA.size)
     have gX3 := hXb.belowAll hc3
     refine hK.out _ _ (HC.out _ hcB) (fun hHeld2 => ?_)
     clear hHeld hK K; have hHeld := hHeld2; clear hHeld2; try simp only [Act.put, zp1, zp2, zp3]
     refine wpAnyH_ready (rs := [3]) (by kernel_rfl) (by simp) ?_
     refine AllReadyH.cons rfl (fun K hK => ?_) AllReadyH.nil
     go_simp
     refine (sExRun_any O E M _ _ _ ps cs (nightL cs) _ (HRW.out.below hcB) HNN.out HL.out (Rds.ofOwns hod) (night_lens cs)).mono ?_
     intro e w4 hq
     rw [runX_yes HD.out, night_run HOK.out] at hq
     obtain ⟨vq, vr, rfl, ho4, hc4⟩ := hq
     simp only at ho4
     obtain ⟨aq, cq, ar, cr, rfl, hvr⟩ := agg_parts ho4
     have hvr2 : vr = .slice ar 0 cr := hvr
     subst hvr2
     have hcC : Below W.heap.size W w4 := hcB.trans (Below.mono hc4 hcB.size)
     have hbF := gX3.lt
     have gX := gX3.belowAll hc4
     refine hK.out _ _ (HC.out _ hcC) (fun hHeld2 => ?_)
     clear hHeld hK K; have hHeld := hHeld2; clear hHeld2; try simp only [Act.put, zp1, zp2, zp3]
     refine take_y 4 72 (v := ?_) rfl ?_ ?_; rotate_left; focus (intro w hSw; (try dsimp only at hSw); go_simp; (try rw [if_neg (by omega)]); (try with_reducible rfl))
     try simp only [Act.put, zp1, zp2, zp3]
     refine take_y 5 77 (v := ?_) rfl ?_ ?_; rotate_left; focus (intro w hSw; (try dsimp only at hSw); go_simp; (try rw [if_neg (by omega)]); (try with_reducible rfl))
     try simp only [Act.put, zp1, zp2, zp3]
     refine take_y 6 78 (v := ?_) rfl ?_ ?_; rotate_left; focus (intro w hSw; (try dsimp only at hSw); go_simp; (try rw [if_neg (by omega)]); (try with_reducible rfl))
     try simp only [Act.put, zp1, zp2, zp3]
     have hRS := ExRes.mkB (O := O) (E := E) (M := M) hcC gX (by simp) ho4 hbF
     obtain ⟨X0, X1, X2, X3, X4, Y0, Y1, Y2, Y3, Y4, Xlt⟩ := gX.five
     refine wpAnyH_ready (rs := [8]) (by kernel_rfl) (by simp) ?_
     refine AllReadyH.cons rfl (fun K hK => ?_) AllReadyH.nil
     go_simp
     refine hK.out _ _ (HC.out _ (by exact hRS.bel)) (fun hHeld2 => ?_)
     clear hHeld hK K; have hHeld := hHeld2; clear hHeld2; try simp only [Act.put, zp1, zp2, zp3]
     refine take_y 9 14 (v := ?_) rfl ?_ ?_; rotate_left; focus (intro w hSw; (try dsimp only at hSw); go_simp; (try rw [if_neg (by omega)]); (try with_reducible rfl))
     try simp only [Act.put, zp1, zp2, zp3]
     refine wpAnyH_done (by kernel_rfl) ?_ _
     clear hHeld
     go_wp2_with fail
     go_meet
     exact ⟨_, _, _, rfl, rfl, hRS⟩
   case rest =>
   clear b0 b1 b2 b3 b4 blt
   obtain ⟨bx, vq, vr, rfl, rfl, hRS⟩ := hcut
   obtain ⟨aq, cq, ar, cr, rfl, hvr⟩ := agg_parts hRS.own
   have hvr2 : vr = .slice ar 0 cr := hvr
   subst hvr2
   have hZ9 := hZ6.belowAll hRS.bel
   have hbel9 := hbel6.trans (Below.mono hRS.bel hbel6.size)
   have HO9 := Lib.hid (hRS.own.lower (show w.heap.size + 2 ≤ _ from hz2l))
   obtain ⟨r0, r1, r2, r3, r4, f0, f1, f2, f3, f4, rlt⟩ := hZ9.five
   obtain ⟨x0, x1, x2, x3, x4, -, -, -, -, -, xlt⟩ := hRS.box.five
   (try simp only []); repeat first | go_values | go_skip | go_guarded | go_step | go_upon
   obtain ⟨z0, z1, z2, z3, z4, -⟩ := (five_set (y0 := .int .i64 O) (y1 := .int .i64 E) (y2 := .int .i64 M) (y3 := .slice aq ps.length cq) (y4 := .slice ar 0 cr) hZ9).five
   refine bodyPost_ret (v := .tuple #[.agg #[.int .i64 O, .int .i64 E, .int .i64 M, .slice aq ps.length cq, .slice ar 0 cr], .string aok]) (by simp [results, Tryz.results35, go_sem, z0, z1, z2, z3, z4]; try rfl) rfl ?_
   rw [HLR.out, HLQ.out]
   exact ⟨_, _, rfl, (HO9.out.result _ _ _ _ _ (by simp)).lower (by omega), five_below _ _ _ _ _ hbel9 (by omega)⟩
  have hq1 := str_not (m := [110, 105, 103, 104, 116]) hni
  have HLQ := Lib.hid (lineQ_ask (E := E) (M := M) (ps := ps) (cs := cs) HRD.out hni)
  have HOO := Lib.hid hO6
  clear hni hO6
  by_cases h1 : tl s = wcalls
  ·
   have hqc := str_is (m := [99, 97, 108, 108, 115]) h1
   have HA := Lib.hid (ansL_calls (ps := ps) (cs := cs) h1)
   clear h1
   obtain ⟨b0, b1, b2, b3, b4, -, -, -, -, -, blt⟩ := hB6.five
   obtain ⟨x0, x1, x2, x3, x4, -, -, -, -, -, xlt⟩ := hS6.five
   have hcS : Below W.heap.size W W.drew := (Below.refl _ _).drew
   have HC : Hid (∀ w' : World, Below W.heap.size W w' → w'.cell? ⟨bs, 0, none⟩ = some (.int .i64 O) ∧ w'.cell? ⟨bs, 1, none⟩ = some (.int .i64 E) ∧ w'.cell? ⟨bs, 2, none⟩ = some (.int .i64 M) ∧ w'.cell? ⟨bs, 3, none⟩ = some (.slice aq ps.length cq) ∧ w'.cell? ⟨bs, 4, none⟩ = some (.slice ar cs.length cr) ∧ w'.cell? ⟨w.heap.size, 0, none⟩ = some (.int .i64 O) ∧ w'.cell? ⟨w.heap.size, 1, none⟩ = some (.int .i64 E) ∧ w'.cell? ⟨w.heap.size, 2, none⟩ = some (.int .i64 M) ∧ w'.cell? ⟨w.heap.size, 3, none⟩ = some (.slice a1 ps.length c1) ∧ w'.cell? ⟨w.heap.size, 4, none⟩ = some (.slice a2 cs.length c2)) := fun w' hb => ⟨keep_below hb x0, keep_below hb x1, keep_below hb x2, keep_below hb x3, keep_below hb x4, keep_below hb b0, keep_below hb b1, keep_below hb b2, keep_below hb b3, keep_below hb b4⟩
   go_wp2_with fail
   clear b0 b1 b2 b3 b4 blt x0 x1 x2 x3 x4 xlt
   refine wp_region_held_drew (S := fun w' => w'.cell? ⟨bs, 0, none⟩ = some (.int .i64 O) ∧ w'.cell? ⟨bs, 1, none⟩ = some (.int .i64 E) ∧ w'.cell? ⟨bs, 2, none⟩ = some (.int .i64 M) ∧ w'.cell? ⟨bs, 3, none⟩ = some (.slice aq ps.length cq) ∧ w'.cell? ⟨bs, 4, none⟩ = some (.slice ar cs.length cr) ∧ w'.cell? ⟨w.heap.size, 0, none⟩ = some (.int .i64 O) ∧ w'.cell? ⟨w.heap.size, 1, none⟩ = some (.int .i64 E) ∧ w'.cell? ⟨w.heap.size, 2, none⟩ = some (.int .i64 M) ∧ w'.cell? ⟨w.heap.size, 3, none⟩ = some (.slice a1 ps.length c1) ∧ w'.cell? ⟨w.heap.size, 4, none⟩ = some (.slice a2 cs.length c2)) (by kernel_rfl) (HC.out _ hcS) (fun hHeld => ?_)
   refine take_y 0 83 (v := ?_) rfl ?_ ?_; rotate_left; focus (intro w hSw; (try dsimp only at hSw); go_simp; (try rw [if_neg (by omega)]); (try with_reducible rfl))
   try simp only [Act.put, zp1, zp2, zp3]
   refine take_y 1 84 (v := ?_) rfl ?_ ?_; rotate_left; focus (intro w hSw; (try dsimp only at hSw); go_simp; (try rw [if_neg (by omega)]); (try with_reducible rfl))
   try simp only [Act.put, zp1, zp2, zp3]
   refine take_y 2 85 (v := ?_) rfl ?_ ?_; rotate_left; focus (intro w hSw; (try dsimp only at hSw); go_simp; (try rw [if_neg (by omega)]); (try with_reducible rfl))
   try simp only [Act.put, zp1, zp2, zp3]
   refine take_y 3 86 (v := ?_) rfl ?_ ?_; rotate_left; focus (intro w hSw; (try dsimp only at hSw); go_simp; (try rw [if_neg (by omega)]); (try with_reducible rfl))
   try simp only [Act.put, zp1, zp2, zp3]
   refine wpAnyH_ready (rs := [4]) (by kernel_rfl) (by simp) ?_
   refine AllReadyH.cons rfl (fun K hK => ?_) AllReadyH.nil
   go_simp
   refine (l1Number_any cs.length _ (by omega)).mono ?_
   rintro e v1 ⟨rfl, hq1⟩
   have hc1 : Below W.heap.size W v1 := hcS.trans (Below.mono hq1 hcS.size)
   refine hK.out _ _ (HC.out _ hc1) (fun hHeld2 => ?_)
   clear hHeld hK K; have hHeld := hHeld2; clear hHeld2; try simp only [Act.put, zp1, zp2, zp3]
   have hZ9 := hZ6.belowAll hc1
   have hB9 := hB6.belowAll hc1
   have hS9 := hS6.belowAll hc1
   have hbel9 := hbel6.trans (Below.mono hc1 hbel6.size)
   have HO9 := Lib.hid (HOO.out.below hc1)
   have hbx := Blk.gb (five_gb _ (w.heap.size + 1) (.int .i64 O) (.int .i64 E) (.int .i64 M) (.slice aq ps.length cq) (.slice ar cs.length cr)) (show w.heap.size ≠ w.heap.size + 1 by omega) hB9
   have hsx := Blk.gb (five_gb _ (w.heap.size + 1) (.int .i64 O) (.int .i64 E) (.int .i64 M) (.slice aq ps.length cq) (.slice ar cs.length cr)) (show bs ≠ w.heap.size + 1 by omega) hS9
   obtain ⟨r0, r1, r2, r3, r4, f0, f1, f2, f3, f4, rlt⟩ := hZ9.five
   refine wpAnyH_ready (rs := [5]) (by kernel_rfl) (by simp) ?_
   refine AllReadyH.cons rfl (fun K hK => ?_) AllReadyH.nil
   go_simp
   refine hK.out _ _ (by obtain ⟨e0, e1, e2, e3, e4, -⟩ := hbx.five; obtain ⟨g0, g1, g2, g3, g4, -⟩ := hsx.five; exact ⟨g0, g1, g2, g3, g4, e0, e1, e2, e3, e4⟩) (fun hHeld2 => ?_)
   clear hHeld hK K; have hHeld := hHeld2; clear hHeld2; try simp only [Act.put, zp1, zp2, zp3]
   refine take_y 6 5 (v := ?_) rfl ?_ ?_; rotate_left; focus (intro w hSw; (try dsimp only at hSw); go_simp; (try rw [if_neg (by omega)]); (try with_reducible rfl))
   try simp only [Act.put, zp1, zp2, zp3]
   refine wpAnyH_done (by kernel_rfl) ?_ _
   clear hHeld
   (try simp only []); repeat first | go_values | go_skip | go_guarded | go_step | go_upon
   obtain ⟨z0, z1, z2, z3, z4, -⟩ := (five_set (y0 := .int .i64 O) (y1 := .int .i64 E) (y2 := .int .i64 M) (y3 := .slice aq ps.length cq) (y4 := .slice ar cs.length cr) hZ9).five
   refine bodyPost_ret (v := .tuple #[.agg #[.int .i64 O, .int .i64 E, .int .i64 M, .slice aq ps.length cq, .slice ar cs.length cr], .string (two cs.length)]) (by simp [results, Tryz.results35, go_sem, z0, z1, z2, z3, z4]; try rfl) rfl ?_
   rw [HLR.out, HLQ.out, HA.out]
   exact ⟨_, _, rfl, (HO9.out.result _ _ _ _ _ (by simp)).lower (by omega), five_below _ _ _ _ _ hbel9 (by omega)⟩
  have hqc := str_not (m := [99, 97, 108, 108, 115]) h1
  by_cases h2 : tl s = wplan
  ·
   have hqp := str_is (m := [112, 108, 97, 110]) h2
   have HA := Lib.hid (ansL_plan (ps := ps) (cs := cs) h1 h2)
   clear h1 h2
   have HPS := Lib.hid (plan_small HOK.out.plan)
   obtain ⟨q1, hq1⟩ : ∃ q, ps[0]? = some q := ⟨_, List.getElem?_eq_getElem (by omega)⟩
   have HJ0 : Hid (joinP (ps.take 1) = q1) := by
    unfold Hid
    rw [show ps.take 1 = [q1] by rw [List.take_succ_eq_append_getElem (by omega)]; have := (List.getElem?_eq_some_iff.1 hq1).2; simpa using this, joinP_one]
   rcases HCP.out with h | ⟨bp, op, rfl, hbp, hcp⟩
   ·
    omega
   have hz6 := hbel6.size
   have c0 : W.cell? ⟨bp, op, none⟩ = some (.string q1) := by
    have := hcp 0 (by omega)
    rw [hbel6.cell (p := ⟨bp, op, none⟩) hbp]
    rw [Nat.add_zero] at this
    rw [this]; exact strs_at _ _ _ hq1
   have HCQ := Lib.hid hcp
   have HBP := Lib.hid hbp
   have j0 : (0 : Int) < (ps.length : Int) := by omega
   clear hcp hq1
   obtain ⟨b0, b1, b2, b3, b4, -, -, -, -, -, blt⟩ := hB6.five
   go_wp2_with fail
   clear b0 b1 b2 b3 b4 blt c0
   go_loopw [15, 16] (fun o i wr => ∃ k : Nat, 1 ≤ k ∧ k ≤ ps.length ∧ i = .int .i64 k ∧ o = .string (joinP (ps.take k)) ∧ wr = W) (fun _ i _ => ps.length - (intOf i).toNat)
   case atStart => exact ⟨1, by omega, by omega, rfl, by rw [HJ0.out], rfl⟩
   case round =>
    obtain ⟨k, hk1, hkn, rfl, rfl, rfl⟩ := hrel
    obtain ⟨b0, b1, b2, b3, b4, -, -, -, -, -, blt⟩ := hB6.five
    by_cases hk : k < ps.length
    ·
     obtain ⟨t, ht⟩ : ∃ t, ps[k]? = some t := ⟨_, List.getElem?_eq_getElem hk⟩
     have c1 : wr.cell? ⟨bp, op + k, none⟩ = some (.string t) := by
      rw [hbel6.cell (p := ⟨bp, op + k, none⟩) HBP.out, HCQ.out k (by omega)]
      exact strs_at _ _ _ ht
     have HJS := Lib.hid (joinP_snoc hk1 ht)
     have hjl : (joinP (ps.take k)).size ≤ 4 * k := by
      have := joinP_le (ps := ps.take k) (fun p hp => HPS.out p (List.mem_of_mem_take hp))
      rw [List.length_take] at this
      omega
     have htl : t.size ≤ 3 := HPS.out t (List.mem_of_getElem? ht)
     have j1 : (0 : Int) ≤ (k : Int) := by omega
     have j2 : (k : Int) < (ps.length : Int) := by omega
     clear ht
     go_wp2_with fail
     go_roundw
     case rel => exact ⟨k + 1, by omega, by omega, by go_num, by rw [HJS.out], by first | rfl | trivial⟩
     case measure => simp [intOf]; omega
    ·
     have hkp : k = ps.length := by omega
     have HJA : Hid (joinP (ps.take k) = joinP ps) := by unfold Hid; rw [List.take_of_length_le (by omega)]
     rw [HJA.out]
     obtain ⟨t, ht⟩ : ∃ t, joinP ps = t := ⟨_, rfl⟩
     have HT := Lib.hid ht
     rw [ht]
     clear ht
     obtain ⟨r0, r1, r2, r3, r4, f0, f1, f2, f3, f4, rlt⟩ := hZ6.five
     obtain ⟨x0, x1, x2, x3, x4, -, -, -, -, -, xlt⟩ := hS6.five
     (try simp only []); repeat first | go_values | go_skip | go_guarded | go_step | go_upon
     obtain ⟨z0, z1, z2, z3, z4, -⟩ := (five_set (y0 := .int .i64 O) (y1 := .int .i64 E) (y2 := .int .i64 M) (y3 := .slice aq ps.length cq) (y4 := .slice ar cs.length cr) hZ6).five
     refine bodyPost_ret (v := .tuple #[.agg #[.int .i64 O, .int .i64 E, .int .i64 M, .slice aq ps.length cq, .slice ar cs.length cr], .string t]) (by simp [results, Tryz.results35, go_sem, z0, z1, z2, z3, z4]; try rfl) rfl ?_
     rw [HLR.out, HLQ.out, HA.out, HT.out]
     exact ⟨_, _, rfl, (HOO.out.result _ _ _ _ _ (by simp)).lower (by omega), five_below _ _ _ _ _ hbel6 (by omega)⟩
  have hqp := str_not (m := [112, 108, 97, 110]) h2
  have H1 := Lib.hid h1
  have H2 := Lib.hid h2
  clear h1 h2
  have hnn : nn = (readL 4 (aft 32 (tl s))).getD (-1) := by rw [HNS.out, numS_is]
  obtain ⟨rn, hrn⟩ : ∃ z, readL 4 (aft 32 (tl s)) = z := ⟨_, rfl⟩
  have HRN := Lib.hid hrn
  rw [hrn] at hnn
  clear HNS
  cases rn with
  | none =>
   simp only [Option.getD_none] at hnn
   subst hnn
   have HA := Lib.hid (ansL_what (ps := ps) (cs := cs) H1.out H2.out (.inl HRN.out))
   clear hrn
   obtain ⟨r0, r1, r2, r3, r4, f0, f1, f2, f3, f4, rlt⟩ := hZ6.five
   obtain ⟨x0, x1, x2, x3, x4, -, -, -, -, -, xlt⟩ := hS6.five
   (try simp only []); repeat first | go_values | go_skip | go_guarded | go_step | go_upon
   obtain ⟨z0, z1, z2, z3, z4, -⟩ := (five_set (y0 := .int .i64 O) (y1 := .int .i64 E) (y2 := .int .i64 M) (y3 := .slice aq ps.length cq) (y4 := .slice ar cs.length cr) hZ6).five
   refine bodyPost_ret (v := .tuple #[.agg #[.int .i64 O, .int .i64 E, .int .i64 M, .slice aq ps.length cq, .slice ar cs.length cr], .string awhat]) (by simp [results, Tryz.results35, go_sem, z0, z1, z2, z3, z4]; try rfl) rfl ?_
   rw [HLR.out, HLQ.out, HA.out]
   exact ⟨_, _, rfl, (HOO.out.result _ _ _ _ _ (by simp)).lower (by omega), five_below _ _ _ _ _ hbel6 (by omega)⟩
  | some n =>
   have hn0 := readL_nonneg hrn
   simp only [Option.getD_some] at hnn
   subst hnn
   clear hrn
   have w0 := HW0.out
   by_cases hww : bef 32 (tl s) = wwho ∨ bef 32 (tl s) = wvia
   case neg =>
    have HA := Lib.hid (ansL_what (ps := ps) (cs := cs) H1.out H2.out (.inr hww))
    have hw1 := word_ne (m := [119, 104, 111]) (fun h => hww (.inl h))
    have hw2 := word_ne (m := [118, 105, 97]) (fun h => hww (.inr h))
    rw [HWD.out] at hw1 hw2
    clear hww
    obtain ⟨r0, r1, r2, r3, r4, f0, f1, f2, f3, f4, rlt⟩ := hZ6.five
    obtain ⟨x0, x1, x2, x3, x4, -, -, -, -, -, xlt⟩ := hS6.five
    (try simp only []); repeat first | go_values | go_skip | go_guarded | go_step | go_upon
    obtain ⟨z0, z1, z2, z3, z4, -⟩ := (five_set (y0 := .int .i64 O) (y1 := .int .i64 E) (y2 := .int .i64 M) (y3 := .slice aq ps.length cq) (y4 := .slice ar cs.length cr) hZ6).five
    refine bodyPost_ret (v := .tuple #[.agg #[.int .i64 O, .int .i64 E, .int .i64 M, .slice aq ps.length cq, .slice ar cs.length cr], .string awhat]) (by simp [results, Tryz.results35, go_sem, z0, z1, z2, z3, z4]; try rfl) rfl ?_
    rw [HLR.out, HLQ.out, HA.out]
    exact ⟨_, _, rfl, (HOO.out.result _ _ _ _ _ (by simp)).lower (by omega), five_below _ _ _ _ _ hbel6 (by omega)⟩
   have key : Hid ((bef 32 (tl s) = wwho ∧ (wd.toList == [119, 104, 111]) = true ∧ (wd.toList == [118, 105, 97]) = false) ∨ (bef 32 (tl s) = wvia ∧ (wd.toList == [119, 104, 111]) = false ∧ (wd.toList == [118, 105, 97]) = true)) := by
    unfold Hid
    rw [← HWD.out]
    rcases hww with h | h
    ·
     exact .inl ⟨h, word_eq h, word_ne (by rw [h]; decide)⟩
    ·
     exact .inr ⟨h, word_ne (by rw [h]; decide), word_eq h⟩
   clear hww
   rcases key.out with ⟨hb9, hw1, hw2⟩ | ⟨hb9, hw1, hw2⟩
   ·
    have HB9 := Lib.hid hb9
    clear hb9
    obtain ⟨b0, b1, b2, b3, b4, -, -, -, -, -, blt⟩ := hB6.five
    go_wp2_with fail
    refine (sPeerOf_any O E M _ _ ps cs nn _ HRW.out HL.out).mono ?_
    rintro e w7 ⟨rfl, hb7⟩
    rw [peerX_y nn HOK.out]
    have hbel7 := hbel6.trans (Below.mono hb7 hbel6.size)
    have hB7 := hB6.belowAll hb7
    have hZ7 := hZ6.belowAll hb7
    have hS7 := hS6.belowAll hb7
    have HOO7 := Lib.hid (HOO.out.below hb7)
    have HRW7 := Lib.hid (HRW.out.below hb7)
    have w07 := keep_below hb7 w0
    clear b0 b1 b2 b3 b4 blt hB6 hZ6 hS6 HOO HRW w0 hb7 hbel6 HW0 HCV hbw
    have hz2 : w.heap.size + 2 ≤ w7.heap.size := hZ7.lt
    have hB6 := hB7
    have hZ6 := hZ7
    have hS6 := hS7
    have HOO := HOO7
    have HRW := HRW7
    have hbel6 := hbel7
    clear hB7 hZ7 hS7 HOO7 HRW7 hbel7 hz2l
    rcases peer_case HOK.out.calls nn with ⟨hf, hpv⟩ | ⟨c, hf, hmem, hp0, hp1, hv0, hv1⟩
    ·
     have HA := Lib.hid (ansL_none (ps := ps) H1.out H2.out HRN.out (.inl HB9.out) hf)
     rw [hpv]
     clear hf hpv
     obtain ⟨r0, r1, r2, r3, r4, f0, f1, f2, f3, f4, rlt⟩ := hZ6.five
     obtain ⟨x0, x1, x2, x3, x4, -, -, -, -, -, xlt⟩ := hS6.five
     (try simp only []); repeat first | go_values | go_skip | go_guarded | go_step | go_upon
     obtain ⟨z0, z1, z2, z3, z4, -⟩ := (five_set (y0 := .int .i64 O) (y1 := .int .i64 E) (y2 := .int .i64 M) (y3 := .slice aq ps.length cq) (y4 := .slice ar cs.length cr) hZ6).five
     refine bodyPost_ret (v := .tuple #[.agg #[.int .i64 O, .int .i64 E, .int .i64 M, .slice aq ps.length cq, .slice ar cs.length cr], .string anone]) (by simp [results, Tryz.results35, go_sem, z0, z1, z2, z3, z4]; try rfl) rfl ?_
     rw [HLR.out, HLQ.out, HA.out]
     exact ⟨_, _, rfl, (HOO.out.result _ _ _ _ _ (by simp)).lower (by omega), five_below _ _ _ _ _ hbel6 (by omega)⟩
    ·
     have HA := Lib.hid (ansL_who (ps := ps) H1.out H2.out HRN.out HB9.out hf)
     obtain ⟨pn, hpn9⟩ := Int.eq_ofNat_of_zero_le hp0
     have HPV := Lib.hid hpn9
     have hp99 : pn ≤ 99 := by omega
     have HPX : Hid (peerX O E M ps cs nn = (pn : Int)) := by unfold Hid; rw [peerX_y nn HOK.out, HPV.out]
     have HTW : Hid (two (peerL cs nn).toNat = two pn) := by unfold Hid; rw [HPV.out]; rfl
     rw [hpn9]
     have hpneg : ¬ (pn : Int) < 0 := by omega
     clear hf hmem hpn9 hp0 hp1
     obtain ⟨b0, b1, b2, b3, b4, -, -, -, -, -, blt⟩ := hB6.five
     obtain ⟨x0, x1, x2, x3, x4, -, -, -, -, -, xlt⟩ := hS6.five
     have hcS : Below w7.heap.size w7 w7.drew := (Below.refl _ _).drew
     have HC : Hid (∀ w' : World, Below w7.heap.size w7 w' → w'.cell? ⟨bs, 0, none⟩ = some (.int .i64 O) ∧ w'.cell? ⟨bs, 1, none⟩ = some (.int .i64 E) ∧ w'.cell? ⟨bs, 2, none⟩ = some (.int .i64 M) ∧ w'.cell? ⟨bs, 3, none⟩ = some (.slice aq ps.length cq) ∧ w'.cell? ⟨bs, 4, none⟩ = some (.slice ar cs.length cr) ∧ w'.cell? ⟨w.heap.size, 0, none⟩ = some (.int .i64 O) ∧ w'.cell? ⟨w.heap.size, 1, none⟩ = some (.int .i64 E) ∧ w'.cell? ⟨w.heap.size, 2, none⟩ = some (.int .i64 M) ∧ w'.cell? ⟨w.heap.size, 3, none⟩ = some (.slice a1 ps.length c1) ∧ w'.cell? ⟨w.heap.size, 4, none⟩ = some (.slice a2 cs.length c2)) := fun w' hb => ⟨keep_below hb x0, keep_below hb x1, keep_below hb x2, keep_below hb x3, keep_below hb x4, keep_below hb b0, keep_below hb b1, keep_below hb b2, keep_below hb b3, keep_below hb b4⟩
     go_wp2_with fail
     clear b0 b1 b2 b3 b4 blt x0 x1 x2 x3 x4 xlt
     refine wp_region_held_drew (S := fun w' => w'.cell? ⟨bs, 0, none⟩ = some (.int .i64 O) ∧ w'.cell? ⟨bs, 1, none⟩ = some (.int .i64 E) ∧ w'.cell? ⟨bs, 2, none⟩ = some (.int .i64 M) ∧ w'.cell? ⟨bs, 3, none⟩ = some (.slice aq ps.length cq) ∧ w'.cell? ⟨bs, 4, none⟩ = some (.slice ar cs.length cr) ∧ w'.cell? ⟨w.heap.size, 0, none⟩ = some (.int .i64 O) ∧ w'.cell? ⟨w.heap.size, 1, none⟩ = some (.int .i64 E) ∧ w'.cell? ⟨w.heap.size, 2, none⟩ = some (.int .i64 M) ∧ w'.cell? ⟨w.heap.size, 3, none⟩ = some (.slice a1 ps.length c1) ∧ w'.cell? ⟨w.heap.size, 4, none⟩ = some (.slice a2 cs.length c2)) (by kernel_rfl) (HC.out _ hcS) (fun hHeld => ?_)
     refine take_y 0 143 (v := ?_) rfl ?_ ?_; rotate_left; focus (intro w hSw; (try dsimp only at hSw); go_simp; (try rw [if_neg (by omega)]); (try with_reducible rfl))
     try simp only [Act.put, zp1, zp2, zp3]
     refine take_y 1 144 (v := ?_) rfl ?_ ?_; rotate_left; focus (intro w hSw; (try dsimp only at hSw); go_simp; (try rw [if_neg (by omega)]); (try with_reducible rfl))
     try simp only [Act.put, zp1, zp2, zp3]
     refine take_y 2 145 (v := ?_) rfl ?_ ?_; rotate_left; focus (intro w hSw; (try dsimp only at hSw); go_simp; (try rw [if_neg (by omega)]); (try with_reducible rfl))
     try simp only [Act.put, zp1, zp2, zp3]
     refine wpAnyH_ready (rs := [3]) (by kernel_rfl) (by simp) ?_
     refine AllReadyH.cons rfl (fun K hK => ?_) AllReadyH.nil
     go_simp
     refine (sPeerOf_any O E M _ _ ps cs nn _ (HRW.out.below hcS) HL.out).mono ?_
     rintro e v1 ⟨rfl, hq1⟩
     rw [HPX.out]
     have hc1 : Below w7.heap.size w7 v1 := hcS.trans (Below.mono hq1 hcS.size)
     refine hK.out _ _ (HC.out _ hc1) (fun hHeld2 => ?_)
     clear hHeld hK K; have hHeld := hHeld2; clear hHeld2; try simp only [Act.put, zp1, zp2, zp3]
     refine wpAnyH_ready (rs := [4]) (by kernel_rfl) (by simp) ?_
     refine AllReadyH.cons rfl (fun K hK => ?_) AllReadyH.nil
     go_simp
     refine (l1Number_any pn _ hp99).mono ?_
     rintro e v2 ⟨rfl, hq2⟩
     have hc2 : Below w7.heap.size w7 v2 := hc1.trans (Below.mono hq2 hc1.size)
     refine hK.out _ _ (HC.out _ hc2) (fun hHeld2 => ?_)
     clear hHeld hK K; have hHeld := hHeld2; clear hHeld2; try simp only [Act.put, zp1, zp2, zp3]
     have hZ9 := hZ6.belowAll hc2
     have hB9 := hB6.belowAll hc2
     have hS9 := hS6.belowAll hc2
     have hbel9 := hbel6.trans (Below.mono hc2 hbel6.size)
     have HO9 := Lib.hid (HOO.out.below hc2)
     have hbx := Blk.gb (five_gb _ (w.heap.size + 1) (.int .i64 O) (.int .i64 E) (.int .i64 M) (.slice aq ps.length cq) (.slice ar cs.length cr)) (show w.heap.size ≠ w.heap.size + 1 by omega) hB9
     have hsx := Blk.gb (five_gb _ (w.heap.size + 1) (.int .i64 O) (.int .i64 E) (.int .i64 M) (.slice aq ps.length cq) (.slice ar cs.length cr)) (show bs ≠ w.heap.size + 1 by omega) hS9
     obtain ⟨r0, r1, r2, r3, r4, f0, f1, f2, f3, f4, rlt⟩ := hZ9.five
     refine wpAnyH_ready (rs := [5]) (by kernel_rfl) (by simp) ?_
     refine AllReadyH.cons rfl (fun K hK => ?_) AllReadyH.nil
     go_simp
     refine hK.out _ _ (by obtain ⟨e0, e1, e2, e3, e4, -⟩ := hbx.five; obtain ⟨g0, g1, g2, g3, g4, -⟩ := hsx.five; exact ⟨g0, g1, g2, g3, g4, e0, e1, e2, e3, e4⟩) (fun hHeld2 => ?_)
     clear hHeld hK K; have hHeld := hHeld2; clear hHeld2; try simp only [Act.put, zp1, zp2, zp3]
     refine take_y 6 5 (v := ?_) rfl ?_ ?_; rotate_left; focus (intro w hSw; (try dsimp only at hSw); go_simp; (try rw [if_neg (by omega)]); (try with_reducible rfl))
     try simp only [Act.put, zp1, zp2, zp3]
     refine wpAnyH_done (by kernel_rfl) ?_ _
     clear hHeld
     (try simp only []); repeat first | go_values | go_skip | go_guarded | go_step | go_upon
     obtain ⟨z0, z1, z2, z3, z4, -⟩ := (five_set (y0 := .int .i64 O) (y1 := .int .i64 E) (y2 := .int .i64 M) (y3 := .slice aq ps.length cq) (y4 := .slice ar cs.length cr) hZ9).five
     refine bodyPost_ret (v := .tuple #[.agg #[.int .i64 O, .int .i64 E, .int .i64 M, .slice aq ps.length cq, .slice ar cs.length cr], .string (two pn)]) (by simp [results, Tryz.results35, go_sem, z0, z1, z2, z3, z4]; try rfl) rfl ?_
     rw [HLR.out, HLQ.out, HA.out, HTW.out]
     exact ⟨_, _, rfl, (HO9.out.result _ _ _ _ _ (by simp)).lower (by omega), five_below _ _ _ _ _ hbel9 (by omega)⟩
   ·
    have HB9 := Lib.hid hb9
    clear hb9
    obtain ⟨b0, b1, b2, b3, b4, -, -, -, -, -, blt⟩ := hB6.five
    go_wp2_with fail
    refine (sPeerOf_any O E M _ _ ps cs nn _ HRW.out HL.out).mono ?_
    rintro e w7 ⟨rfl, hb7⟩
    rw [peerX_y nn HOK.out]
    have hbel7 := hbel6.trans (Below.mono hb7 hbel6.size)
    have hB7 := hB6.belowAll hb7
    have hZ7 := hZ6.belowAll hb7
    have hS7 := hS6.belowAll hb7
    have HOO7 := Lib.hid (HOO.out.below hb7)
    have HRW7 := Lib.hid (HRW.out.below hb7)
    have w07 := keep_below hb7 w0
    clear b0 b1 b2 b3 b4 blt hB6 hZ6 hS6 HOO HRW w0 hb7 hbel6 HW0 HCV hbw
    have hz2 : w.heap.size + 2 ≤ w7.heap.size := hZ7.lt
    have hB6 := hB7
    have hZ6 := hZ7
    have hS6 := hS7
    have HOO := HOO7
    have HRW := HRW7
    have hbel6 := hbel7
    clear hB7 hZ7 hS7 HOO7 HRW7 hbel7 hz2l
    rcases peer_case HOK.out.calls nn with ⟨hf, hpv⟩ | ⟨c, hf, hmem, hp0, hp1, hv0, hv1⟩
    ·
     have HA := Lib.hid (ansL_none (ps := ps) H1.out H2.out HRN.out (.inr HB9.out) hf)
     rw [hpv]
     clear hf hpv
     obtain ⟨r0, r1, r2, r3, r4, f0, f1, f2, f3, f4, rlt⟩ := hZ6.five
     obtain ⟨x0, x1, x2, x3, x4, -, -, -, -, -, xlt⟩ := hS6.five
     (try simp only []); repeat first | go_values | go_skip | go_guarded | go_step | go_upon
     obtain ⟨z0, z1, z2, z3, z4, -⟩ := (five_set (y0 := .int .i64 O) (y1 := .int .i64 E) (y2 := .int .i64 M) (y3 := .slice aq ps.length cq) (y4 := .slice ar cs.length cr) hZ6).five
     refine bodyPost_ret (v := .tuple #[.agg #[.int .i64 O, .int .i64 E, .int .i64 M, .slice aq ps.length cq, .slice ar cs.length cr], .string anone]) (by simp [results, Tryz.results35, go_sem, z0, z1, z2, z3, z4]; try rfl) rfl ?_
     rw [HLR.out, HLQ.out, HA.out]
     exact ⟨_, _, rfl, (HOO.out.result _ _ _ _ _ (by simp)).lower (by omega), five_below _ _ _ _ _ hbel6 (by omega)⟩
    ·
     have HA := Lib.hid (ansL_via (ps := ps) H1.out H2.out HRN.out HB9.out hf)
     obtain ⟨vn, hvn9⟩ := Int.eq_ofNat_of_zero_le hv0
     have HVN := Lib.hid hvn9
     have hM5 := HOK.out.calls.sh.m
     have hv99 : vn ≤ 99 := by omega
     have HVX : Hid (viaX cs nn = (vn : Int)) := by unfold Hid; rw [via_some hf, HVN.out]
     have HTW : Hid (two c.2.2.toNat = two vn) := by unfold Hid; rw [HVN.out]; rfl
     have hpneg : ¬ peerL cs nn < 0 := by omega
     obtain ⟨pz, hpz⟩ : ∃ pz, peerL cs nn = pz := ⟨_, rfl⟩
     rw [hpz] at hpneg ⊢
     clear hf hmem hvn9 hp0 hp1 hv0 hv1 hpz
     obtain ⟨b0, b1, b2, b3, b4, -, -, -, -, -, blt⟩ := hB6.five
     obtain ⟨x0, x1, x2, x3, x4, -, -, -, -, -, xlt⟩ := hS6.five
     have hcS : Below w7.heap.size w7 w7.drew := (Below.refl _ _).drew
     have HC : Hid (∀ w' : World, Below w7.heap.size w7 w' → w'.cell? ⟨bs, 0, none⟩ = some (.int .i64 O) ∧ w'.cell? ⟨bs, 1, none⟩ = some (.int .i64 E) ∧ w'.cell? ⟨bs, 2, none⟩ = some (.int .i64 M) ∧ w'.cell? ⟨bs, 3, none⟩ = some (.slice aq ps.length cq) ∧ w'.cell? ⟨bs, 4, none⟩ = some (.slice ar cs.length cr) ∧ w'.cell? ⟨w.heap.size, 0, none⟩ = some (.int .i64 O) ∧ w'.cell? ⟨w.heap.size, 1, none⟩ = some (.int .i64 E) ∧ w'.cell? ⟨w.heap.size, 2, none⟩ = some (.int .i64 M) ∧ w'.cell? ⟨w.heap.size, 3, none⟩ = some (.slice a1 ps.length c1) ∧ w'.cell? ⟨w.heap.size, 4, none⟩ = some (.slice a2 cs.length c2)) := fun w' hb => ⟨keep_below hb x0, keep_below hb x1, keep_below hb x2, keep_below hb x3, keep_below hb x4, keep_below hb b0, keep_below hb b1, keep_below hb b2, keep_below hb b3, keep_below hb b4⟩
     go_wp2_with fail
     clear b0 b1 b2 b3 b4 blt x0 x1 x2 x3 x4 xlt
     refine wp_region_held_drew (S := fun w' => w'.cell? ⟨bs, 0, none⟩ = some (.int .i64 O) ∧ w'.cell? ⟨bs, 1, none⟩ = some (.int .i64 E) ∧ w'.cell? ⟨bs, 2, none⟩ = some (.int .i64 M) ∧ w'.cell? ⟨bs, 3, none⟩ = some (.slice aq ps.length cq) ∧ w'.cell? ⟨bs, 4, none⟩ = some (.slice ar cs.length cr) ∧ w'.cell? ⟨w.heap.size, 0, none⟩ = some (.int .i64 O) ∧ w'.cell? ⟨w.heap.size, 1, none⟩ = some (.int .i64 E) ∧ w'.cell? ⟨w.heap.size, 2, none⟩ = some (.int .i64 M) ∧ w'.cell? ⟨w.heap.size, 3, none⟩ = some (.slice a1 ps.length c1) ∧ w'.cell? ⟨w.heap.size, 4, none⟩ = some (.slice a2 cs.length c2)) (by kernel_rfl) (HC.out _ hcS) (fun hHeld => ?_)
     refine take_y 0 157 (v := ?_) rfl ?_ ?_; rotate_left; focus (intro w hSw; (try dsimp only at hSw); go_simp; (try rw [if_neg (by omega)]); (try with_reducible rfl))
     try simp only [Act.put, zp1, zp2, zp3]
     refine take_y 1 158 (v := ?_) rfl ?_ ?_; rotate_left; focus (intro w hSw; (try dsimp only at hSw); go_simp; (try rw [if_neg (by omega)]); (try with_reducible rfl))
     try simp only [Act.put, zp1, zp2, zp3]
     refine take_y 2 159 (v := ?_) rfl ?_ ?_; rotate_left; focus (intro w hSw; (try dsimp only at hSw); go_simp; (try rw [if_neg (by omega)]); (try with_reducible rfl))
     try simp only [Act.put, zp1, zp2, zp3]
     refine wpAnyH_ready (rs := [3]) (by kernel_rfl) (by simp) ?_
     refine AllReadyH.cons rfl (fun K hK => ?_) AllReadyH.nil
     go_simp
     refine (l8Via_any O E M _ _ ps cs nn _ (HRW.out.below hcS)).mono ?_
     rintro e v1 ⟨rfl, hq1⟩
     rw [HVX.out]
     have hc1 : Below w7.heap.size w7 v1 := hcS.trans (Below.mono hq1 hcS.size)
     refine hK.out _ _ (HC.out _ hc1) (fun hHeld2 => ?_)
     clear hHeld hK K; have hHeld := hHeld2; clear hHeld2; try simp only [Act.put, zp1, zp2, zp3]
     refine wpAnyH_ready (rs := [4]) (by kernel_rfl) (by simp) ?_
     refine AllReadyH.cons rfl (fun K hK => ?_) AllReadyH.nil
     go_simp
     refine (l1Number_any vn _ hv99).mono ?_
     rintro e v2 ⟨rfl, hq2⟩
     have hc2 : Below w7.heap.size w7 v2 := hc1.trans (Below.mono hq2 hc1.size)
     refine hK.out _ _ (HC.out _ hc2) (fun hHeld2 => ?_)
     clear hHeld hK K; have hHeld := hHeld2; clear hHeld2; try simp only [Act.put, zp1, zp2, zp3]
     have hZ9 := hZ6.belowAll hc2
     have hB9 := hB6.belowAll hc2
     have hS9 := hS6.belowAll hc2
     have hbel9 := hbel6.trans (Below.mono hc2 hbel6.size)
     have HO9 := Lib.hid (HOO.out.below hc2)
     have hbx := Blk.gb (five_gb _ (w.heap.size + 1) (.int .i64 O) (.int .i64 E) (.int .i64 M) (.slice aq ps.length cq) (.slice ar cs.length cr)) (show w.heap.size ≠ w.heap.size + 1 by omega) hB9
     have hsx := Blk.gb (five_gb _ (w.heap.size + 1) (.int .i64 O) (.int .i64 E) (.int .i64 M) (.slice aq ps.length cq) (.slice ar cs.length cr)) (show bs ≠ w.heap.size + 1 by omega) hS9
     obtain ⟨r0, r1, r2, r3, r4, f0, f1, f2, f3, f4, rlt⟩ := hZ9.five
     refine wpAnyH_ready (rs := [5]) (by kernel_rfl) (by simp) ?_
     refine AllReadyH.cons rfl (fun K hK => ?_) AllReadyH.nil
     go_simp
     refine hK.out _ _ (by obtain ⟨e0, e1, e2, e3, e4, -⟩ := hbx.five; obtain ⟨g0, g1, g2, g3, g4, -⟩ := hsx.five; exact ⟨g0, g1, g2, g3, g4, e0, e1, e2, e3, e4⟩) (fun hHeld2 => ?_)
     clear hHeld hK K; have hHeld := hHeld2; clear hHeld2; try simp only [Act.put, zp1, zp2, zp3]
     refine take_y 6 5 (v := ?_) rfl ?_ ?_; rotate_left; focus (intro w hSw; (try dsimp only at hSw); go_simp; (try rw [if_neg (by omega)]); (try with_reducible rfl))
     try simp only [Act.put, zp1, zp2, zp3]
     refine wpAnyH_done (by kernel_rfl) ?_ _
     clear hHeld
     (try simp only []); repeat first | go_values | go_skip | go_guarded | go_step | go_upon
     obtain ⟨z0, z1, z2, z3, z4, -⟩ := (five_set (y0 := .int .i64 O) (y1 := .int .i64 E) (y2 := .int .i64 M) (y3 := .slice aq ps.length cq) (y4 := .slice ar cs.length cr) hZ9).five
     refine bodyPost_ret (v := .tuple #[.agg #[.int .i64 O, .int .i64 E, .int .i64 M, .slice aq ps.length cq, .slice ar cs.length cr], .string (two vn)]) (by simp [results, Tryz.results35, go_sem, z0, z1, z2, z3, z4]; try rfl) rfl ?_
     rw [HLR.out, HLQ.out, HA.out, HTW.out]
     exact ⟨_, _, rfl, (HO9.out.result _ _ _ _ _ (by simp)).lower (by omega), five_below _ _ _ _ _ hbel9 (by omega)⟩

end Go.Proofs.YtedadhoneebfnaaGreatDoor
