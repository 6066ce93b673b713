/- The walk of the exact law of ExLines (printed by gen_law.py). -/
import Derived.Test.YtedadhoneebfnaaGreatDoorJ14
import Derived.Test.YtedadhoneebfnaaGreatDoorLr
set_option linter.unusedSimpArgs false
set_option linter.unusedVariables false
namespace Go.Proofs.YtedadhoneebfnaaGreatDoor
open Go.RowKit


set_option maxRecDepth 100000 in
set_option maxHeartbeats 16000000 in
theorem exExLines (O E M : Int) (vp vc : Value) (ps : List ByteArray) (cs : List Cl) (vd : Value) (ls : List ByteArray) (w : World) (hR : ExRd w vp vc ps cs) (hL : StLen ps) (hD : Rds w vd ls.length 1 (strs ls)) (hDL : StLen ls) :
  Calls Tryz.prog 3 #[.agg #[.int .i64 O, .int .i64 E, .int .i64 M, vp, vc], vd] w fun e w' => e = .returned (.bool true) ∧ Below w.heap.size w w' := by
 have hB0 := Blk.new (w := w) (cs := #[.int .i64 O, .int .i64 E, .int .i64 M, vp, vc]) (T := 27) rfl
 have hb0 : Below w.heap.size w (w.alloc (.cells #[.int .i64 O, .int .i64 E, .int .i64 M, vp, vc] 27)) := by (exact grownA)
 have HR := Lib.hid hR
 have HL := Lib.hid hL
 obtain ⟨_, _, a1, c1, rfl, _⟩ := hR.plan
 obtain ⟨_, _, a2, c2, rfl, _⟩ := hR.calls
 obtain ⟨⟨⟨O', E', M'⟩, ⟨ps', cs'⟩, x⟩, hr⟩ : ∃ r : (Int × Int × Int) × (List ByteArray × List Cl) × List ByteArray, linesR O E M ps cs ls = r := ⟨_, rfl⟩
 have hsm := linesR_small O E M ps cs ls
 rw [hr] at hsm
 obtain ⟨hsm1, hsm2, hsm3⟩ := hsm
 simp only at hsm1 hsm2 hsm3
 have HDS := Lib.hid hD
 have HDM := Lib.hid hDL
 have HRR := Lib.hid hr
 have hls2 : ∀ (vp vc vd : Value) (W : World), (∀ s ∈ ls, s.size ≤ 1100000) → True := fun _ _ _ _ _ => trivial
 obtain ⟨_, hdm, a3, c3, rfl, hdn, _⟩ := hD
 unfold maxLen at hdm
 clear hDL hls2
 clear hR hL hr
 go_enter Tryz.func3, Tryz.ntmps3
 obtain ⟨bq0, bq1, bq2, bq3, bq4, -, -, -, -, -, bqlt⟩ := hB0.five
 go_wp2_with fail
 refine (szExchange_any O E M _ _ ps cs _ (HR.out.below hb0) HL.out).mono ?_
 rintro e w1 ⟨z, rfl, hz0, hz1, hz2, hq⟩
 clear bq0 bq1 bq2 bq3 bq4 bqlt
 have hb3 : Below w.heap.size w _ := hb0.trans (Below.mono hq hb0.size)
 have fB3 := hB0.belowAll hq
 clear hb0 hB0 hq
 by_cases hz : 0 ≤ z
 case neg =>
  clear hz2
  go_wp2
  go_returns
  exact ⟨rfl, hb3⟩
 obtain ⟨hpn, hcn⟩ := hz2 hz
 have HPN := Lib.hid hpn
 have HCN := Lib.hid hcn
 clear hz2 hpn hcn
 obtain ⟨bq0, bq1, bq2, bq3, bq4, -, -, -, -, -, bqlt⟩ := fB3.five
 go_wp2_with fail
 refine (szStringS_gen _ ls z _ (HDS.out.below hb3) HDM.out hz hz1).mono ?_
 rintro e w2 ⟨z2, rfl, hzn, hq⟩
 have HZN := Lib.hid hzn
 clear hzn
 clear bq0 bq1 bq2 bq3 bq4 bqlt
 have hb4 : Below w.heap.size w _ := hb3.trans (Below.mono hq hb3.size)
 have fB4 := fB3.belowAll hq
 clear hb3 fB3 hq
 by_cases hy : 0 ≤ z2
 case neg =>
  go_wp2
  go_returns
  exact ⟨rfl, hb4⟩
 have HDN := Lib.hid (HZN.out hy).1
 have HLS : Hid (∀ s ∈ ls, s.size ≤ 1100000) := fun s hs => by obtain ⟨j, hj⟩ := List.mem_iff_getElem?.1 hs; have := (HZN.out hy).2 j s hj; omega
 have KS : Hid (∀ (vp vc vd : Value) (W : World), ExRd W vp vc ps cs → SomeV vp ps.length → Rds W vd ls.length 1 (strs ls) → Calls Tryz.prog 10 #[.agg #[.int .i64 O, .int .i64 E, .int .i64 M, vp, vc], vd] W (LinesPost ((O', E', M'), (ps', cs'), x) W)) := fun vp vc vd W h1 h2 h3 => (sExLines_any O E M vp vc vd ps cs ls W h1 h2 HL.out h3 HLS.out).mono fun e w' h => (by rw [HRR.out] at h; exact h)
 have KI : Hid (∀ (vp vc vd : Value) (W : World), ExRd W vp vc ps cs → SomeV vp ps.length → Rds W vd ls.length 1 (strs ls) → Calls Tryz.prog 13 #[.agg #[.int .i64 O, .int .i64 E, .int .i64 M, vp, vc], vd] W (LinesPost ((O', E', M'), (ps', cs'), x) W)) := fun vp vc vd W h1 h2 h3 => (iExLines_any O E M vp vc vd ps cs ls W h1 h2 HL.out h3 HLS.out).mono fun e w' h => (by rw [HRR.out] at h; exact h)
 have HSTART := Lib.hid (show w.heap.size + 1 ≤ w2.heap.size from fB4.lt)
 go_upto_region 8 with fail
 go_cut [6, 7] (fun tb tx wc5 => ∃ (b : Nat) (vq vr va : Value), tb = .pointer (some ⟨b, 0, none⟩) ∧ tx = va ∧ LnRes w2 wc5 b O' E' M' vq vr va ps' cs' x)
 case first =>
  obtain ⟨bq0, bq1, bq2, bq3, bq4, -, -, -, -, -, bqlt⟩ := fB4.five
  go_wp2_with fail
  refine (toExchange_any O E M _ _ ps cs _ (HR.out.below hb4) HPN.out HCN.out).mono ?_
  rintro e w6 ⟨g6, h6, rfl, o6, hq6⟩
  have hc6 : Below w2.heap.size w2 _ := (Below.refl w2.heap.size w2).trans (Below.mono hq6 (Below.refl w2.heap.size w2).size)
  have hd6 : Below w.heap.size w _ := hb4.trans (Below.mono hq6 hb4.size)
  go_wp2_with fail
  refine (toStringS_any _ ls _ (HDS.out.below hd6) HDN.out).mono ?_
  rintro e w7 ⟨gd7, rfl, hgd7, od7, hq7⟩
  have gex7 := o6.below hq7
  have hc7 : Below w2.heap.size w2 _ := hc6.trans (Below.mono hq7 hc6.size)
  have hd7 : Below w.heap.size w _ := hd6.trans (Below.mono hq7 hd6.size)
  go_wp2_with fail
  refine (KS.out _ _ _ _ gex7.rd (own_somev gex7.plan) (Rds.ofOwn od7)).mono ?_
  rintro e w8 ⟨vq8, vr8, va8, rfl, o8, rw8, ap8, hq8⟩
  obtain ⟨aq8, cq8, ar8, cr8, rfl, rfl⟩ := agg_parts o8
  obtain ⟨aa8, ca8, rfl⟩ := own_len9 rw8
  simp only at o8 rw8
  have gex8 := gex7.below hq8
  have gdl8 := Own.below hq8 od7.lt od7
  have hc8 : Below w2.heap.size w2 _ := hc7.trans (Below.mono hq8 hc7.size)
  have hd8 : Below w.heap.size w _ := hd7.trans (Below.mono hq8 hd7.size)
  have hRS := LnRes.mkA (O := O') (E := E') (M := M') hc8 o8 rw8 ap8 hc7.size
  go_wp2_with fail
  go_meet
  exact ⟨_, _, _, _, rfl, rfl, hRS⟩
 case rest =>
  obtain ⟨wc5, rfl⟩ : ∃ wo : World, wo = wc := ⟨_, rfl⟩
  obtain ⟨bW, vWp, vWc, vWr, rfl, rfl, hLR⟩ := hcut
  have hRS := hLR.res
  have rW := hLR.row
  have APPW := Lib.hid hLR.apP
  obtain ⟨aWr, cWr, rfl⟩ := own_len9 rW
  clear hLR
  obtain ⟨aWp, cWp, aWc, cWc, rfl, rfl⟩ := agg_parts hRS.own
  have hb9 : Below w.heap.size w _ := hb4.trans (Below.mono hRS.bel hb4.size)
  have fB9 := fB4.belowAll hRS.bel
  clear hb4 fB4 
  have hW := hRS.box
  have oW := hRS.own
  have APW1 := Lib.hid hRS.ap1
  have APW2 := Lib.hid hRS.ap2
  have BGW := Lib.hid hRS.big
  have LTW := Lib.hid hW.lt
  have HIW1 := Lib.hid (Hi.of oW.plan)
  have HIW2 := Lib.hid (Hi.of oW.calls)
  have LOW1 := Lib.hid (Lo.of oW.plan)
  have LOW2 := Lib.hid (Lo.of oW.calls)
  have SZW := Lib.hid (show w2.heap.size ≤ wc5.heap.size from hRS.bel.size)
  clear hRS
  have HIRW := Lib.hid (Hi.of rW)
  have LORW := Lib.hid (Lo.of rW)
  go_upto_region 9 with fail
  go_cut [8] (fun tb wc10 => ∃ (b : Nat) (vq vr : Value), tb = .pointer (some ⟨b, 0, none⟩) ∧ ExRes wc5 wc10 b O E M vq vr ps cs)
  case first =>
   obtain ⟨bq0, bq1, bq2, bq3, bq4, -, -, -, -, -, bqlt⟩ := fB9.five
   go_wp2_with fail
   refine (toExchange_any O E M _ _ ps cs _ (HR.out.below hb9) HPN.out HCN.out).mono ?_
   rintro e w11 ⟨g11, h11, rfl, o11, hq11⟩
   have hc11 : Below wc5.heap.size wc5 _ := (Below.refl wc5.heap.size wc5).trans (Below.mono hq11 (Below.refl wc5.heap.size wc5).size)
   have hd11 : Below w.heap.size w _ := hb9.trans (Below.mono hq11 hb9.size)
   have hRS := ExRes.mkA (O := O) (E := E) (M := M) hc11 o11 (Nat.le_refl _)
   go_wp2_with fail
   go_meet
   exact ⟨_, _, _, rfl, hRS⟩
  case rest =>
   obtain ⟨wc10, rfl⟩ : ∃ wo : World, wo = wc := ⟨_, rfl⟩
   obtain ⟨bX, vXp, vXc, rfl, hRS⟩ := hcut
   obtain ⟨aXp, cXp, aXc, cXc, rfl, rfl⟩ := agg_parts hRS.own
   have hb12 : Below w.heap.size w _ := hb9.trans (Below.mono hRS.bel hb9.size)
   have fB12 := fB9.belowAll hRS.bel
   have fW12 := hW.belowAll hRS.bel
   have fWO12 := oW.below hRS.bel
   have fWR12 := owns_below hRS.bel rW
   clear hb9 fB9 hW oW rW 
   have hX := hRS.box
   have oX := hRS.own
   have APX1 := Lib.hid hRS.ap1
   have APX2 := Lib.hid hRS.ap2
   have BGX := Lib.hid hRS.big
   have LTX := Lib.hid hX.lt
   have HIX1 := Lib.hid (Hi.of oX.plan)
   have HIX2 := Lib.hid (Hi.of oX.calls)
   have LOX1 := Lib.hid (Lo.of oX.plan)
   have LOX2 := Lib.hid (Lo.of oX.calls)
   have SZX := Lib.hid (show wc5.heap.size ≤ wc10.heap.size from hRS.bel.size)
   clear hRS
   obtain ⟨bq0, bq1, bq2, bq3, bq4, -, -, -, -, -, bqlt⟩ := fB12.five
   go_wp2_with fail
   refine (toStringS_any _ ls _ (HDS.out.below hb12) HDN.out).mono ?_
   rintro e w13 ⟨gx, rfl, hgx, odx, hq⟩
   have HGX := Lib.hid hgx
   clear hgx
   have SZXD := Lib.hid hq.size
   clear bq0 bq1 bq2 bq3 bq4 bqlt
   have hb14 : Below w.heap.size w _ := hb12.trans (Below.mono hq hb12.size)
   have fB14 := fB12.belowAll hq
   have fW14 := fW12.belowAll hq
   have fWO14 := fWO12.below hq
   have fWR14 := owns_below hq fWR12
   have fX14 := hX.belowAll hq
   have fXO14 := oX.below hq
   clear hb12 fB12 fW12 fWO12 fWR12 hX oX hq
   have LTXD := Lib.hid odx.lt
   go_upto_region 11 with fail
   go_cut [10, 11] (fun tb tx wc15 => ∃ (b : Nat) (vq vr va : Value), tb = .pointer (some ⟨b, 0, none⟩) ∧ tx = va ∧ LnRes w13 wc15 b O' E' M' vq vr va ps' cs' x)
   case first =>
    obtain ⟨xq0, xq1, xq2, xq3, xq4, -, -, -, -, -, xqlt⟩ := fX14.five
    go_wp2_with fail
    refine (KI.out _ _ _ _ fXO14.rd (own_somev fXO14.plan) (Rds.ofOwn odx)).mono ?_
    rintro e w16 ⟨vq16, vr16, va16, rfl, o16, rw16, ap16, hq16⟩
    obtain ⟨aq16, cq16, ar16, cr16, rfl, rfl⟩ := agg_parts o16
    obtain ⟨aa16, ca16, rfl⟩ := own_len9 rw16
    simp only at o16 rw16
    have gex16 := fXO14.below hq16
    have gdl16 := Own.below hq16 odx.lt odx
    have hc16 : Below w13.heap.size w13 _ := (Below.refl w13.heap.size w13).trans (Below.mono hq16 (Below.refl w13.heap.size w13).size)
    have hd16 : Below w.heap.size w _ := hb14.trans (Below.mono hq16 hb14.size)
    have hRS := LnRes.mkA (O := O') (E := E') (M := M') hc16 o16 rw16 ap16 (Below.refl w13.heap.size w13).size
    go_wp2_with fail
    go_meet
    exact ⟨_, _, _, _, rfl, rfl, hRS⟩
   case rest =>
    obtain ⟨wc15, rfl⟩ : ∃ wo : World, wo = wc := ⟨_, rfl⟩
    obtain ⟨bG, vGp, vGc, vGr, rfl, rfl, hLR⟩ := hcut
    have hRS := hLR.res
    have rG := hLR.row
    have APPG := Lib.hid hLR.apP
    obtain ⟨aGr, cGr, rfl⟩ := own_len9 rG
    clear hLR
    obtain ⟨aGp, cGp, aGc, cGc, rfl, rfl⟩ := agg_parts hRS.own
    have hb17 : Below w.heap.size w _ := hb14.trans (Below.mono hRS.bel hb14.size)
    have fB17 := fB14.belowAll hRS.bel
    have fW17 := fW14.belowAll hRS.bel
    have fWO17 := fWO14.below hRS.bel
    have fWR17 := owns_below hRS.bel fWR14
    have fX17 := fX14.belowAll hRS.bel
    have fXO17 := fXO14.below hRS.bel
    have fXD17 := Own.below hRS.bel odx.lt odx
    clear hb14 fB14 fW14 fWO14 fWR14 fX14 fXO14 odx 
    have hG := hRS.box
    have oG := hRS.own
    have APG1 := Lib.hid hRS.ap1
    have APG2 := Lib.hid hRS.ap2
    have BGG := Lib.hid hRS.big
    have LTG := Lib.hid hG.lt
    have HIG1 := Lib.hid (Hi.of oG.plan)
    have HIG2 := Lib.hid (Hi.of oG.calls)
    have LOG1 := Lib.hid (Lo.of oG.plan)
    have LOG2 := Lib.hid (Lo.of oG.calls)
    have SZG := Lib.hid (show w13.heap.size ≤ wc15.heap.size from hRS.bel.size)
    clear hRS
    have HIRG := Lib.hid (Hi.of rG)
    have LORG := Lib.hid (Lo.of rG)
    obtain ⟨gq0, gq1, gq2, gq3, gq4, -, -, -, -, -, gqlt⟩ := hG.five
    obtain ⟨wq0, wq1, wq2, wq3, wq4, -, -, -, -, -, wqlt⟩ := fW17.five
    go_wp2_with fail
    refine (eqExchange_any O' E' M' O' E' M' _ _ _ _ ps' ps' cs' cs' _ oG.rd fWO17.rd).mono ?_
    rintro e w18 ⟨rfl, hq⟩
    rw [decide_eq_true rfl, decide_eq_true rfl, decide_eq_true rfl]
    clear gq0 gq1 gq2 gq3 gq4 gqlt wq0 wq1 wq2 wq3 wq4 wqlt
    have hb19 : Below w.heap.size w _ := hb17.trans (Below.mono hq hb17.size)
    have fB19 := fB17.belowAll hq
    have fW19 := fW17.belowAll hq
    have fWO19 := fWO17.below hq
    have fWR19 := owns_below hq fWR17
    have fX19 := fX17.belowAll hq
    have fXO19 := fXO17.below hq
    have fXD19 := Own.below hq fXD17.lt fXD17
    have fG19 := hG.belowAll hq
    have fGO19 := oG.below hq
    have fGR19 := owns_below hq rG
    clear hb17 fB17 fW17 fWO17 fWR17 fX17 fXO17 fXD17 hG oG rG hq
    obtain ⟨gq0, gq1, gq2, gq3, gq4, -, -, -, -, -, gqlt⟩ := fG19.five
    obtain ⟨wq0, wq1, wq2, wq3, wq4, -, -, -, -, -, wqlt⟩ := fW19.five
    go_wp2_with fail
    refine (eqStringS_any _ _ x x _ (Rds.ofOwns fGR19) (Rds.ofOwns fWR19)).mono ?_
    rintro e w20 ⟨rfl, hq⟩
    rw [decide_eq_true rfl]
    clear gq0 gq1 gq2 gq3 gq4 gqlt wq0 wq1 wq2 wq3 wq4 wqlt
    have hb21 : Below w.heap.size w _ := hb19.trans (Below.mono hq hb19.size)
    have fB21 := fB19.belowAll hq
    have fW21 := fW19.belowAll hq
    have fWO21 := fWO19.below hq
    have fWR21 := owns_below hq fWR19
    have fX21 := fX19.belowAll hq
    have fXO21 := fXO19.below hq
    have fXD21 := Own.below hq fXD19.lt fXD19
    have fG21 := fG19.belowAll hq
    have fGO21 := fGO19.below hq
    have fGR21 := owns_below hq fGR19
    clear hb19 fB19 fW19 fWO19 fWR19 fX19 fXO19 fXD19 fG19 fGO19 fGR19 hq
    obtain ⟨bq0, bq1, bq2, bq3, bq4, -, -, -, -, -, bqlt⟩ := fB21.five
    obtain ⟨xq0, xq1, xq2, xq3, xq4, -, -, -, -, -, xqlt⟩ := fX21.five
    have HC : Hid (∀ w' : World, Below w20.heap.size w20 w' → w'.cell? ⟨w.heap.size, 0, none⟩ = some (.int .i64 O) ∧ w'.cell? ⟨w.heap.size, 1, none⟩ = some (.int .i64 E) ∧ w'.cell? ⟨w.heap.size, 2, none⟩ = some (.int .i64 M) ∧ w'.cell? ⟨w.heap.size, 3, none⟩ = some (.slice a1 ps.length c1) ∧ w'.cell? ⟨w.heap.size, 4, none⟩ = some (.slice a2 cs.length c2) ∧ w'.cell? ⟨bX, 0, none⟩ = some (.int .i64 O) ∧ w'.cell? ⟨bX, 1, none⟩ = some (.int .i64 E) ∧ w'.cell? ⟨bX, 2, none⟩ = some (.int .i64 M) ∧ w'.cell? ⟨bX, 3, none⟩ = some (.slice aXp ps.length cXp) ∧ w'.cell? ⟨bX, 4, none⟩ = some (.slice aXc cs.length cXc)) := fun w' hb => ⟨(hb.cell (p := ⟨w.heap.size, 0, none⟩) bqlt).trans bq0, (hb.cell (p := ⟨w.heap.size, 1, none⟩) bqlt).trans bq1, (hb.cell (p := ⟨w.heap.size, 2, none⟩) bqlt).trans bq2, (hb.cell (p := ⟨w.heap.size, 3, none⟩) bqlt).trans bq3, (hb.cell (p := ⟨w.heap.size, 4, none⟩) bqlt).trans bq4, (hb.cell (p := ⟨bX, 0, none⟩) xqlt).trans xq0, (hb.cell (p := ⟨bX, 1, none⟩) xqlt).trans xq1, (hb.cell (p := ⟨bX, 2, none⟩) xqlt).trans xq2, (hb.cell (p := ⟨bX, 3, none⟩) xqlt).trans xq3, (hb.cell (p := ⟨bX, 4, none⟩) xqlt).trans xq4⟩
    clear bq0 bq1 bq2 bq3 bq4 bqlt xq0 xq1 xq2 xq3 xq4 xqlt
    have hcS : Below w20.heap.size w20 w20.drew := (Below.refl _ _).drew
    have hdS : Below w.heap.size w w20.drew := hb21.drew
    have oEd := fXO21.drewN 1
    go_wp2_with fail
    refine wp_region_held_drew (S := fun w' => w'.cell? ⟨w.heap.size, 0, none⟩ = some (.int .i64 O) ∧ w'.cell? ⟨w.heap.size, 1, none⟩ = some (.int .i64 E) ∧ w'.cell? ⟨w.heap.size, 2, none⟩ = some (.int .i64 M) ∧ w'.cell? ⟨w.heap.size, 3, none⟩ = some (.slice a1 ps.length c1) ∧ w'.cell? ⟨w.heap.size, 4, none⟩ = some (.slice a2 cs.length c2) ∧ w'.cell? ⟨bX, 0, none⟩ = some (.int .i64 O) ∧ w'.cell? ⟨bX, 1, none⟩ = some (.int .i64 E) ∧ w'.cell? ⟨bX, 2, none⟩ = some (.int .i64 M) ∧ w'.cell? ⟨bX, 3, none⟩ = some (.slice aXp ps.length cXp) ∧ w'.cell? ⟨bX, 4, none⟩ = some (.slice aXc cs.length cXc)) (by kernel_rfl) (HC.out _ hcS) (fun hHeld => ?_)
    refine take_y 0 55 (v := ?_) rfl ?_ ?_; rotate_left; focus (intro w hSw; (try dsimp only at hSw); go_simp; (try rw [if_neg (by omega)]); (try with_reducible rfl))
    try simp only [Act.put, zp1, zp2, zp3]
    refine take_y 1 56 (v := ?_) rfl ?_ ?_; rotate_left; focus (intro w hSw; (try dsimp only at hSw); go_simp; (try rw [if_neg (by omega)]); (try with_reducible rfl))
    try simp only [Act.put, zp1, zp2, zp3]
    refine wpAnyH_ready (rs := [2]) (by kernel_rfl) (by simp) ?_
    refine AllReadyH.cons rfl (fun K hK => ?_) AllReadyH.nil
    go_simp
    refine (toExchange_any O E M _ _ ps cs _ (HR.out.below hdS) HPN.out HCN.out).mono ?_
    rintro e w22 ⟨g22, h22, rfl, o22, hq22⟩
    have gox22 := oEd.below hq22
    have hc22 : Below w20.heap.size w20 _ := hcS.trans (Below.mono hq22 hcS.size)
    have hd22 : Below w.heap.size w _ := hdS.trans (Below.mono hq22 hdS.size)
    refine hK.out _ _ (HC.out _ hc22) (fun hHeld2 => ?_)
    clear hHeld hK K; have hHeld := hHeld2; clear hHeld2; try simp only [Act.put, zp1, zp2, zp3]
    refine wpAnyH_ready (rs := [3]) (by kernel_rfl) (by simp) ?_
    refine AllReadyH.cons rfl (fun K hK => ?_) AllReadyH.nil
    go_simp
    refine (eqExchange_any O E M O E M _ _ _ _ ps ps cs cs _ gox22.rd o22.rd).mono ?_
    rintro e w23 ⟨rfl, hq23⟩
    rw [decide_eq_true rfl, decide_eq_true rfl, decide_eq_true rfl]
    have gox23 := gox22.below hq23
    have gex23 := o22.below hq23
    have hc23 : Below w20.heap.size w20 _ := hc22.trans (Below.mono hq23 hc22.size)
    have hd23 : Below w.heap.size w _ := hd22.trans (Below.mono hq23 hd22.size)
    refine hK.out _ _ (HC.out _ hc23) (fun hHeld2 => ?_)
    clear hHeld hK K; have hHeld := hHeld2; clear hHeld2; try simp only [Act.put, zp1, zp2, zp3]
    refine take_y 4 59 (v := ?_) rfl ?_ ?_; rotate_left; focus (intro w hSw; (try dsimp only at hSw); go_simp; (try rw [if_neg (by omega)]); (try with_reducible rfl))
    try simp only [Act.put, zp1, zp2, zp3]
    refine wpAnyH_done (by kernel_rfl) ?_ _
    clear hHeld
    have hb24 : Below w.heap.size w _ := hb21.trans (Below.mono hc23 hb21.size)
    have fB24 := fB21.belowAll hc23
    have fW24 := fW21.belowAll hc23
    have fWO24 := fWO21.below hc23
    have fWR24 := owns_below hc23 fWR21
    have fX24 := fX21.belowAll hc23
    have fXO24 := fXO21.below hc23
    have fXD24 := Own.below hc23 fXD21.lt fXD21
    have fG24 := fG21.belowAll hc23
    have fGO24 := fGO21.below hc23
    have fGR24 := owns_below hc23 fGR21
    clear hb21 fB21 fW21 fWO21 fWR21 fX21 fXO21 fXD21 fG21 fGO21 fGR21 hc23
    obtain ⟨bq0, bq1, bq2, bq3, bq4, -, -, -, -, -, bqlt⟩ := fB24.five
    obtain ⟨xq0, xq1, xq2, xq3, xq4, -, -, -, -, -, xqlt⟩ := fX24.five
    go_wp2_with fail
    refine (toStringS_any _ ls _ (HDS.out.below hb24) HDN.out).mono ?_
    rintro e w25 ⟨gy, rfl, hgy, ody, hq⟩
    clear bq0 bq1 bq2 bq3 bq4 bqlt xq0 xq1 xq2 xq3 xq4 xqlt
    have hb27 : Below w.heap.size w _ := hb24.trans (Below.mono hq hb24.size)
    have fB27 := fB24.belowAll hq
    have fW27 := fW24.belowAll hq
    have fWO27 := fWO24.below hq
    have fWR27 := owns_below hq fWR24
    have fX27 := fX24.belowAll hq
    have fXO27 := fXO24.below hq
    have fXD27 := Own.below hq fXD24.lt fXD24
    have fG27 := fG24.belowAll hq
    have fGO27 := fGO24.below hq
    have fGR27 := owns_below hq fGR24
    clear hb24 fB24 fW24 fWO24 fWR24 fX24 fXO24 fXD24 fG24 fGO24 fGR24 hq
    obtain ⟨bq0, bq1, bq2, bq3, bq4, -, -, -, -, -, bqlt⟩ := fB27.five
    obtain ⟨xq0, xq1, xq2, xq3, xq4, -, -, -, -, -, xqlt⟩ := fX27.five
    go_wp2_with fail
    refine (eqStringS_any _ _ ls ls _ (Rds.ofOwn fXD27) (Rds.ofOwn ody)).mono ?_
    rintro e w26 ⟨rfl, hq⟩
    rw [decide_eq_true rfl]
    clear ody hgy
    clear bq0 bq1 bq2 bq3 bq4 bqlt xq0 xq1 xq2 xq3 xq4 xqlt
    have hb28 : Below w.heap.size w _ := hb27.trans (Below.mono hq hb27.size)
    have fB28 := fB27.belowAll hq
    have fW28 := fW27.belowAll hq
    have fWO28 := fWO27.below hq
    have fWR28 := owns_below hq fWR27
    have fX28 := fX27.belowAll hq
    have fXO28 := fXO27.below hq
    have fXD28 := Own.below hq fXD27.lt fXD27
    have fG28 := fG27.belowAll hq
    have fGO28 := fGO27.below hq
    have fGR28 := owns_below hq fGR27
    clear hb27 fB27 fW27 fWO27 fWR27 fX27 fXO27 fXD27 fG27 fGO27 fGR27 hq
    have NW := LTW.out
    have NG := BGG.out
    have NS := HSTART.out
    have SW := SZW.out
    have NX := LTX.out
    have SX := SZX.out
    have NXD := LTXD.out
    have GX := HGX.out
    have SXD := SZXD.out
    obtain ⟨xq0, xq1, xq2, xq3, xq4, -, -, -, -, -, xqlt⟩ := fX28.five
    go_wp2_with fail
    refine (markExchange_any O E M _ _ _ ps cs 1 _ fXO28 (by omega) (by omega) (by first | omega | (have := HPN.out; omega)) (by first | omega | (have := HCN.out; omega))).mono ?_
    rintro e w29 ⟨rfl, om29, hg29⟩
    clear xq0 xq1 xq2 xq3 xq4 xqlt
    have HB1 := HIX1.out
    have HB2 := HIX2.out
    have LB1 := LOX1.out
    have LB2 := LOX2.out
    have hb29 : Below w.heap.size w _ := Below.gb2 hb28 hg29 hb28.size (HB1.mono (by omega)) (HB2.mono (by omega))
    have fB29 := fB28.gb2 hg29 (HB1.ne (by omega)) (HB2.ne (by omega))
    have fW29 := fW28.gb2 hg29 (HB1.ne (by omega)) (HB2.ne (by omega))
    have fWO29 := fWO28.kept2 hg29 ((LOW1.out.mono (by omega)).apart HB1) ((LOW2.out.mono (by omega)).apart HB1) ((LOW1.out.mono (by omega)).apart HB2) ((LOW2.out.mono (by omega)).apart HB2)
    have fWR29 := owns_kept2 hg29 ((LORW.out.mono (by omega)).apart HB1) ((LORW.out.mono (by omega)).apart HB2) fWR28
    have fX29 := fX28.gb2 hg29 (ap_ne APX1.out) (ap_ne APX2.out)
    have fXO29 := om29
    have hxd : Hi (.slice (some ⟨gx, 0, none⟩) ls.length ls.length) gx := fun k hk => by cases hk; exact Nat.le_refl _
    have fXD29 := (Own.of (owns_kept2 hg29 ((hxd.mono (by omega)).apart LB1) ((hxd.mono (by omega)).apart LB2) (fXD28.back (Nat.le_refl _)))).1
    clear hxd
    have fG29 := fG28.gb2 hg29 (LB1.ne (by omega)) (LB2.ne (by omega))
    have fGO29 := fGO28.kept2 hg29 ((HIG1.out.mono (by omega)).apart LB1) ((HIG2.out.mono (by omega)).apart LB1) ((HIG1.out.mono (by omega)).apart LB2) ((HIG2.out.mono (by omega)).apart LB2)
    have fGR29 := owns_kept2 hg29 ((HIRG.out.mono (by omega)).apart LB1) ((HIRG.out.mono (by omega)).apart LB2) fGR28
    clear hg29 om29 HB1 HB2 LB1 LB2 hb28 fB28 fW28 fWO28 fWR28 fX28 fXO28 fXD28 fG28 fGO28 fGR28
    clear fX29 fXO29
    go_wp2_with fail
    refine (markStrsB_any gx _ ls.length ls (1 + ps.length + 3 * cs.length) _ (fXD29.back (Nat.le_refl _)) (by omega) (by have := HPN.out; have := HCN.out; omega) (by have := HDN.out; omega)).mono ?_
    rintro e w30 ⟨rfl, -, hg30⟩
    have hxl : Lo (.slice (some ⟨gx, 0, none⟩) ls.length ls.length) (gx + 1) := fun k hk => by cases hk; exact Nat.lt_succ_self _
    have hxh : Hi (.slice (some ⟨gx, 0, none⟩) ls.length ls.length) gx := fun k hk => by cases hk; exact Nat.le_refl _
    have hb30 : Below w.heap.size w _ := hb29.grown hg30 hb29.size (hxh.mono (by omega))
    have fB30 := Blk.gbr hg30 (hxh.ne (by omega)) fB29
    have fW30 := Blk.gbr hg30 (hxh.ne (by omega)) fW29
    have fWO30 := fWO29.kept hg30 ((LOW1.out.mono (by omega)).apart hxh) ((LOW2.out.mono (by omega)).apart hxh)
    have fWR30 := fWR29.kept hg30 ((LORW.out.mono (by omega)).apart hxh)
    have fG30 := Blk.gbr hg30 (hxl.ne (by omega)) fG29
    have fGO30 := fGO29.kept hg30 ((HIG1.out.mono (by omega)).apart hxl) ((HIG2.out.mono (by omega)).apart hxl)
    have fGR30 := fGR29.kept hg30 ((HIRG.out.mono (by omega)).apart hxl)
    clear hg30 hxl hxh hb29 fXD29 fB29 fW29 fWO29 fWR29 fG29 fGO29 fGR29
    have hk8 : ¬ ((1 + ps.length + 3 * cs.length + ls.length : Nat) : Int) < 0 := by omega
    clear NW NG NS SW NX SX NXD GX SXD
    obtain ⟨gq0, gq1, gq2, gq3, gq4, -, -, -, -, -, gqlt⟩ := fG30.five
    obtain ⟨wq0, wq1, wq2, wq3, wq4, -, -, -, -, -, wqlt⟩ := fW30.five
    go_wp2_with fail
    refine (eqExchange_any O' E' M' O' E' M' _ _ _ _ ps' ps' cs' cs' _ fGO30.rd fWO30.rd).mono ?_
    rintro e w31 ⟨rfl, hq⟩
    rw [decide_eq_true rfl, decide_eq_true rfl, decide_eq_true rfl]
    clear gq0 gq1 gq2 gq3 gq4 gqlt wq0 wq1 wq2 wq3 wq4 wqlt
    have hb32 : Below w.heap.size w _ := hb30.trans (Below.mono hq hb30.size)
    have fB32 := fB30.belowAll hq
    have fW32 := fW30.belowAll hq
    have fWO32 := fWO30.below hq
    have fWR32 := owns_below hq fWR30
    have fG32 := fG30.belowAll hq
    have fGO32 := fGO30.below hq
    have fGR32 := owns_below hq fGR30
    clear hb30 fB30 fW30 fWO30 fWR30 fG30 fGO30 fGR30 hq
    obtain ⟨gq0, gq1, gq2, gq3, gq4, -, -, -, -, -, gqlt⟩ := fG32.five
    obtain ⟨wq0, wq1, wq2, wq3, wq4, -, -, -, -, -, wqlt⟩ := fW32.five
    go_wp2_with fail
    refine (eqStringS_any _ _ x x _ (Rds.ofOwns fGR32) (Rds.ofOwns fWR32)).mono ?_
    rintro e w33 ⟨rfl, hq⟩
    rw [decide_eq_true rfl]
    clear gq0 gq1 gq2 gq3 gq4 gqlt wq0 wq1 wq2 wq3 wq4 wqlt
    have hb34 : Below w.heap.size w _ := hb32.trans (Below.mono hq hb32.size)
    have fB34 := fB32.belowAll hq
    have fW34 := fW32.belowAll hq
    have fWO34 := fWO32.below hq
    have fWR34 := owns_below hq fWR32
    have fG34 := fG32.belowAll hq
    have fGO34 := fGO32.below hq
    have fGR34 := owns_below hq fGR32
    clear hb32 fB32 fW32 fWO32 fWR32 fG32 fGO32 fGR32 hq
    clear hk8
    have NW := LTW.out
    have NG := BGG.out
    have NS := HSTART.out
    have SW := SZW.out
    have NX := LTX.out
    have SX := SZX.out
    have NXD := LTXD.out
    have GX := HGX.out
    have SXD := SZXD.out
    obtain ⟨gq0, gq1, gq2, gq3, gq4, -, -, -, -, -, gqlt⟩ := fG34.five
    go_wp2_with fail
    refine (markExchange_any O' E' M' _ _ _ ps' cs' 1 _ fGO34 (by omega) (by omega) (by first | omega | (have := HPN.out; omega)) (by first | omega | (have := HCN.out; omega))).mono ?_
    rintro e w35 ⟨rfl, om35, hg35⟩
    clear gq0 gq1 gq2 gq3 gq4 gqlt
    have HB1 := HIG1.out
    have HB2 := HIG2.out
    have LB1 := LOG1.out
    have LB2 := LOG2.out
    have hb35 : Below w.heap.size w _ := Below.gb2 hb34 hg35 hb34.size (HB1.mono (by omega)) (HB2.mono (by omega))
    have fB35 := fB34.gb2 hg35 (HB1.ne (by omega)) (HB2.ne (by omega))
    have fW35 := fW34.gb2 hg35 (HB1.ne (by omega)) (HB2.ne (by omega))
    have fWO35 := fWO34.kept2 hg35 ((LOW1.out.mono (by omega)).apart HB1) ((LOW2.out.mono (by omega)).apart HB1) ((LOW1.out.mono (by omega)).apart HB2) ((LOW2.out.mono (by omega)).apart HB2)
    have fWR35 := owns_kept2 hg35 ((LORW.out.mono (by omega)).apart HB1) ((LORW.out.mono (by omega)).apart HB2) fWR34
    have fG35 := fG34.gb2 hg35 (ap_ne APG1.out) (ap_ne APG2.out)
    have fGO35 := om35
    have fGR35 := owns_kept2 hg35 (ap_sym APPG.out) (own_2 fGR34 fGO34.calls (by decide)) fGR34
    clear hg35 om35 HB1 HB2 LB1 LB2 hb34 fB34 fW34 fWO34 fWR34 fG34 fGO34 fGR34
    clear NW NG NS SW NX SX NXD GX SXD
    go_wp2_with fail
    refine (markStrs_any _ _ x.length x (1 + ps'.length + 3 * cs'.length) _ fGR35 (by omega) (by omega) (by omega)).mono ?_
    rintro e w36 ⟨rfl, om36, hg36⟩
    have NW := LTW.out
    have NG := BGG.out
    have NS := HSTART.out
    have SW := SZW.out
    have NX := LTX.out
    have SX := SZX.out
    have NXD := LTXD.out
    have GX := HGX.out
    have SXD := SZXD.out
    have hb36 : Below w.heap.size w _ := hb35.grown hg36 hb35.size (HIRG.out.mono (by omega))
    have fB36 := Blk.gbr hg36 (HIRG.out.ne (by omega)) fB35
    have fW36 := Blk.gbr hg36 (HIRG.out.ne (by omega)) fW35
    have fWO36 := fWO35.kept hg36 ((LOW1.out.mono (by omega)).apart HIRG.out) ((LOW2.out.mono (by omega)).apart HIRG.out)
    have fWR36 := fWR35.kept hg36 ((LORW.out.mono (by omega)).apart HIRG.out)
    have fG36 := Blk.gbr hg36 (ap_ne (own_ty fGR35 fG35 (by decide))) fG35
    have fGO36 := fGO35.kept hg36 APPG.out (own_2 fGO35.calls fGR35 (by decide))
    have fGR36 := om36
    clear hg36 om36 hb35 fB35 fW35 fWO35 fWR35 fG35 fGO35 fGR35
    clear NW NG NS SW NX SX NXD GX SXD
    obtain ⟨gq0, gq1, gq2, gq3, gq4, -, -, -, -, -, gqlt⟩ := fG36.five
    go_wp2_with fail
    refine (heldExchange_any O' E' M' _ _ ps'.length cs'.length 1 _ fGO36.rd (by omega) (by omega) (by omega) (by omega)).mono ?_
    rintro e w37 ⟨rfl, hq⟩
    clear gq0 gq1 gq2 gq3 gq4 gqlt
    have hb38 : Below w.heap.size w _ := hb36.trans (Below.mono hq hb36.size)
    have fB38 := fB36.belowAll hq
    have fW38 := fW36.belowAll hq
    have fWO38 := fWO36.below hq
    have fWR38 := owns_below hq fWR36
    have fG38 := fG36.belowAll hq
    have fGO38 := fGO36.below hq
    have fGR38 := owns_below hq fGR36
    clear hb36 fB36 fW36 fWO36 fWR36 fG36 fGO36 fGR36 hq
    have hkc : ¬ ((1 + ps'.length + 3 * cs'.length : Nat) : Int) < 0 := by omega
    obtain ⟨gq0, gq1, gq2, gq3, gq4, -, -, -, -, -, gqlt⟩ := fG38.five
    go_wp2_with fail
    refine (heldStrs_any _ x.length (1 + ps'.length + 3 * cs'.length) _ (Rds.ofOwns fGR38) (by omega) (by omega) (by omega)).mono ?_
    rintro e w39 ⟨rfl, hq⟩
    clear hkc
    clear gq0 gq1 gq2 gq3 gq4 gqlt
    have hb40 : Below w.heap.size w _ := hb38.trans (Below.mono hq hb38.size)
    have fB40 := fB38.belowAll hq
    have fW40 := fW38.belowAll hq
    have fWO40 := fWO38.below hq
    have fWR40 := owns_below hq fWR38
    have fG40 := fG38.belowAll hq
    have fGO40 := fGO38.below hq
    have fGR40 := owns_below hq fGR38
    clear hb38 fB38 fW38 fWO38 fWR38 fG38 fGO38 fGR38 hq
    have hkb : ¬ ((1 + ps'.length + 3 * cs'.length + x.length : Nat) : Int) < 0 := by omega
    have hqb : (((1 + ps'.length + 3 * cs'.length + x.length : Nat) : Int) != ((1 + ps'.length + 3 * cs'.length + x.length : Nat) : Int)) = false := by simp
    go_upto_region 35 with fail
    go_cut [15, 16] (fun tb tx wc41 => ∃ (b : Nat) (vq vr va : Value), tb = .pointer (some ⟨b, 0, none⟩) ∧ tx = va ∧ LnRes w39 wc41 b O' E' M' vq vr va ps' cs' x)
    case first =>
     obtain ⟨bq0, bq1, bq2, bq3, bq4, -, -, -, -, -, bqlt⟩ := fB40.five
     go_wp2_with fail
     refine (toExchange_any O E M _ _ ps cs _ (HR.out.below hb40) HPN.out HCN.out).mono ?_
     rintro e w42 ⟨g42, h42, rfl, o42, hq42⟩
     have hc42 : Below w39.heap.size w39 _ := (Below.refl w39.heap.size w39).trans (Below.mono hq42 (Below.refl w39.heap.size w39).size)
     have hd42 : Below w.heap.size w _ := hb40.trans (Below.mono hq42 hb40.size)
     go_wp2_with fail
     refine (toStringS_any _ ls _ (HDS.out.below hd42) HDN.out).mono ?_
     rintro e w43 ⟨gd43, rfl, hgd43, od43, hq43⟩
     have gex43 := o42.below hq43
     have hc43 : Below w39.heap.size w39 _ := hc42.trans (Below.mono hq43 hc42.size)
     have hd43 : Below w.heap.size w _ := hd42.trans (Below.mono hq43 hd42.size)
     go_wp2_with fail
     refine (KI.out _ _ _ _ gex43.rd (own_somev gex43.plan) (Rds.ofOwn od43)).mono ?_
     rintro e w44 ⟨vq44, vr44, va44, rfl, o44, rw44, ap44, hq44⟩
     obtain ⟨aq44, cq44, ar44, cr44, rfl, rfl⟩ := agg_parts o44
     obtain ⟨aa44, ca44, rfl⟩ := own_len9 rw44
     simp only at o44 rw44
     have gex44 := gex43.below hq44
     have gdl44 := Own.below hq44 od43.lt od43
     have hc44 : Below w39.heap.size w39 _ := hc43.trans (Below.mono hq44 hc43.size)
     have hd44 : Below w.heap.size w _ := hd43.trans (Below.mono hq44 hd43.size)
     have hRS := LnRes.mkA (O := O') (E := E') (M := M') hc44 o44 rw44 ap44 hc43.size
     go_wp2_with fail
     go_meet
     exact ⟨_, _, _, _, rfl, rfl, hRS⟩
    case rest =>
     obtain ⟨wc41, rfl⟩ : ∃ wo : World, wo = wc := ⟨_, rfl⟩
     obtain ⟨bH, vHp, vHc, vHr, rfl, rfl, hLR⟩ := hcut
     have hRS := hLR.res
     have rH := hLR.row
     have APPH := Lib.hid hLR.apP
     obtain ⟨aHr, cHr, rfl⟩ := own_len9 rH
     clear hLR
     obtain ⟨aHp, cHp, aHc, cHc, rfl, rfl⟩ := agg_parts hRS.own
     have hb45 : Below w.heap.size w _ := hb40.trans (Below.mono hRS.bel hb40.size)
     have fB45 := fB40.belowAll hRS.bel
     have fW45 := fW40.belowAll hRS.bel
     have fWO45 := fWO40.below hRS.bel
     have fWR45 := owns_below hRS.bel fWR40
     have fG45 := fG40.belowAll hRS.bel
     have fGO45 := fGO40.below hRS.bel
     have fGR45 := owns_below hRS.bel fGR40
     clear hb40 fB40 fW40 fWO40 fWR40 fG40 fGO40 fGR40 
     have hH := hRS.box
     have oH := hRS.own
     have APH1 := Lib.hid hRS.ap1
     have APH2 := Lib.hid hRS.ap2
     have BGH := Lib.hid hRS.big
     have LTH := Lib.hid hH.lt
     have HIH1 := Lib.hid (Hi.of oH.plan)
     have HIH2 := Lib.hid (Hi.of oH.calls)
     have LOH1 := Lib.hid (Lo.of oH.plan)
     have LOH2 := Lib.hid (Lo.of oH.calls)
     have SZH := Lib.hid (show w39.heap.size ≤ wc41.heap.size from hRS.bel.size)
     clear hRS
     have HIRH := Lib.hid (Hi.of rH)
     have LORH := Lib.hid (Lo.of rH)
     obtain ⟨hq0, hq1, hq2, hq3, hq4, -, -, -, -, -, hqlt⟩ := hH.five
     obtain ⟨wq0, wq1, wq2, wq3, wq4, -, -, -, -, -, wqlt⟩ := fW45.five
     go_wp2_with fail
     refine (eqExchange_any O' E' M' O' E' M' _ _ _ _ ps' ps' cs' cs' _ oH.rd fWO45.rd).mono ?_
     rintro e w46 ⟨rfl, hq⟩
     rw [decide_eq_true rfl, decide_eq_true rfl, decide_eq_true rfl]
     clear hq0 hq1 hq2 hq3 hq4 hqlt wq0 wq1 wq2 wq3 wq4 wqlt
     have hb47 : Below w.heap.size w _ := hb45.trans (Below.mono hq hb45.size)
     have fB47 := fB45.belowAll hq
     have fW47 := fW45.belowAll hq
     have fWO47 := fWO45.below hq
     have fWR47 := owns_below hq fWR45
     have fG47 := fG45.belowAll hq
     have fGO47 := fGO45.below hq
     have fGR47 := owns_below hq fGR45
     have fH47 := hH.belowAll hq
     have fHO47 := oH.below hq
     have fHR47 := owns_below hq rH
     clear hb45 fB45 fW45 fWO45 fWR45 fG45 fGO45 fGR45 hH oH rH hq
     obtain ⟨hq0, hq1, hq2, hq3, hq4, -, -, -, -, -, hqlt⟩ := fH47.five
     obtain ⟨wq0, wq1, wq2, wq3, wq4, -, -, -, -, -, wqlt⟩ := fW47.five
     go_wp2_with fail
     refine (eqStringS_any _ _ x x _ (Rds.ofOwns fHR47) (Rds.ofOwns fWR47)).mono ?_
     rintro e w48 ⟨rfl, hq⟩
     rw [decide_eq_true rfl]
     clear hq0 hq1 hq2 hq3 hq4 hqlt wq0 wq1 wq2 wq3 wq4 wqlt
     have hb49 : Below w.heap.size w _ := hb47.trans (Below.mono hq hb47.size)
     have fB49 := fB47.belowAll hq
     have fW49 := fW47.belowAll hq
     have fWO49 := fWO47.below hq
     have fWR49 := owns_below hq fWR47
     have fG49 := fG47.belowAll hq
     have fGO49 := fGO47.below hq
     have fGR49 := owns_below hq fGR47
     have fH49 := fH47.belowAll hq
     have fHO49 := fHO47.below hq
     have fHR49 := owns_below hq fHR47
     clear hb47 fB47 fW47 fWO47 fWR47 fG47 fGO47 fGR47 fH47 fHO47 fHR47 hq
     obtain ⟨gq0, gq1, gq2, gq3, gq4, -, -, -, -, -, gqlt⟩ := fG49.five
     go_wp2_with fail
     refine (heldExchange_any O' E' M' _ _ ps'.length cs'.length 1 _ fGO49.rd (by omega) (by omega) (by omega) (by omega)).mono ?_
     rintro e w50 ⟨rfl, hq⟩
     clear gq0 gq1 gq2 gq3 gq4 gqlt
     have hb51 : Below w.heap.size w _ := hb49.trans (Below.mono hq hb49.size)
     have fB51 := fB49.belowAll hq
     have fW51 := fW49.belowAll hq
     have fWO51 := fWO49.below hq
     have fWR51 := owns_below hq fWR49
     have fG51 := fG49.belowAll hq
     have fGO51 := fGO49.below hq
     have fGR51 := owns_below hq fGR49
     have fH51 := fH49.belowAll hq
     have fHO51 := fHO49.below hq
     have fHR51 := owns_below hq fHR49
     clear hb49 fB49 fW49 fWO49 fWR49 fG49 fGO49 fGR49 fH49 fHO49 fHR49 hq
     have hkc : ¬ ((1 + ps'.length + 3 * cs'.length : Nat) : Int) < 0 := by omega
     obtain ⟨gq0, gq1, gq2, gq3, gq4, -, -, -, -, -, gqlt⟩ := fG51.five
     go_wp2_with fail
     refine (heldStrs_any _ x.length (1 + ps'.length + 3 * cs'.length) _ (Rds.ofOwns fGR51) (by omega) (by omega) (by omega)).mono ?_
     rintro e w52 ⟨rfl, hq⟩
     clear hkc
     clear gq0 gq1 gq2 gq3 gq4 gqlt
     have hb53 : Below w.heap.size w _ := hb51.trans (Below.mono hq hb51.size)
     have fB53 := fB51.belowAll hq
     have fW53 := fW51.belowAll hq
     have fWO53 := fWO51.below hq
     have fWR53 := owns_below hq fWR51
     have fG53 := fG51.belowAll hq
     have fGO53 := fGO51.below hq
     have fGR53 := owns_below hq fGR51
     have fH53 := fH51.belowAll hq
     have fHO53 := fHO51.below hq
     have fHR53 := owns_below hq fHR51
     clear hb51 fB51 fW51 fWO51 fWR51 fG51 fGO51 fGR51 fH51 fHO51 fHR51 hq
     go_wp2
     go_returns
     exact ⟨rfl, hb53⟩

end Go.Proofs.YtedadhoneebfnaaGreatDoor
