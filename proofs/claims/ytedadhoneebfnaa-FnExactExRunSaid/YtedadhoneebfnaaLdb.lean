/- The walk of the exact law of ExRun (printed by gen_law.py). -/
import Derived.Test.YtedadhoneebfnaaJ10
import Derived.Test.YtedadhoneebfnaaRy
set_option linter.unusedSimpArgs false
set_option linter.unusedVariables false
namespace Go.Proofs.Ytedadhoneebfnaa
open Go.RowKit


set_option maxRecDepth 100000 in
set_option maxHeartbeats 16000000 in
theorem exExRun (O E M : Int) (vp vc : Value) (ps : List ByteArray) (cs : List Cl) (vd : Value) (ds : List Dd) (w : World) (hR : ExRd w vp vc ps cs) (hL : StLen ps) (hD : Rds w vd ds.length 3 (dcells ds)) (hDL : DdLen ds) :
    Calls Try.prog 16 #[.agg #[.int .i64 O, .int .i64 E, .int .i64 M, vp, vc], vd] w fun e w' => e = .returned (.bool true) ∧ Below w.heap.size w w' := by
  have hB0 := Blk.new (w := w) (cs := #[.int .i64 O, .int .i64 E, .int .i64 M, vp, vc]) (T := 27) rfl
  have hb0 : Below w.heap.size w (w.alloc (.cells #[.int .i64 O, .int .i64 E, .int .i64 M, vp, vc] 27)) := by (repeat' (first | (with_reducible exact Below.refl _ _) | (with_reducible assumption) | (with_reducible refine Below.drew ?_) | (with_reducible refine below_drewN ?_ _) | (with_reducible refine Below.alloc ?_ ?_ _) | (with_reducible refine Below.setCell ?_ ?_ _) | (refine Below.trans ?_ (Below.mono (by assumption) (by first | omega | (with_reducible exact Below.size (by assumption)) | (simp; done) | (simp; omega)))) | (with_reducible exact Nat.le_refl _) | omega | (with_reducible exact Below.size (by assumption)) | (simp only [World.size_alloc, World.size_setCell, World.size_drew]; omega) | (simp; done) | (simp; omega)))
  have HR := Lib.hid hR
  have HL := Lib.hid hL
  obtain ⟨_, _, a1, c1, rfl, _⟩ := hR.plan
  obtain ⟨_, _, a2, c2, rfl, _⟩ := hR.calls
  obtain ⟨⟨⟨O', E', M'⟩, ⟨ps', cs'⟩, x⟩, hr⟩ : ∃ r : (Int × Int × Int) × (List ByteArray × List Cl) × Nat, runX O E M ps cs ds = r := ⟨_, rfl⟩
  have hsm := runX_small O E M ps cs ds
  rw [hr] at hsm
  obtain ⟨hsm1, hsm2⟩ := hsm
  simp only at hsm1 hsm2
  have KS : Hid (∀ (vp vc vd : Value) (W : World), ExRd W vp vc ps cs → SomeV vp ps.length → Rds W vd ds.length 3 (dcells ds) → Calls Try.prog 59 #[.agg #[.int .i64 O, .int .i64 E, .int .i64 M, vp, vc], vd] W (ExR O' E' M' ps' cs' (.int .i64 (x : Nat)) W)) := fun vp vc vd W h1 h2 h3 => (sExRun_any O E M vp vc vd ps cs ds W h1 h2 hL h3 hDL).mono fun e w' h => (by have := RunPost.res h; rw [hr] at this; exact this)
  have KI : Hid (∀ (vp vc vd : Value) (W : World), ExRd W vp vc ps cs → SomeV vp ps.length → Rds W vd ds.length 3 (dcells ds) → Calls Try.prog 56 #[.agg #[.int .i64 O, .int .i64 E, .int .i64 M, vp, vc], vd] W (ExR O' E' M' ps' cs' (.int .i64 (x : Nat)) W)) := fun vp vc vd W h1 h2 h3 => (iExRun_any O E M vp vc vd ps cs ds W h1 h2 hL h3 hDL).mono fun e w' h => (by have := RunPost.res h; rw [hr] at this; exact this)
  have HDS := Lib.hid hD
  have hds : ∀ d ∈ ds, d.2.2.size ≤ maxLen := fun d hd => by obtain ⟨j, hj⟩ := List.mem_iff_getElem?.1 hd; exact hDL j d hj
  have HDM := Lib.hid hds
  obtain ⟨_, hdm, a3, c3, rfl, hdn, _⟩ := hD
  unfold maxLen at hdm
  clear hds hDL
  clear hR hL hr
  go_enter Try.func16, Try.ntmps16
  obtain ⟨bq0, bq1, bq2, bq3, bq4, -, -, -, -, -, bqlt⟩ := hB0.five
  go_wp2_with fail
  refine (szExchange_any O E M _ _ ps cs _ (HR.out.below hb0) HL.out).mono ?_
  rintro e w1 ⟨z, rfl, hz0, hz1, hz2, hq⟩
  clear bq0 bq1 bq2 bq3 bq4 bqlt
  have hb3 : Below w.heap.size w _ := hb0.trans (Below.mono hq hb0.size)
  have fB3 := hB0.belowAll hq
  clear hb0 hB0 hq
  by_cases hz : 0 ≤ z
  case neg =>
    clear hz2
    go_wp2
    go_returns
    exact ⟨rfl, hb3⟩
  obtain ⟨hpn, hcn⟩ := hz2 hz
  have HPN := Lib.hid hpn
  have HCN := Lib.hid hcn
  clear hz2 hpn hcn
  obtain ⟨bq0, bq1, bq2, bq3, bq4, -, -, -, -, -, bqlt⟩ := fB3.five
  go_wp2_with fail
  refine (szExDeedS_any _ ds z _ (HDS.out.below hb3) HDM.out hz hz1).mono ?_
  rintro e w2 ⟨z2, rfl, hzn, hq⟩
  have HZN := Lib.hid hzn
  clear hzn
  clear bq0 bq1 bq2 bq3 bq4 bqlt
  have hb4 : Below w.heap.size w _ := hb3.trans (Below.mono hq hb3.size)
  have fB4 := fB3.belowAll hq
  clear hb3 fB3 hq
  by_cases hy : 0 ≤ z2
  case neg =>
    go_wp2
    go_returns
    exact ⟨rfl, hb4⟩
  have HDN := Lib.hid (HZN.out hy)
  have HSTART := Lib.hid (show w.heap.size + 1 ≤ w2.heap.size from fB4.lt)
  go_upto_region 8 with fail
  go_cut [6, 7] (fun tb tx wc5 => ∃ (b : Nat) (vq vr : Value), tb = .pointer (some ⟨b, 0, none⟩) ∧ tx = .int .i64 (x : Nat) ∧ ExRes w2 wc5 b O' E' M' vq vr ps' cs')
  case first =>
    obtain ⟨bq0, bq1, bq2, bq3, bq4, -, -, -, -, -, bqlt⟩ := fB4.five
    go_wp2_with fail
    refine (toExchange_any O E M _ _ ps cs _ (HR.out.below hb4) HPN.out HCN.out).mono ?_
    rintro e w6 ⟨g6, h6, rfl, o6, hq6⟩
    have hc6 : Below w2.heap.size w2 _ := (Below.refl w2.heap.size w2).trans (Below.mono hq6 (Below.refl w2.heap.size w2).size)
    have hd6 : Below w.heap.size w _ := hb4.trans (Below.mono hq6 hb4.size)
    go_wp2_with fail
    refine (toExDeedS_any _ ds _ (HDS.out.below hd6) HDN.out).mono ?_
    rintro e w7 ⟨gd7, rfl, hgd7, od7, hq7⟩
    have gex7 := o6.below hq7
    have hc7 : Below w2.heap.size w2 _ := hc6.trans (Below.mono hq7 hc6.size)
    have hd7 : Below w.heap.size w _ := hd6.trans (Below.mono hq7 hd6.size)
    go_wp2_with fail
    refine (KS.out _ _ _ _ gex7.rd (own_somev gex7.plan) (Rds.ofOwn od7)).mono ?_
    rintro e w8 ⟨vq8, vr8, rfl, o8, hq8⟩
    obtain ⟨aq8, cq8, ar8, cr8, rfl, rfl⟩ := agg_parts o8
    have gex8 := gex7.below hq8
    have gdl8 := Own.below hq8 od7.lt od7
    have hc8 : Below w2.heap.size w2 _ := hc7.trans (Below.mono hq8 hc7.size)
    have hd8 : Below w.heap.size w _ := hd7.trans (Below.mono hq8 hd7.size)
    have hRS := ExRes.mkA (O := O') (E := E') (M := M') hc8 o8 hc7.size
    go_wp2_with fail
    go_meet
    exact ⟨_, _, _, rfl, rfl, hRS⟩
  case rest =>
    obtain ⟨wc5, rfl⟩ : ∃ wo : World, wo = wc := ⟨_, rfl⟩
    obtain ⟨bW, vWp, vWc, rfl, rfl, hRS⟩ := hcut
    obtain ⟨aWp, cWp, aWc, cWc, rfl, rfl⟩ := agg_parts hRS.own
    have hb9 : Below w.heap.size w _ := hb4.trans (Below.mono hRS.bel hb4.size)
    have fB9 := fB4.belowAll hRS.bel
    clear hb4 fB4 
    have hW := hRS.box
    have oW := hRS.own
    have APW1 := Lib.hid hRS.ap1
    have APW2 := Lib.hid hRS.ap2
    have BGW := Lib.hid hRS.big
    have LTW := Lib.hid hW.lt
    have HIW1 := Lib.hid (Hi.of oW.plan)
    have HIW2 := Lib.hid (Hi.of oW.calls)
    have LOW1 := Lib.hid (Lo.of oW.plan)
    have LOW2 := Lib.hid (Lo.of oW.calls)
    have SZW := Lib.hid (show w2.heap.size ≤ wc5.heap.size from hRS.bel.size)
    clear hRS
    go_upto_region 9 with fail
    go_cut [8] (fun tb wc10 => ∃ (b : Nat) (vq vr : Value), tb = .pointer (some ⟨b, 0, none⟩) ∧ ExRes wc5 wc10 b O E M vq vr ps cs)
    case first =>
      obtain ⟨bq0, bq1, bq2, bq3, bq4, -, -, -, -, -, bqlt⟩ := fB9.five
      go_wp2_with fail
      refine (toExchange_any O E M _ _ ps cs _ (HR.out.below hb9) HPN.out HCN.out).mono ?_
      rintro e w11 ⟨g11, h11, rfl, o11, hq11⟩
      have hc11 : Below wc5.heap.size wc5 _ := (Below.refl wc5.heap.size wc5).trans (Below.mono hq11 (Below.refl wc5.heap.size wc5).size)
      have hd11 : Below w.heap.size w _ := hb9.trans (Below.mono hq11 hb9.size)
      have hRS := ExRes.mkA (O := O) (E := E) (M := M) hc11 o11 (Nat.le_refl _)
      go_wp2_with fail
      go_meet
      exact ⟨_, _, _, rfl, hRS⟩
    case rest =>
      obtain ⟨wc10, rfl⟩ : ∃ wo : World, wo = wc := ⟨_, rfl⟩
      obtain ⟨bX, vXp, vXc, rfl, hRS⟩ := hcut
      obtain ⟨aXp, cXp, aXc, cXc, rfl, rfl⟩ := agg_parts hRS.own
      have hb12 : Below w.heap.size w _ := hb9.trans (Below.mono hRS.bel hb9.size)
      have fB12 := fB9.belowAll hRS.bel
      have fW12 := hW.belowAll hRS.bel
      have fWO12 := oW.below hRS.bel
      clear hb9 fB9 hW oW 
      have hX := hRS.box
      have oX := hRS.own
      have APX1 := Lib.hid hRS.ap1
      have APX2 := Lib.hid hRS.ap2
      have BGX := Lib.hid hRS.big
      have LTX := Lib.hid hX.lt
      have HIX1 := Lib.hid (Hi.of oX.plan)
      have HIX2 := Lib.hid (Hi.of oX.calls)
      have LOX1 := Lib.hid (Lo.of oX.plan)
      have LOX2 := Lib.hid (Lo.of oX.calls)
      have SZX := Lib.hid (show wc5.heap.size ≤ wc10.heap.size from hRS.bel.size)
      clear hRS
      obtain ⟨bq0, bq1, bq2, bq3, bq4, -, -, -, -, -, bqlt⟩ := fB12.five
      go_wp2_with fail
      refine (toExDeedS_any _ ds _ (HDS.out.below hb12) HDN.out).mono ?_
      rintro e w13 ⟨gx, rfl, hgx, odx, hq⟩
      have HGX := Lib.hid hgx
      clear hgx
      have SZXD := Lib.hid hq.size
      clear bq0 bq1 bq2 bq3 bq4 bqlt
      have hb14 : Below w.heap.size w _ := hb12.trans (Below.mono hq hb12.size)
      have fB14 := fB12.belowAll hq
      have fW14 := fW12.belowAll hq
      have fWO14 := fWO12.below hq
      have fX14 := hX.belowAll hq
      have fXO14 := oX.below hq
      clear hb12 fB12 fW12 fWO12 hX oX hq
      have LTXD := Lib.hid odx.lt
      go_upto_region 11 with fail
      go_cut [10, 11] (fun tb tx wc15 => ∃ (b : Nat) (vq vr : Value), tb = .pointer (some ⟨b, 0, none⟩) ∧ tx = .int .i64 (x : Nat) ∧ ExRes w13 wc15 b O' E' M' vq vr ps' cs')
      case first =>
        obtain ⟨xq0, xq1, xq2, xq3, xq4, -, -, -, -, -, xqlt⟩ := fX14.five
        go_wp2_with fail
        refine (KI.out _ _ _ _ fXO14.rd (own_somev fXO14.plan) (Rds.ofOwn odx)).mono ?_
        rintro e w16 ⟨vq16, vr16, rfl, o16, hq16⟩
        obtain ⟨aq16, cq16, ar16, cr16, rfl, rfl⟩ := agg_parts o16
        have gex16 := fXO14.below hq16
        have gdl16 := Own.below hq16 odx.lt odx
        have hc16 : Below w13.heap.size w13 _ := (Below.refl w13.heap.size w13).trans (Below.mono hq16 (Below.refl w13.heap.size w13).size)
        have hd16 : Below w.heap.size w _ := hb14.trans (Below.mono hq16 hb14.size)
        have hRS := ExRes.mkA (O := O') (E := E') (M := M') hc16 o16 (Below.refl w13.heap.size w13).size
        go_wp2_with fail
        go_meet
        exact ⟨_, _, _, rfl, rfl, hRS⟩
      case rest =>
        obtain ⟨wc15, rfl⟩ : ∃ wo : World, wo = wc := ⟨_, rfl⟩
        obtain ⟨bG, vGp, vGc, rfl, rfl, hRS⟩ := hcut
        obtain ⟨aGp, cGp, aGc, cGc, rfl, rfl⟩ := agg_parts hRS.own
        have hb17 : Below w.heap.size w _ := hb14.trans (Below.mono hRS.bel hb14.size)
        have fB17 := fB14.belowAll hRS.bel
        have fW17 := fW14.belowAll hRS.bel
        have fWO17 := fWO14.below hRS.bel
        have fX17 := fX14.belowAll hRS.bel
        have fXO17 := fXO14.below hRS.bel
        have fXD17 := Own.below hRS.bel odx.lt odx
        clear hb14 fB14 fW14 fWO14 fX14 fXO14 odx 
        have hG := hRS.box
        have oG := hRS.own
        have APG1 := Lib.hid hRS.ap1
        have APG2 := Lib.hid hRS.ap2
        have BGG := Lib.hid hRS.big
        have LTG := Lib.hid hG.lt
        have HIG1 := Lib.hid (Hi.of oG.plan)
        have HIG2 := Lib.hid (Hi.of oG.calls)
        have LOG1 := Lib.hid (Lo.of oG.plan)
        have LOG2 := Lib.hid (Lo.of oG.calls)
        have SZG := Lib.hid (show w13.heap.size ≤ wc15.heap.size from hRS.bel.size)
        clear hRS
        obtain ⟨gq0, gq1, gq2, gq3, gq4, -, -, -, -, -, gqlt⟩ := hG.five
        obtain ⟨wq0, wq1, wq2, wq3, wq4, -, -, -, -, -, wqlt⟩ := fW17.five
        go_wp2_with fail
        refine (eqExchange_any O' E' M' O' E' M' _ _ _ _ ps' ps' cs' cs' _ oG.rd fWO17.rd).mono ?_
        rintro e w18 ⟨rfl, hq⟩
        rw [decide_eq_true rfl, decide_eq_true rfl, decide_eq_true rfl]
        clear gq0 gq1 gq2 gq3 gq4 gqlt wq0 wq1 wq2 wq3 wq4 wqlt
        have hb19 : Below w.heap.size w _ := hb17.trans (Below.mono hq hb17.size)
        have fB19 := fB17.belowAll hq
        have fW19 := fW17.belowAll hq
        have fWO19 := fWO17.below hq
        have fX19 := fX17.belowAll hq
        have fXO19 := fXO17.below hq
        have fXD19 := Own.below hq fXD17.lt fXD17
        have fG19 := hG.belowAll hq
        have fGO19 := oG.below hq
        clear hb17 fB17 fW17 fWO17 fX17 fXO17 fXD17 hG oG hq
        obtain ⟨bq0, bq1, bq2, bq3, bq4, -, -, -, -, -, bqlt⟩ := fB19.five
        obtain ⟨xq0, xq1, xq2, xq3, xq4, -, -, -, -, -, xqlt⟩ := fX19.five
        have HC : Hid (∀ w' : World, Below w18.heap.size w18 w' → w'.cell? ⟨w.heap.size, 0, none⟩ = some (.int .i64 O) ∧ w'.cell? ⟨w.heap.size, 1, none⟩ = some (.int .i64 E) ∧ w'.cell? ⟨w.heap.size, 2, none⟩ = some (.int .i64 M) ∧ w'.cell? ⟨w.heap.size, 3, none⟩ = some (.slice a1 ps.length c1) ∧ w'.cell? ⟨w.heap.size, 4, none⟩ = some (.slice a2 cs.length c2) ∧ w'.cell? ⟨bX, 0, none⟩ = some (.int .i64 O) ∧ w'.cell? ⟨bX, 1, none⟩ = some (.int .i64 E) ∧ w'.cell? ⟨bX, 2, none⟩ = some (.int .i64 M) ∧ w'.cell? ⟨bX, 3, none⟩ = some (.slice aXp ps.length cXp) ∧ w'.cell? ⟨bX, 4, none⟩ = some (.slice aXc cs.length cXc)) := fun w' hb => ⟨(hb.cell (p := ⟨w.heap.size, 0, none⟩) bqlt).trans bq0, (hb.cell (p := ⟨w.heap.size, 1, none⟩) bqlt).trans bq1, (hb.cell (p := ⟨w.heap.size, 2, none⟩) bqlt).trans bq2, (hb.cell (p := ⟨w.heap.size, 3, none⟩) bqlt).trans bq3, (hb.cell (p := ⟨w.heap.size, 4, none⟩) bqlt).trans bq4, (hb.cell (p := ⟨bX, 0, none⟩) xqlt).trans xq0, (hb.cell (p := ⟨bX, 1, none⟩) xqlt).trans xq1, (hb.cell (p := ⟨bX, 2, none⟩) xqlt).trans xq2, (hb.cell (p := ⟨bX, 3, none⟩) xqlt).trans xq3, (hb.cell (p := ⟨bX, 4, none⟩) xqlt).trans xq4⟩
        clear bq0 bq1 bq2 bq3 bq4 bqlt xq0 xq1 xq2 xq3 xq4 xqlt
        have hcS : Below w18.heap.size w18 w18.drew := (Below.refl _ _).drew
        have hdS : Below w.heap.size w w18.drew := hb19.drew
        have oEd := fXO19.drewN 1
        go_wp2_with fail
        refine wp_region_held_drew (S := fun w' => w'.cell? ⟨w.heap.size, 0, none⟩ = some (.int .i64 O) ∧ w'.cell? ⟨w.heap.size, 1, none⟩ = some (.int .i64 E) ∧ w'.cell? ⟨w.heap.size, 2, none⟩ = some (.int .i64 M) ∧ w'.cell? ⟨w.heap.size, 3, none⟩ = some (.slice a1 ps.length c1) ∧ w'.cell? ⟨w.heap.size, 4, none⟩ = some (.slice a2 cs.length c2) ∧ w'.cell? ⟨bX, 0, none⟩ = some (.int .i64 O) ∧ w'.cell? ⟨bX, 1, none⟩ = some (.int .i64 E) ∧ w'.cell? ⟨bX, 2, none⟩ = some (.int .i64 M) ∧ w'.cell? ⟨bX, 3, none⟩ = some (.slice aXp ps.length cXp) ∧ w'.cell? ⟨bX, 4, none⟩ = some (.slice aXc cs.length cXc)) (by kernel_rfl) (HC.out _ hcS) (fun hHeld => ?_)
        refine take_on (i := 0) (d := some 54) (v := ?_) rfl (by rfl) (by kernel_rfl) (by kernel_rfl) (by kernel_rfl) (fun _ _ _ h => h) (Or.inl ⟨by kernel_rfl, ?_⟩) (by assumption) ?_
        rotate_left
        focus (intro w hSw; (try dsimp only at hSw); go_simp; (try rw [if_neg (by omega)]); (try with_reducible rfl))
        try simp only [Act.put, List.setIfInBounds_toArray, List.set_cons_zero, List.set_cons_succ]
        refine take_on (i := 1) (d := some 55) (v := ?_) rfl (by rfl) (by kernel_rfl) (by kernel_rfl) (by kernel_rfl) (fun _ _ _ h => h) (Or.inl ⟨by kernel_rfl, ?_⟩) (by assumption) ?_
        rotate_left
        focus (intro w hSw; (try dsimp only at hSw); go_simp; (try rw [if_neg (by omega)]); (try with_reducible rfl))
        try simp only [Act.put, List.setIfInBounds_toArray, List.set_cons_zero, List.set_cons_succ]
        refine wpAnyH_ready (rs := [2]) (by kernel_rfl) (by simp) ?_
        refine AllReadyH.cons rfl (fun K hK => ?_) AllReadyH.nil
        go_simp
        refine (toExchange_any O E M _ _ ps cs _ (HR.out.below hdS) HPN.out HCN.out).mono ?_
        rintro e w20 ⟨g20, h20, rfl, o20, hq20⟩
        have gox20 := oEd.below hq20
        have hc20 : Below w18.heap.size w18 _ := hcS.trans (Below.mono hq20 hcS.size)
        have hd20 : Below w.heap.size w _ := hdS.trans (Below.mono hq20 hdS.size)
        refine hK.out _ _ (HC.out _ hc20) (fun hHeld2 => ?_)
        clear hHeld hK K
        have hHeld := hHeld2
        clear hHeld2
        try simp only [Act.put, List.setIfInBounds_toArray, List.set_cons_zero, List.set_cons_succ]
        refine wpAnyH_ready (rs := [3]) (by kernel_rfl) (by simp) ?_
        refine AllReadyH.cons rfl (fun K hK => ?_) AllReadyH.nil
        go_simp
        refine (eqExchange_any O E M O E M _ _ _ _ ps ps cs cs _ gox20.rd o20.rd).mono ?_
        rintro e w21 ⟨rfl, hq21⟩
        rw [decide_eq_true rfl, decide_eq_true rfl, decide_eq_true rfl]
        have gox21 := gox20.below hq21
        have gex21 := o20.below hq21
        have hc21 : Below w18.heap.size w18 _ := hc20.trans (Below.mono hq21 hc20.size)
        have hd21 : Below w.heap.size w _ := hd20.trans (Below.mono hq21 hd20.size)
        refine hK.out _ _ (HC.out _ hc21) (fun hHeld2 => ?_)
        clear hHeld hK K
        have hHeld := hHeld2
        clear hHeld2
        try simp only [Act.put, List.setIfInBounds_toArray, List.set_cons_zero, List.set_cons_succ]
        refine take_on (i := 4) (d := some 58) (v := ?_) rfl (by rfl) (by kernel_rfl) (by kernel_rfl) (by kernel_rfl) (fun _ _ _ h => h) (Or.inl ⟨by kernel_rfl, ?_⟩) (by assumption) ?_
        rotate_left
        focus (intro w hSw; (try dsimp only at hSw); go_simp; (try rw [if_neg (by omega)]); (try with_reducible rfl))
        try simp only [Act.put, List.setIfInBounds_toArray, List.set_cons_zero, List.set_cons_succ]
        refine wpAnyH_done (by kernel_rfl) ?_ _
        clear hHeld
        have hb22 : Below w.heap.size w _ := hb19.trans (Below.mono hc21 hb19.size)
        have fB22 := fB19.belowAll hc21
        have fW22 := fW19.belowAll hc21
        have fWO22 := fWO19.below hc21
        have fX22 := fX19.belowAll hc21
        have fXO22 := fXO19.below hc21
        have fXD22 := Own.below hc21 fXD19.lt fXD19
        have fG22 := fG19.belowAll hc21
        have fGO22 := fGO19.below hc21
        clear hb19 fB19 fW19 fWO19 fX19 fXO19 fXD19 fG19 fGO19 hc21
        obtain ⟨bq0, bq1, bq2, bq3, bq4, -, -, -, -, -, bqlt⟩ := fB22.five
        obtain ⟨xq0, xq1, xq2, xq3, xq4, -, -, -, -, -, xqlt⟩ := fX22.five
        go_wp2_with fail
        refine (toExDeedS_any _ ds _ (HDS.out.below hb22) HDN.out).mono ?_
        rintro e w23 ⟨gy, rfl, hgy, ody, hq⟩
        clear bq0 bq1 bq2 bq3 bq4 bqlt xq0 xq1 xq2 xq3 xq4 xqlt
        have hb25 : Below w.heap.size w _ := hb22.trans (Below.mono hq hb22.size)
        have fB25 := fB22.belowAll hq
        have fW25 := fW22.belowAll hq
        have fWO25 := fWO22.below hq
        have fX25 := fX22.belowAll hq
        have fXO25 := fXO22.below hq
        have fXD25 := Own.below hq fXD22.lt fXD22
        have fG25 := fG22.belowAll hq
        have fGO25 := fGO22.below hq
        clear hb22 fB22 fW22 fWO22 fX22 fXO22 fXD22 fG22 fGO22 hq
        obtain ⟨bq0, bq1, bq2, bq3, bq4, -, -, -, -, -, bqlt⟩ := fB25.five
        obtain ⟨xq0, xq1, xq2, xq3, xq4, -, -, -, -, -, xqlt⟩ := fX25.five
        go_wp2_with fail
        refine (eqExDeedS_any _ _ ds ds _ (Rds.ofOwn fXD25) (Rds.ofOwn ody)).mono ?_
        rintro e w24 ⟨rfl, hq⟩
        rw [decide_eq_true rfl]
        clear ody hgy
        clear bq0 bq1 bq2 bq3 bq4 bqlt xq0 xq1 xq2 xq3 xq4 xqlt
        have hb26 : Below w.heap.size w _ := hb25.trans (Below.mono hq hb25.size)
        have fB26 := fB25.belowAll hq
        have fW26 := fW25.belowAll hq
        have fWO26 := fWO25.below hq
        have fX26 := fX25.belowAll hq
        have fXO26 := fXO25.below hq
        have fXD26 := Own.below hq fXD25.lt fXD25
        have fG26 := fG25.belowAll hq
        have fGO26 := fGO25.below hq
        clear hb25 fB25 fW25 fWO25 fX25 fXO25 fXD25 fG25 fGO25 hq
        have NW := LTW.out
        have NX := LTX.out
        have NG := BGG.out
        have NS := HSTART.out
        have SW := SZW.out
        have SX := SZX.out
        have NXD := LTXD.out
        have GX := HGX.out
        have SXD := SZXD.out
        obtain ⟨xq0, xq1, xq2, xq3, xq4, -, -, -, -, -, xqlt⟩ := fX26.five
        go_wp2_with fail
        refine (markExchange_any O E M _ _ _ ps cs 1 _ fXO26 (by omega) (by omega) (by first | omega | (have := HPN.out; omega)) (by first | omega | (have := HCN.out; omega))).mono ?_
        rintro e w27 ⟨rfl, om27, hg27⟩
        clear xq0 xq1 xq2 xq3 xq4 xqlt
        have HB1 := HIX1.out
        have HB2 := HIX2.out
        have LB1 := LOX1.out
        have LB2 := LOX2.out
        have hb27 : Below w.heap.size w _ := Below.gb2 hb26 hg27 hb26.size (HB1.mono (by omega)) (HB2.mono (by omega))
        have fB27 := fB26.gb2 hg27 (HB1.ne (by omega)) (HB2.ne (by omega))
        have fW27 := fW26.gb2 hg27 (HB1.ne (by omega)) (HB2.ne (by omega))
        have fWO27 := fWO26.kept2 hg27 ((LOW1.out.mono (by omega)).apart HB1) ((LOW2.out.mono (by omega)).apart HB1) ((LOW1.out.mono (by omega)).apart HB2) ((LOW2.out.mono (by omega)).apart HB2)
        have fX27 := fX26.gb2 hg27 (ap_ne APX1.out) (ap_ne APX2.out)
        have fXO27 := om27
        have hxd : Hi (.slice (some ⟨gx, 0, none⟩) ds.length ds.length) gx := fun k hk => by cases hk; exact Nat.le_refl _
        have fXD27 := (Own.of (owns_kept2 hg27 ((hxd.mono (by omega)).apart LB1) ((hxd.mono (by omega)).apart LB2) (fXD26.back (Nat.le_refl _)))).1
        clear hxd
        have fG27 := fG26.gb2 hg27 (LB1.ne (by omega)) (LB2.ne (by omega))
        have fGO27 := fGO26.kept2 hg27 ((HIG1.out.mono (by omega)).apart LB1) ((HIG2.out.mono (by omega)).apart LB1) ((HIG1.out.mono (by omega)).apart LB2) ((HIG2.out.mono (by omega)).apart LB2)
        clear hg27 om27 HB1 HB2 LB1 LB2 hb26 fB26 fW26 fWO26 fX26 fXO26 fXD26 fG26 fGO26
        clear fX27 fXO27
        go_wp2_with fail
        refine (markDeeds_any gx _ ds.length ds (1 + ps.length + 3 * cs.length) _ (fXD27.back (Nat.le_refl _)) (by omega) (by have := HPN.out; have := HCN.out; omega) (by have := HDN.out; omega)).mono ?_
        rintro e w28 ⟨rfl, -, hg28⟩
        have hxl : Lo (.slice (some ⟨gx, 0, none⟩) ds.length ds.length) (gx + 1) := fun k hk => by cases hk; exact Nat.lt_succ_self _
        have hxh : Hi (.slice (some ⟨gx, 0, none⟩) ds.length ds.length) gx := fun k hk => by cases hk; exact Nat.le_refl _
        have hb28 : Below w.heap.size w _ := hb27.grown hg28 hb27.size (hxh.mono (by omega))
        have fB28 := Blk.gbr hg28 (hxh.ne (by omega)) fB27
        have fW28 := Blk.gbr hg28 (hxh.ne (by omega)) fW27
        have fWO28 := fWO27.kept hg28 ((LOW1.out.mono (by omega)).apart hxh) ((LOW2.out.mono (by omega)).apart hxh)
        have fG28 := Blk.gbr hg28 (hxl.ne (by omega)) fG27
        have fGO28 := fGO27.kept hg28 ((HIG1.out.mono (by omega)).apart hxl) ((HIG2.out.mono (by omega)).apart hxl)
        clear hg28 hxl hxh hb27 fXD27 fB27 fW27 fWO27 fG27 fGO27
        have hk8 : ¬ ((1 + ps.length + 3 * cs.length + 3 * ds.length : Nat) : Int) < 0 := by omega
        clear NW NX NG NS SW SX NXD GX SXD
        obtain ⟨gq0, gq1, gq2, gq3, gq4, -, -, -, -, -, gqlt⟩ := fG28.five
        obtain ⟨wq0, wq1, wq2, wq3, wq4, -, -, -, -, -, wqlt⟩ := fW28.five
        go_wp2_with fail
        refine (eqExchange_any O' E' M' O' E' M' _ _ _ _ ps' ps' cs' cs' _ fGO28.rd fWO28.rd).mono ?_
        rintro e w29 ⟨rfl, hq⟩
        rw [decide_eq_true rfl, decide_eq_true rfl, decide_eq_true rfl]
        clear gq0 gq1 gq2 gq3 gq4 gqlt wq0 wq1 wq2 wq3 wq4 wqlt
        have hb30 : Below w.heap.size w _ := hb28.trans (Below.mono hq hb28.size)
        have fB30 := fB28.belowAll hq
        have fW30 := fW28.belowAll hq
        have fWO30 := fWO28.below hq
        have fG30 := fG28.belowAll hq
        have fGO30 := fGO28.below hq
        clear hb28 fB28 fW28 fWO28 fG28 fGO28 hq
        clear hk8
        have NW := LTW.out
        have NX := LTX.out
        have NG := BGG.out
        have NS := HSTART.out
        have SW := SZW.out
        have SX := SZX.out
        have NXD := LTXD.out
        have GX := HGX.out
        have SXD := SZXD.out
        obtain ⟨gq0, gq1, gq2, gq3, gq4, -, -, -, -, -, gqlt⟩ := fG30.five
        go_wp2_with fail
        refine (markExchange_any O' E' M' _ _ _ ps' cs' 1 _ fGO30 (by omega) (by omega) (by first | omega | (have := HPN.out; omega)) (by first | omega | (have := HCN.out; omega))).mono ?_
        rintro e w31 ⟨rfl, om31, hg31⟩
        clear gq0 gq1 gq2 gq3 gq4 gqlt
        have HB1 := HIG1.out
        have HB2 := HIG2.out
        have LB1 := LOG1.out
        have LB2 := LOG2.out
        have hb31 : Below w.heap.size w _ := Below.gb2 hb30 hg31 hb30.size (HB1.mono (by omega)) (HB2.mono (by omega))
        have fB31 := fB30.gb2 hg31 (HB1.ne (by omega)) (HB2.ne (by omega))
        have fW31 := fW30.gb2 hg31 (HB1.ne (by omega)) (HB2.ne (by omega))
        have fWO31 := fWO30.kept2 hg31 ((LOW1.out.mono (by omega)).apart HB1) ((LOW2.out.mono (by omega)).apart HB1) ((LOW1.out.mono (by omega)).apart HB2) ((LOW2.out.mono (by omega)).apart HB2)
        have fG31 := fG30.gb2 hg31 (ap_ne APG1.out) (ap_ne APG2.out)
        have fGO31 := om31
        clear hg31 om31 HB1 HB2 LB1 LB2 hb30 fB30 fW30 fWO30 fG30 fGO30
        clear NW NX NG NS SW SX NXD GX SXD
        obtain ⟨gq0, gq1, gq2, gq3, gq4, -, -, -, -, -, gqlt⟩ := fG31.five
        go_wp2_with fail
        refine (heldExchange_any O' E' M' _ _ ps'.length cs'.length 1 _ fGO31.rd (by omega) (by omega) (by omega) (by omega)).mono ?_
        rintro e w32 ⟨rfl, hq⟩
        clear gq0 gq1 gq2 gq3 gq4 gqlt
        have hb33 : Below w.heap.size w _ := hb31.trans (Below.mono hq hb31.size)
        have fB33 := fB31.belowAll hq
        have fW33 := fW31.belowAll hq
        have fWO33 := fWO31.below hq
        have fG33 := fG31.belowAll hq
        have fGO33 := fGO31.below hq
        clear hb31 fB31 fW31 fWO31 fG31 fGO31 hq
        have hkb : ¬ ((1 + ps'.length + 3 * cs'.length : Nat) : Int) < 0 := by omega
        have hqb : (((1 + ps'.length + 3 * cs'.length : Nat) : Int) != ((1 + ps'.length + 3 * cs'.length : Nat) : Int)) = false := by simp
        go_upto_region 31 with fail
        go_cut [15, 16] (fun tb tx wc34 => ∃ (b : Nat) (vq vr : Value), tb = .pointer (some ⟨b, 0, none⟩) ∧ tx = .int .i64 (x : Nat) ∧ ExRes w32 wc34 b O' E' M' vq vr ps' cs')
        case first =>
          obtain ⟨bq0, bq1, bq2, bq3, bq4, -, -, -, -, -, bqlt⟩ := fB33.five
          go_wp2_with fail
          refine (toExchange_any O E M _ _ ps cs _ (HR.out.below hb33) HPN.out HCN.out).mono ?_
          rintro e w35 ⟨g35, h35, rfl, o35, hq35⟩
          have hc35 : Below w32.heap.size w32 _ := (Below.refl w32.heap.size w32).trans (Below.mono hq35 (Below.refl w32.heap.size w32).size)
          have hd35 : Below w.heap.size w _ := hb33.trans (Below.mono hq35 hb33.size)
          go_wp2_with fail
          refine (toExDeedS_any _ ds _ (HDS.out.below hd35) HDN.out).mono ?_
          rintro e w36 ⟨gd36, rfl, hgd36, od36, hq36⟩
          have gex36 := o35.below hq36
          have hc36 : Below w32.heap.size w32 _ := hc35.trans (Below.mono hq36 hc35.size)
          have hd36 : Below w.heap.size w _ := hd35.trans (Below.mono hq36 hd35.size)
          go_wp2_with fail
          refine (KI.out _ _ _ _ gex36.rd (own_somev gex36.plan) (Rds.ofOwn od36)).mono ?_
          rintro e w37 ⟨vq37, vr37, rfl, o37, hq37⟩
          obtain ⟨aq37, cq37, ar37, cr37, rfl, rfl⟩ := agg_parts o37
          have gex37 := gex36.below hq37
          have gdl37 := Own.below hq37 od36.lt od36
          have hc37 : Below w32.heap.size w32 _ := hc36.trans (Below.mono hq37 hc36.size)
          have hd37 : Below w.heap.size w _ := hd36.trans (Below.mono hq37 hd36.size)
          have hRS := ExRes.mkA (O := O') (E := E') (M := M') hc37 o37 hc36.size
          go_wp2_with fail
          go_meet
          exact ⟨_, _, _, rfl, rfl, hRS⟩
        case rest =>
          obtain ⟨wc34, rfl⟩ : ∃ wo : World, wo = wc := ⟨_, rfl⟩
          obtain ⟨bH, vHp, vHc, rfl, rfl, hRS⟩ := hcut
          obtain ⟨aHp, cHp, aHc, cHc, rfl, rfl⟩ := agg_parts hRS.own
          have hb38 : Below w.heap.size w _ := hb33.trans (Below.mono hRS.bel hb33.size)
          have fB38 := fB33.belowAll hRS.bel
          have fW38 := fW33.belowAll hRS.bel
          have fWO38 := fWO33.below hRS.bel
          have fG38 := fG33.belowAll hRS.bel
          have fGO38 := fGO33.below hRS.bel
          clear hb33 fB33 fW33 fWO33 fG33 fGO33 
          have hH := hRS.box
          have oH := hRS.own
          have APH1 := Lib.hid hRS.ap1
          have APH2 := Lib.hid hRS.ap2
          have BGH := Lib.hid hRS.big
          have LTH := Lib.hid hH.lt
          have HIH1 := Lib.hid (Hi.of oH.plan)
          have HIH2 := Lib.hid (Hi.of oH.calls)
          have LOH1 := Lib.hid (Lo.of oH.plan)
          have LOH2 := Lib.hid (Lo.of oH.calls)
          have SZH := Lib.hid (show w32.heap.size ≤ wc34.heap.size from hRS.bel.size)
          clear hRS
          obtain ⟨hq0, hq1, hq2, hq3, hq4, -, -, -, -, -, hqlt⟩ := hH.five
          obtain ⟨wq0, wq1, wq2, wq3, wq4, -, -, -, -, -, wqlt⟩ := fW38.five
          go_wp2_with fail
          refine (eqExchange_any O' E' M' O' E' M' _ _ _ _ ps' ps' cs' cs' _ oH.rd fWO38.rd).mono ?_
          rintro e w39 ⟨rfl, hq⟩
          rw [decide_eq_true rfl, decide_eq_true rfl, decide_eq_true rfl]
          clear hq0 hq1 hq2 hq3 hq4 hqlt wq0 wq1 wq2 wq3 wq4 wqlt
          have hb40 : Below w.heap.size w _ := hb38.trans (Below.mono hq hb38.size)
          have fB40 := fB38.belowAll hq
          have fW40 := fW38.belowAll hq
          have fWO40 := fWO38.below hq
          have fG40 := fG38.belowAll hq
          have fGO40 := fGO38.below hq
          have fH40 := hH.belowAll hq
          have fHO40 := oH.below hq
          clear hb38 fB38 fW38 fWO38 fG38 fGO38 hH oH hq
          obtain ⟨gq0, gq1, gq2, gq3, gq4, -, -, -, -, -, gqlt⟩ := fG40.five
          go_wp2_with fail
          refine (heldExchange_any O' E' M' _ _ ps'.length cs'.length 1 _ fGO40.rd (by omega) (by omega) (by omega) (by omega)).mono ?_
          rintro e w41 ⟨rfl, hq⟩
          clear gq0 gq1 gq2 gq3 gq4 gqlt
          have hb42 : Below w.heap.size w _ := hb40.trans (Below.mono hq hb40.size)
          have fB42 := fB40.belowAll hq
          have fW42 := fW40.belowAll hq
          have fWO42 := fWO40.below hq
          have fG42 := fG40.belowAll hq
          have fGO42 := fGO40.below hq
          have fH42 := fH40.belowAll hq
          have fHO42 := fHO40.below hq
          clear hb40 fB40 fW40 fWO40 fG40 fGO40 fH40 fHO40 hq
          go_wp2
          go_returns
          exact ⟨rfl, hb42⟩

end Go.Proofs.Ytedadhoneebfnaa
