/- The walk of the exact law of ExLine (printed by gen_law.py). -/
import Derived.Test.YtedadhoneebfnaaGreatDoorJ14
import Derived.Test.YtedadhoneebfnaaGreatDoorSs
set_option linter.unusedSimpArgs false
set_option linter.unusedVariables false
namespace Go.Proofs.YtedadhoneebfnaaGreatDoor
open Go.RowKit


set_option maxRecDepth 100000 in
set_option maxHeartbeats 16000000 in
theorem exExLine (O E M : Int) (vp vc : Value) (ps : List ByteArray) (cs : List Cl) (s : ByteArray) (w : World) (hR : ExRd w vp vc ps cs) (hL : StLen ps) (hs : s.size ≤ maxLen) :
  Calls Tryz.prog 6 #[.agg #[.int .i64 O, .int .i64 E, .int .i64 M, vp, vc], .string s] w fun e w' => e = .returned (.bool true) ∧ Below w.heap.size w w' := by
 by_cases hbig : s.size > 1048576
 ·
  obtain ⟨_, _, a1, c1, rfl, _⟩ := hR.plan
  obtain ⟨_, _, a2, c2, rfl, _⟩ := hR.calls
  go_enter Tryz.func6, Tryz.ntmps6
  go_wp2
  go_returns
  exact ⟨rfl, by (exact grownA)⟩
 have hs2 : s.size ≤ 1100000 := by omega
 have hB0 := Blk.new (w := w) (cs := #[.int .i64 O, .int .i64 E, .int .i64 M, vp, vc]) (T := 27) rfl
 have hb0 : Below w.heap.size w (w.alloc (.cells #[.int .i64 O, .int .i64 E, .int .i64 M, vp, vc] 27)) := by (exact grownA)
 have HSZ := Lib.hid hs
 have HR := Lib.hid hR
 have HL := Lib.hid hL
 obtain ⟨_, _, a1, c1, rfl, _⟩ := hR.plan
 obtain ⟨_, _, a2, c2, rfl, _⟩ := hR.calls
 obtain ⟨⟨⟨O', E', M'⟩, ⟨ps', cs'⟩, x⟩, hr⟩ : ∃ r : (Int × Int × Int) × (List ByteArray × List Cl) × ByteArray, lineR O E M ps cs s = r := ⟨_, rfl⟩
 have hsm := lineR_small O E M ps cs s
 rw [hr] at hsm
 obtain ⟨hsm1, hsm2⟩ := hsm
 simp only at hsm1 hsm2
 have KS : Hid (∀ (vp vc : Value) (W : World), ExRd W vp vc ps cs → SomeV vp ps.length → Calls Tryz.prog 35 #[.agg #[.int .i64 O, .int .i64 E, .int .i64 M, vp, vc], .string s] W (ExR O' E' M' ps' cs' (.string x) W)) := fun vp vc W h1 h2 => (sExLine_any O E M vp vc ps cs s W h1 h2 hL hs2).mono fun e w' h => (by have := LineQ.res h; rw [hr] at this; exact this)
 have KI : Hid (∀ (vp vc : Value) (W : World), ExRd W vp vc ps cs → SomeV vp ps.length → Calls Tryz.prog 26 #[.agg #[.int .i64 O, .int .i64 E, .int .i64 M, vp, vc], .string s] W (ExR O' E' M' ps' cs' (.string x) W)) := fun vp vc W h1 h2 => (iExLine_any O E M vp vc ps cs s W h1 h2 hL hs2).mono fun e w' h => (by have := LineQ.res h; rw [hr] at this; exact this)
 have hsx := str_eq (rfl : x = x)
 clear hR hL hr hs hs2
 go_enter Tryz.func6, Tryz.ntmps6
 obtain ⟨bq0, bq1, bq2, bq3, bq4, -, -, -, -, -, bqlt⟩ := hB0.five
 go_wp2_with fail
 refine (szExchange_any O E M _ _ ps cs _ (HR.out.below hb0) HL.out).mono ?_
 rintro e w1 ⟨z, rfl, hz0, hz1, hz2, hq⟩
 clear bq0 bq1 bq2 bq3 bq4 bqlt
 have hb3 : Below w.heap.size w _ := hb0.trans (Below.mono hq hb0.size)
 have fB3 := hB0.belowAll hq
 clear hb0 hB0 hq
 by_cases hz : 0 ≤ z
 case neg =>
  clear hz2
  go_wp2
  go_returns
  exact ⟨rfl, hb3⟩
 obtain ⟨hpn, hcn⟩ := hz2 hz
 have HPN := Lib.hid hpn
 have HCN := Lib.hid hcn
 clear hz2 hpn hcn
 have HSTART := Lib.hid (show w.heap.size + 1 ≤ w1.heap.size from fB3.lt)
 go_upto_region 7 with fail
 go_cut [6, 7] (fun tb tx wc4 => ∃ (b : Nat) (vq vr : Value), tb = .pointer (some ⟨b, 0, none⟩) ∧ tx = .string x ∧ ExRes w1 wc4 b O' E' M' vq vr ps' cs')
 case first =>
  obtain ⟨bq0, bq1, bq2, bq3, bq4, -, -, -, -, -, bqlt⟩ := fB3.five
  go_wp2_with fail
  refine (toExchange_any O E M _ _ ps cs _ (HR.out.below hb3) HPN.out HCN.out).mono ?_
  rintro e w5 ⟨g5, h5, rfl, o5, hq5⟩
  have hc5 : Below w1.heap.size w1 _ := (Below.refl w1.heap.size w1).trans (Below.mono hq5 (Below.refl w1.heap.size w1).size)
  have hd5 : Below w.heap.size w _ := hb3.trans (Below.mono hq5 hb3.size)
  go_wp2_with fail
  refine (KS.out _ _ _ o5.rd (own_somev o5.plan)).mono ?_
  rintro e w6 ⟨vq6, vr6, rfl, o6, hq6⟩
  obtain ⟨aq6, cq6, ar6, cr6, rfl, rfl⟩ := agg_parts o6
  have gex6 := o5.below hq6
  have hc6 : Below w1.heap.size w1 _ := hc5.trans (Below.mono hq6 hc5.size)
  have hd6 : Below w.heap.size w _ := hd5.trans (Below.mono hq6 hd5.size)
  have hRS := ExRes.mkA (O := O') (E := E') (M := M') hc6 o6 hc5.size
  go_wp2_with fail
  go_meet
  exact ⟨_, _, _, rfl, rfl, hRS⟩
 case rest =>
  obtain ⟨wc4, rfl⟩ : ∃ wo : World, wo = wc := ⟨_, rfl⟩
  obtain ⟨bW, vWp, vWc, rfl, rfl, hRS⟩ := hcut
  obtain ⟨aWp, cWp, aWc, cWc, rfl, rfl⟩ := agg_parts hRS.own
  have hb7 : Below w.heap.size w _ := hb3.trans (Below.mono hRS.bel hb3.size)
  have fB7 := fB3.belowAll hRS.bel
  clear hb3 fB3 
  have hW := hRS.box
  have oW := hRS.own
  have APW1 := Lib.hid hRS.ap1
  have APW2 := Lib.hid hRS.ap2
  have BGW := Lib.hid hRS.big
  have LTW := Lib.hid hW.lt
  have HIW1 := Lib.hid (Hi.of oW.plan)
  have HIW2 := Lib.hid (Hi.of oW.calls)
  have LOW1 := Lib.hid (Lo.of oW.plan)
  have LOW2 := Lib.hid (Lo.of oW.calls)
  have SZW := Lib.hid (show w1.heap.size ≤ wc4.heap.size from hRS.bel.size)
  clear hRS
  go_upto_region 8 with fail
  go_cut [8] (fun tb wc8 => ∃ (b : Nat) (vq vr : Value), tb = .pointer (some ⟨b, 0, none⟩) ∧ ExRes wc4 wc8 b O E M vq vr ps cs)
  case first =>
   obtain ⟨bq0, bq1, bq2, bq3, bq4, -, -, -, -, -, bqlt⟩ := fB7.five
   go_wp2_with fail
   refine (toExchange_any O E M _ _ ps cs _ (HR.out.below hb7) HPN.out HCN.out).mono ?_
   rintro e w9 ⟨g9, h9, rfl, o9, hq9⟩
   have hc9 : Below wc4.heap.size wc4 _ := (Below.refl wc4.heap.size wc4).trans (Below.mono hq9 (Below.refl wc4.heap.size wc4).size)
   have hd9 : Below w.heap.size w _ := hb7.trans (Below.mono hq9 hb7.size)
   have hRS := ExRes.mkA (O := O) (E := E) (M := M) hc9 o9 (Nat.le_refl _)
   go_wp2_with fail
   go_meet
   exact ⟨_, _, _, rfl, hRS⟩
  case rest =>
   obtain ⟨wc8, rfl⟩ : ∃ wo : World, wo = wc := ⟨_, rfl⟩
   obtain ⟨bX, vXp, vXc, rfl, hRS⟩ := hcut
   obtain ⟨aXp, cXp, aXc, cXc, rfl, rfl⟩ := agg_parts hRS.own
   have hb10 : Below w.heap.size w _ := hb7.trans (Below.mono hRS.bel hb7.size)
   have fB10 := fB7.belowAll hRS.bel
   have fW10 := hW.belowAll hRS.bel
   have fWO10 := oW.below hRS.bel
   clear hb7 fB7 hW oW 
   have hX := hRS.box
   have oX := hRS.own
   have APX1 := Lib.hid hRS.ap1
   have APX2 := Lib.hid hRS.ap2
   have BGX := Lib.hid hRS.big
   have LTX := Lib.hid hX.lt
   have HIX1 := Lib.hid (Hi.of oX.plan)
   have HIX2 := Lib.hid (Hi.of oX.calls)
   have LOX1 := Lib.hid (Lo.of oX.plan)
   have LOX2 := Lib.hid (Lo.of oX.calls)
   have SZX := Lib.hid (show wc4.heap.size ≤ wc8.heap.size from hRS.bel.size)
   clear hRS
   go_upto_region 9 with fail
   go_cut [9, 10] (fun tb tx wc11 => ∃ (b : Nat) (vq vr : Value), tb = .pointer (some ⟨b, 0, none⟩) ∧ tx = .string x ∧ ExRes wc8 wc11 b O' E' M' vq vr ps' cs')
   case first =>
    obtain ⟨xq0, xq1, xq2, xq3, xq4, -, -, -, -, -, xqlt⟩ := hX.five
    go_wp2_with fail
    refine (KI.out _ _ _ oX.rd (own_somev oX.plan)).mono ?_
    rintro e w12 ⟨vq12, vr12, rfl, o12, hq12⟩
    obtain ⟨aq12, cq12, ar12, cr12, rfl, rfl⟩ := agg_parts o12
    have gex12 := oX.below hq12
    have hc12 : Below wc8.heap.size wc8 _ := (Below.refl wc8.heap.size wc8).trans (Below.mono hq12 (Below.refl wc8.heap.size wc8).size)
    have hd12 : Below w.heap.size w _ := hb10.trans (Below.mono hq12 hb10.size)
    have hRS := ExRes.mkA (O := O') (E := E') (M := M') hc12 o12 (Below.refl wc8.heap.size wc8).size
    go_wp2_with fail
    go_meet
    exact ⟨_, _, _, rfl, rfl, hRS⟩
   case rest =>
    obtain ⟨wc11, rfl⟩ : ∃ wo : World, wo = wc := ⟨_, rfl⟩
    obtain ⟨bG, vGp, vGc, rfl, rfl, hRS⟩ := hcut
    obtain ⟨aGp, cGp, aGc, cGc, rfl, rfl⟩ := agg_parts hRS.own
    have hb13 : Below w.heap.size w _ := hb10.trans (Below.mono hRS.bel hb10.size)
    have fB13 := fB10.belowAll hRS.bel
    have fW13 := fW10.belowAll hRS.bel
    have fWO13 := fWO10.below hRS.bel
    have fX13 := hX.belowAll hRS.bel
    have fXO13 := oX.below hRS.bel
    clear hb10 fB10 fW10 fWO10 hX oX 
    have hG := hRS.box
    have oG := hRS.own
    have APG1 := Lib.hid hRS.ap1
    have APG2 := Lib.hid hRS.ap2
    have BGG := Lib.hid hRS.big
    have LTG := Lib.hid hG.lt
    have HIG1 := Lib.hid (Hi.of oG.plan)
    have HIG2 := Lib.hid (Hi.of oG.calls)
    have LOG1 := Lib.hid (Lo.of oG.plan)
    have LOG2 := Lib.hid (Lo.of oG.calls)
    have SZG := Lib.hid (show wc8.heap.size ≤ wc11.heap.size from hRS.bel.size)
    clear hRS
    obtain ⟨gq0, gq1, gq2, gq3, gq4, -, -, -, -, -, gqlt⟩ := hG.five
    obtain ⟨wq0, wq1, wq2, wq3, wq4, -, -, -, -, -, wqlt⟩ := fW13.five
    go_wp2_with fail
    refine (eqExchange_any O' E' M' O' E' M' _ _ _ _ ps' ps' cs' cs' _ oG.rd fWO13.rd).mono ?_
    rintro e w14 ⟨rfl, hq⟩
    rw [decide_eq_true rfl, decide_eq_true rfl, decide_eq_true rfl]
    clear gq0 gq1 gq2 gq3 gq4 gqlt wq0 wq1 wq2 wq3 wq4 wqlt
    have hb15 : Below w.heap.size w _ := hb13.trans (Below.mono hq hb13.size)
    have fB15 := fB13.belowAll hq
    have fW15 := fW13.belowAll hq
    have fWO15 := fWO13.below hq
    have fX15 := fX13.belowAll hq
    have fXO15 := fXO13.below hq
    have fG15 := hG.belowAll hq
    have fGO15 := oG.below hq
    clear hb13 fB13 fW13 fWO13 fX13 fXO13 hG oG hq
    obtain ⟨bq0, bq1, bq2, bq3, bq4, -, -, -, -, -, bqlt⟩ := fB15.five
    obtain ⟨xq0, xq1, xq2, xq3, xq4, -, -, -, -, -, xqlt⟩ := fX15.five
    have HC : Hid (∀ w' : World, Below w14.heap.size w14 w' → w'.cell? ⟨w.heap.size, 0, none⟩ = some (.int .i64 O) ∧ w'.cell? ⟨w.heap.size, 1, none⟩ = some (.int .i64 E) ∧ w'.cell? ⟨w.heap.size, 2, none⟩ = some (.int .i64 M) ∧ w'.cell? ⟨w.heap.size, 3, none⟩ = some (.slice a1 ps.length c1) ∧ w'.cell? ⟨w.heap.size, 4, none⟩ = some (.slice a2 cs.length c2) ∧ w'.cell? ⟨bX, 0, none⟩ = some (.int .i64 O) ∧ w'.cell? ⟨bX, 1, none⟩ = some (.int .i64 E) ∧ w'.cell? ⟨bX, 2, none⟩ = some (.int .i64 M) ∧ w'.cell? ⟨bX, 3, none⟩ = some (.slice aXp ps.length cXp) ∧ w'.cell? ⟨bX, 4, none⟩ = some (.slice aXc cs.length cXc)) := fun w' hb => ⟨(hb.cell (p := ⟨w.heap.size, 0, none⟩) bqlt).trans bq0, (hb.cell (p := ⟨w.heap.size, 1, none⟩) bqlt).trans bq1, (hb.cell (p := ⟨w.heap.size, 2, none⟩) bqlt).trans bq2, (hb.cell (p := ⟨w.heap.size, 3, none⟩) bqlt).trans bq3, (hb.cell (p := ⟨w.heap.size, 4, none⟩) bqlt).trans bq4, (hb.cell (p := ⟨bX, 0, none⟩) xqlt).trans xq0, (hb.cell (p := ⟨bX, 1, none⟩) xqlt).trans xq1, (hb.cell (p := ⟨bX, 2, none⟩) xqlt).trans xq2, (hb.cell (p := ⟨bX, 3, none⟩) xqlt).trans xq3, (hb.cell (p := ⟨bX, 4, none⟩) xqlt).trans xq4⟩
    clear bq0 bq1 bq2 bq3 bq4 bqlt xq0 xq1 xq2 xq3 xq4 xqlt
    have hcS : Below w14.heap.size w14 w14.drew := (Below.refl _ _).drew
    have hdS : Below w.heap.size w w14.drew := hb15.drew
    have oEd := fXO15.drewN 1
    go_wp2_with fail
    refine wp_region_held_drew (S := fun w' => w'.cell? ⟨w.heap.size, 0, none⟩ = some (.int .i64 O) ∧ w'.cell? ⟨w.heap.size, 1, none⟩ = some (.int .i64 E) ∧ w'.cell? ⟨w.heap.size, 2, none⟩ = some (.int .i64 M) ∧ w'.cell? ⟨w.heap.size, 3, none⟩ = some (.slice a1 ps.length c1) ∧ w'.cell? ⟨w.heap.size, 4, none⟩ = some (.slice a2 cs.length c2) ∧ w'.cell? ⟨bX, 0, none⟩ = some (.int .i64 O) ∧ w'.cell? ⟨bX, 1, none⟩ = some (.int .i64 E) ∧ w'.cell? ⟨bX, 2, none⟩ = some (.int .i64 M) ∧ w'.cell? ⟨bX, 3, none⟩ = some (.slice aXp ps.length cXp) ∧ w'.cell? ⟨bX, 4, none⟩ = some (.slice aXc cs.length cXc)) (by kernel_rfl) (HC.out _ hcS) (fun hHeld => ?_)
    refine take_y 0 48 (v := ?_) rfl ?_ ?_; rotate_left; focus (intro w hSw; (try dsimp only at hSw); go_simp; (try rw [if_neg (by omega)]); (try with_reducible rfl))
    try simp only [Act.put, zp1, zp2, zp3]
    refine take_y 1 49 (v := ?_) rfl ?_ ?_; rotate_left; focus (intro w hSw; (try dsimp only at hSw); go_simp; (try rw [if_neg (by omega)]); (try with_reducible rfl))
    try simp only [Act.put, zp1, zp2, zp3]
    refine wpAnyH_ready (rs := [2]) (by kernel_rfl) (by simp) ?_
    refine AllReadyH.cons rfl (fun K hK => ?_) AllReadyH.nil
    go_simp
    refine (toExchange_any O E M _ _ ps cs _ (HR.out.below hdS) HPN.out HCN.out).mono ?_
    rintro e w16 ⟨g16, h16, rfl, o16, hq16⟩
    have gox16 := oEd.below hq16
    have hc16 : Below w14.heap.size w14 _ := hcS.trans (Below.mono hq16 hcS.size)
    have hd16 : Below w.heap.size w _ := hdS.trans (Below.mono hq16 hdS.size)
    refine hK.out _ _ (HC.out _ hc16) (fun hHeld2 => ?_)
    clear hHeld hK K; have hHeld := hHeld2; clear hHeld2; try simp only [Act.put, zp1, zp2, zp3]
    refine wpAnyH_ready (rs := [3]) (by kernel_rfl) (by simp) ?_
    refine AllReadyH.cons rfl (fun K hK => ?_) AllReadyH.nil
    go_simp
    refine (eqExchange_any O E M O E M _ _ _ _ ps ps cs cs _ gox16.rd o16.rd).mono ?_
    rintro e w17 ⟨rfl, hq17⟩
    rw [decide_eq_true rfl, decide_eq_true rfl, decide_eq_true rfl]
    have gox17 := gox16.below hq17
    have gex17 := o16.below hq17
    have hc17 : Below w14.heap.size w14 _ := hc16.trans (Below.mono hq17 hc16.size)
    have hd17 : Below w.heap.size w _ := hd16.trans (Below.mono hq17 hd16.size)
    refine hK.out _ _ (HC.out _ hc17) (fun hHeld2 => ?_)
    clear hHeld hK K; have hHeld := hHeld2; clear hHeld2; try simp only [Act.put, zp1, zp2, zp3]
    refine take_y 4 52 (v := ?_) rfl ?_ ?_; rotate_left; focus (intro w hSw; (try dsimp only at hSw); go_simp; (try rw [if_neg (by omega)]); (try with_reducible rfl))
    try simp only [Act.put, zp1, zp2, zp3]
    refine wpAnyH_done (by kernel_rfl) ?_ _
    clear hHeld
    have hb18 : Below w.heap.size w _ := hb15.trans (Below.mono hc17 hb15.size)
    have fB18 := fB15.belowAll hc17
    have fW18 := fW15.belowAll hc17
    have fWO18 := fWO15.below hc17
    have fX18 := fX15.belowAll hc17
    have fXO18 := fXO15.below hc17
    have fG18 := fG15.belowAll hc17
    have fGO18 := fGO15.below hc17
    clear hb15 fB15 fW15 fWO15 fX15 fXO15 fG15 fGO15 hc17
    have NW := LTW.out
    have NG := BGG.out
    have NS := HSTART.out
    have SW := SZW.out
    have NX := LTX.out
    have SX := SZX.out
    obtain ⟨xq0, xq1, xq2, xq3, xq4, -, -, -, -, -, xqlt⟩ := fX18.five
    go_wp2_with fail
    refine (markExchange_any O E M _ _ _ ps cs 1 _ fXO18 (by omega) (by omega) (by first | omega | (have := HPN.out; omega)) (by first | omega | (have := HCN.out; omega))).mono ?_
    rintro e w19 ⟨rfl, om19, hg19⟩
    clear xq0 xq1 xq2 xq3 xq4 xqlt
    have HB1 := HIX1.out
    have HB2 := HIX2.out
    have LB1 := LOX1.out
    have LB2 := LOX2.out
    have hb19 : Below w.heap.size w _ := Below.gb2 hb18 hg19 hb18.size (HB1.mono (by omega)) (HB2.mono (by omega))
    have fB19 := fB18.gb2 hg19 (HB1.ne (by omega)) (HB2.ne (by omega))
    have fW19 := fW18.gb2 hg19 (HB1.ne (by omega)) (HB2.ne (by omega))
    have fWO19 := fWO18.kept2 hg19 ((LOW1.out.mono (by omega)).apart HB1) ((LOW2.out.mono (by omega)).apart HB1) ((LOW1.out.mono (by omega)).apart HB2) ((LOW2.out.mono (by omega)).apart HB2)
    have fX19 := fX18.gb2 hg19 (ap_ne APX1.out) (ap_ne APX2.out)
    have fXO19 := om19
    have fG19 := fG18.gb2 hg19 (LB1.ne (by omega)) (LB2.ne (by omega))
    have fGO19 := fGO18.kept2 hg19 ((HIG1.out.mono (by omega)).apart LB1) ((HIG2.out.mono (by omega)).apart LB1) ((HIG1.out.mono (by omega)).apart LB2) ((HIG2.out.mono (by omega)).apart LB2)
    clear hg19 om19 HB1 HB2 LB1 LB2 hb18 fB18 fW18 fWO18 fX18 fXO18 fG18 fGO18
    clear fX19 fXO19
    have hk8 : ¬ ((1 + ps.length + 3 * cs.length : Nat) : Int) < 0 := by omega
    clear NW NG NS SW NX SX
    obtain ⟨gq0, gq1, gq2, gq3, gq4, -, -, -, -, -, gqlt⟩ := fG19.five
    obtain ⟨wq0, wq1, wq2, wq3, wq4, -, -, -, -, -, wqlt⟩ := fW19.five
    go_wp2_with fail
    refine (eqExchange_any O' E' M' O' E' M' _ _ _ _ ps' ps' cs' cs' _ fGO19.rd fWO19.rd).mono ?_
    rintro e w20 ⟨rfl, hq⟩
    rw [decide_eq_true rfl, decide_eq_true rfl, decide_eq_true rfl]
    clear gq0 gq1 gq2 gq3 gq4 gqlt wq0 wq1 wq2 wq3 wq4 wqlt
    have hb21 : Below w.heap.size w _ := hb19.trans (Below.mono hq hb19.size)
    have fB21 := fB19.belowAll hq
    have fW21 := fW19.belowAll hq
    have fWO21 := fWO19.below hq
    have fG21 := fG19.belowAll hq
    have fGO21 := fGO19.below hq
    clear hb19 fB19 fW19 fWO19 fG19 fGO19 hq
    clear hk8
    have NW := LTW.out
    have NG := BGG.out
    have NS := HSTART.out
    have SW := SZW.out
    have NX := LTX.out
    have SX := SZX.out
    obtain ⟨gq0, gq1, gq2, gq3, gq4, -, -, -, -, -, gqlt⟩ := fG21.five
    go_wp2_with fail
    refine (markExchange_any O' E' M' _ _ _ ps' cs' 1 _ fGO21 (by omega) (by omega) (by first | omega | (have := HPN.out; omega)) (by first | omega | (have := HCN.out; omega))).mono ?_
    rintro e w22 ⟨rfl, om22, hg22⟩
    clear gq0 gq1 gq2 gq3 gq4 gqlt
    have HB1 := HIG1.out
    have HB2 := HIG2.out
    have LB1 := LOG1.out
    have LB2 := LOG2.out
    have hb22 : Below w.heap.size w _ := Below.gb2 hb21 hg22 hb21.size (HB1.mono (by omega)) (HB2.mono (by omega))
    have fB22 := fB21.gb2 hg22 (HB1.ne (by omega)) (HB2.ne (by omega))
    have fW22 := fW21.gb2 hg22 (HB1.ne (by omega)) (HB2.ne (by omega))
    have fWO22 := fWO21.kept2 hg22 ((LOW1.out.mono (by omega)).apart HB1) ((LOW2.out.mono (by omega)).apart HB1) ((LOW1.out.mono (by omega)).apart HB2) ((LOW2.out.mono (by omega)).apart HB2)
    have fG22 := fG21.gb2 hg22 (ap_ne APG1.out) (ap_ne APG2.out)
    have fGO22 := om22
    clear hg22 om22 HB1 HB2 LB1 LB2 hb21 fB21 fW21 fWO21 fG21 fGO21
    clear NW NG NS SW NX SX
    obtain ⟨gq0, gq1, gq2, gq3, gq4, -, -, -, -, -, gqlt⟩ := fG22.five
    go_wp2_with fail
    refine (heldExchange_any O' E' M' _ _ ps'.length cs'.length 1 _ fGO22.rd (by omega) (by omega) (by omega) (by omega)).mono ?_
    rintro e w23 ⟨rfl, hq⟩
    clear gq0 gq1 gq2 gq3 gq4 gqlt
    have hb24 : Below w.heap.size w _ := hb22.trans (Below.mono hq hb22.size)
    have fB24 := fB22.belowAll hq
    have fW24 := fW22.belowAll hq
    have fWO24 := fWO22.below hq
    have fG24 := fG22.belowAll hq
    have fGO24 := fGO22.below hq
    clear hb22 fB22 fW22 fWO22 fG22 fGO22 hq
    have hkb : ¬ ((1 + ps'.length + 3 * cs'.length : Nat) : Int) < 0 := by omega
    have hqb : (((1 + ps'.length + 3 * cs'.length : Nat) : Int) != ((1 + ps'.length + 3 * cs'.length : Nat) : Int)) = false := by simp
    go_upto_region 26 with fail
    go_cut [14, 15] (fun tb tx wc25 => ∃ (b : Nat) (vq vr : Value), tb = .pointer (some ⟨b, 0, none⟩) ∧ tx = .string x ∧ ExRes w23 wc25 b O' E' M' vq vr ps' cs')
    case first =>
     obtain ⟨bq0, bq1, bq2, bq3, bq4, -, -, -, -, -, bqlt⟩ := fB24.five
     go_wp2_with fail
     refine (toExchange_any O E M _ _ ps cs _ (HR.out.below hb24) HPN.out HCN.out).mono ?_
     rintro e w26 ⟨g26, h26, rfl, o26, hq26⟩
     have hc26 : Below w23.heap.size w23 _ := (Below.refl w23.heap.size w23).trans (Below.mono hq26 (Below.refl w23.heap.size w23).size)
     have hd26 : Below w.heap.size w _ := hb24.trans (Below.mono hq26 hb24.size)
     go_wp2_with fail
     refine (KI.out _ _ _ o26.rd (own_somev o26.plan)).mono ?_
     rintro e w27 ⟨vq27, vr27, rfl, o27, hq27⟩
     obtain ⟨aq27, cq27, ar27, cr27, rfl, rfl⟩ := agg_parts o27
     have gex27 := o26.below hq27
     have hc27 : Below w23.heap.size w23 _ := hc26.trans (Below.mono hq27 hc26.size)
     have hd27 : Below w.heap.size w _ := hd26.trans (Below.mono hq27 hd26.size)
     have hRS := ExRes.mkA (O := O') (E := E') (M := M') hc27 o27 hc26.size
     go_wp2_with fail
     go_meet
     exact ⟨_, _, _, rfl, rfl, hRS⟩
    case rest =>
     obtain ⟨wc25, rfl⟩ : ∃ wo : World, wo = wc := ⟨_, rfl⟩
     obtain ⟨bH, vHp, vHc, rfl, rfl, hRS⟩ := hcut
     obtain ⟨aHp, cHp, aHc, cHc, rfl, rfl⟩ := agg_parts hRS.own
     have hb28 : Below w.heap.size w _ := hb24.trans (Below.mono hRS.bel hb24.size)
     have fB28 := fB24.belowAll hRS.bel
     have fW28 := fW24.belowAll hRS.bel
     have fWO28 := fWO24.below hRS.bel
     have fG28 := fG24.belowAll hRS.bel
     have fGO28 := fGO24.below hRS.bel
     clear hb24 fB24 fW24 fWO24 fG24 fGO24 
     have hH := hRS.box
     have oH := hRS.own
     have APH1 := Lib.hid hRS.ap1
     have APH2 := Lib.hid hRS.ap2
     have BGH := Lib.hid hRS.big
     have LTH := Lib.hid hH.lt
     have HIH1 := Lib.hid (Hi.of oH.plan)
     have HIH2 := Lib.hid (Hi.of oH.calls)
     have LOH1 := Lib.hid (Lo.of oH.plan)
     have LOH2 := Lib.hid (Lo.of oH.calls)
     have SZH := Lib.hid (show w23.heap.size ≤ wc25.heap.size from hRS.bel.size)
     clear hRS
     obtain ⟨hq0, hq1, hq2, hq3, hq4, -, -, -, -, -, hqlt⟩ := hH.five
     obtain ⟨wq0, wq1, wq2, wq3, wq4, -, -, -, -, -, wqlt⟩ := fW28.five
     go_wp2_with fail
     refine (eqExchange_any O' E' M' O' E' M' _ _ _ _ ps' ps' cs' cs' _ oH.rd fWO28.rd).mono ?_
     rintro e w29 ⟨rfl, hq⟩
     rw [decide_eq_true rfl, decide_eq_true rfl, decide_eq_true rfl]
     clear hq0 hq1 hq2 hq3 hq4 hqlt wq0 wq1 wq2 wq3 wq4 wqlt
     have hb30 : Below w.heap.size w _ := hb28.trans (Below.mono hq hb28.size)
     have fB30 := fB28.belowAll hq
     have fW30 := fW28.belowAll hq
     have fWO30 := fWO28.below hq
     have fG30 := fG28.belowAll hq
     have fGO30 := fGO28.below hq
     have fH30 := hH.belowAll hq
     have fHO30 := oH.below hq
     clear hb28 fB28 fW28 fWO28 fG28 fGO28 hH oH hq
     obtain ⟨gq0, gq1, gq2, gq3, gq4, -, -, -, -, -, gqlt⟩ := fG30.five
     go_wp2_with fail
     refine (heldExchange_any O' E' M' _ _ ps'.length cs'.length 1 _ fGO30.rd (by omega) (by omega) (by omega) (by omega)).mono ?_
     rintro e w31 ⟨rfl, hq⟩
     clear gq0 gq1 gq2 gq3 gq4 gqlt
     have hb32 : Below w.heap.size w _ := hb30.trans (Below.mono hq hb30.size)
     have fB32 := fB30.belowAll hq
     have fW32 := fW30.belowAll hq
     have fWO32 := fWO30.below hq
     have fG32 := fG30.belowAll hq
     have fGO32 := fGO30.below hq
     have fH32 := fH30.belowAll hq
     have fHO32 := fHO30.below hq
     clear hb30 fB30 fW30 fWO30 fG30 fGO30 fH30 fHO30 hq
     go_wp2
     go_returns
     exact ⟨rfl, hb32⟩

end Go.Proofs.YtedadhoneebfnaaGreatDoor
