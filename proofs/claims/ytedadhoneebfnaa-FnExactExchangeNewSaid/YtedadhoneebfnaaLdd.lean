/- The walk of the exact law of ExchangeNew (printed by gen_law.py). -/
import Derived.Test.YtedadhoneebfnaaJ10
import Derived.Test.YtedadhoneebfnaaJ11
import Derived.Test.YtedadhoneebfnaaEs
set_option linter.unusedSimpArgs false
set_option linter.unusedVariables false
namespace Go.Proofs.Ytedadhoneebfnaa
open Go.RowKit


noncomputable def newR (O E M : Int) (ps : List ByteArray) : (Int × Int × Int) × (List ByteArray × List Cl) × Unit := (((newE O E M ps).1, (newE O E M ps).2.1, (newE O E M ps).2.2.1), ((newE O E M ps).2.2.2, []), ())
theorem newR_small (O E M : Int) (ps : List ByteArray) : (newR O E M ps).2.1.1.length ≤ 13 ∧ (newR O E M ps).2.1.2.length ≤ 13 := by
  unfold newR newE
  split
  · rename_i h
    exact ok_small ((exB_iff _ _ _ _ _).1 h)
  · simp

set_option maxRecDepth 100000 in
set_option maxHeartbeats 16000000 in
theorem exExchangeNew (O E M : Int) (vd : Value) (ps : List ByteArray) (w : World) (hD : Rds w vd ps.length 1 (strs ps)) (hL : StLen ps) :
    Calls Try.prog 6 #[.agg #[.int .i64 O, .int .i64 E, .int .i64 M], vd] w fun e w' => e = .returned (.bool true) ∧ Below w.heap.size w w' := by
  have hB0 := Blk.new (w := w) (cs := #[.int .i64 O, .int .i64 E, .int .i64 M]) (T := 23) rfl
  have hb0 : Below w.heap.size w (w.alloc (.cells #[.int .i64 O, .int .i64 E, .int .i64 M] 23)) := by (repeat' (first | (with_reducible exact Below.refl _ _) | (with_reducible assumption) | (with_reducible refine Below.drew ?_) | (with_reducible refine below_drewN ?_ _) | (with_reducible refine Below.alloc ?_ ?_ _) | (with_reducible refine Below.setCell ?_ ?_ _) | (refine Below.trans ?_ (Below.mono (by assumption) (by first | omega | (with_reducible exact Below.size (by assumption)) | (simp; done) | (simp; omega)))) | (with_reducible exact Nat.le_refl _) | omega | (with_reducible exact Below.size (by assumption)) | (simp only [World.size_alloc, World.size_setCell, World.size_drew]; omega) | (simp; done) | (simp; omega)))
  have HL := Lib.hid hL
  have HDS := Lib.hid hD
  obtain ⟨⟨⟨O', E', M'⟩, ⟨ps', cs'⟩, x⟩, hr⟩ : ∃ r : (Int × Int × Int) × (List ByteArray × List Cl) × Unit, newR O E M ps = r := ⟨_, rfl⟩
  have hsm := newR_small O E M ps
  rw [hr] at hsm
  obtain ⟨hsm1, hsm2⟩ := hsm
  simp only at hsm1 hsm2
  have hr1 : newE O E M ps = (O', E', M', ps') ∧ cs' = [] := by
    unfold newR at hr
    simp only [Prod.mk.injEq] at hr
    obtain ⟨⟨h1, h2, h3⟩, ⟨h4, h5⟩, _⟩ := hr
    exact ⟨by rw [← h1, ← h2, ← h3, ← h4], h5.symm⟩
  have KS : Hid (∀ (vd : Value) (W : World), Rds W vd ps.length 1 (strs ps) → SomeV vd ps.length → ps.length ≤ 1048576 → Calls Try.prog 27 #[.agg #[.int .i64 O, .int .i64 E, .int .i64 M], vd] W (ExNew O' E' M' ps' cs' W)) := fun vd W h1 h2 h3 => (sExchangeNew_any O E M vd ps W h1 (by omega) hL).mono fun e w' h => (by unfold NewPost at h; rw [hr1.1] at h; rw [hr1.2]; exact h)
  have KI : Hid (∀ (vd : Value) (W : World), Rds W vd ps.length 1 (strs ps) → SomeV vd ps.length → ps.length ≤ 1048576 → Calls Try.prog 30 #[.agg #[.int .i64 O, .int .i64 E, .int .i64 M], vd] W (ExNew O' E' M' ps' cs' W)) := fun vd W h1 h2 h3 => (iExchangeNew_any O E M vd ps W h1 h2 (by omega) hL).mono fun e w' h => (by unfold NewPost at h; rw [hr1.1] at h; rw [hr1.2]; exact h)
  obtain ⟨_, hdm, a3, c3, rfl, hdn, _⟩ := hD
  unfold maxLen at hdm
  clear hL hr hr1
  go_enter Try.func6, Try.ntmps6
  obtain ⟨bq0, bq1, bq2, -, -, -, bqlt⟩ := hB0.three
  go_wp2_with fail
  refine (szStringS_any _ ps _ (HDS.out.below hb0) HL.out).mono ?_
  rintro e w1 ⟨z, rfl, hz0, hz1, hz2, hww⟩
  subst hww
  by_cases hz : 0 ≤ z
  case neg =>
    clear hz2
    go_wp2
    go_returns
    exact ⟨rfl, hb0⟩
  have HPN := Lib.hid (hz2 hz).1
  clear hz2
  have HSTART := Lib.hid (show w.heap.size + 1 ≤ (w.alloc (.cells #[.int .i64 O, .int .i64 E, .int .i64 M] 23)).heap.size from hB0.lt)
  clear bq0 bq1 bq2 bqlt
  go_upto_region 5 with fail
  go_cut [6] (fun tb wc3 => ∃ (b : Nat) (vq vr : Value), tb = .pointer (some ⟨b, 0, none⟩) ∧ ExRes (w.alloc (.cells #[.int .i64 O, .int .i64 E, .int .i64 M] 23)) wc3 b O' E' M' vq vr ps' cs')
  case first =>
    obtain ⟨bq0, bq1, bq2, -, -, -, bqlt⟩ := hB0.three
    go_wp2_with fail
    refine (toShape_any O E M _).mono ?_
    rintro e w4 ⟨rfl, hq4⟩
    have hc4 : Below (w.alloc (.cells #[.int .i64 O, .int .i64 E, .int .i64 M] 23)).heap.size (w.alloc (.cells #[.int .i64 O, .int .i64 E, .int .i64 M] 23)) _ := (Below.refl (w.alloc (.cells #[.int .i64 O, .int .i64 E, .int .i64 M] 23)).heap.size (w.alloc (.cells #[.int .i64 O, .int .i64 E, .int .i64 M] 23))).trans (Below.mono hq4 (Below.refl (w.alloc (.cells #[.int .i64 O, .int .i64 E, .int .i64 M] 23)).heap.size (w.alloc (.cells #[.int .i64 O, .int .i64 E, .int .i64 M] 23))).size)
    have hd4 : Below w.heap.size w _ := hb0.trans (Below.mono hq4 hb0.size)
    go_wp2_with fail
    refine (toStringS_any _ ps _ (HDS.out.below hd4) HPN.out).mono ?_
    rintro e w5 ⟨gd5, rfl, hgd5, od5, hq5⟩
    have hc5 : Below (w.alloc (.cells #[.int .i64 O, .int .i64 E, .int .i64 M] 23)).heap.size (w.alloc (.cells #[.int .i64 O, .int .i64 E, .int .i64 M] 23)) _ := hc4.trans (Below.mono hq5 hc4.size)
    have hd5 : Below w.heap.size w _ := hd4.trans (Below.mono hq5 hd4.size)
    go_wp2_with fail
    refine (KS.out _ _ (Rds.ofOwn od5) (.inr ⟨_, _, _, rfl⟩) HPN.out).mono ?_
    rintro e w6 ⟨vq6, vr6, rfl, o6, hq6⟩
    obtain ⟨aq6, cq6, ar6, cr6, rfl, rfl⟩ := agg_parts o6
    have gdl6 := Own.below hq6 od5.lt od5
    have hc6 : Below (w.alloc (.cells #[.int .i64 O, .int .i64 E, .int .i64 M] 23)).heap.size (w.alloc (.cells #[.int .i64 O, .int .i64 E, .int .i64 M] 23)) _ := hc5.trans (Below.mono hq6 hc5.size)
    have hd6 : Below w.heap.size w _ := hd5.trans (Below.mono hq6 hd5.size)
    have hRS := ExRes.mkA (O := O') (E := E') (M := M') hc6 o6 hc5.size
    go_wp2_with fail
    go_meet
    exact ⟨_, _, _, rfl, hRS⟩
  case rest =>
    obtain ⟨wc3, rfl⟩ : ∃ wo : World, wo = wc := ⟨_, rfl⟩
    obtain ⟨bW, vWp, vWc, rfl, hRS⟩ := hcut
    obtain ⟨aWp, cWp, aWc, cWc, rfl, rfl⟩ := agg_parts hRS.own
    have hb7 : Below w.heap.size w _ := hb0.trans (Below.mono hRS.bel hb0.size)
    have fB7 := hB0.belowAll hRS.bel
    clear hb0 hB0 
    have hW := hRS.box
    have oW := hRS.own
    have APW1 := Lib.hid hRS.ap1
    have APW2 := Lib.hid hRS.ap2
    have BGW := Lib.hid hRS.big
    have LTW := Lib.hid hW.lt
    have HIW1 := Lib.hid (Hi.of oW.plan)
    have HIW2 := Lib.hid (Hi.of oW.calls)
    have LOW1 := Lib.hid (Lo.of oW.plan)
    have LOW2 := Lib.hid (Lo.of oW.calls)
    have SZW := Lib.hid (show (w.alloc (.cells #[.int .i64 O, .int .i64 E, .int .i64 M] 23)).heap.size ≤ wc3.heap.size from hRS.bel.size)
    clear hRS
    obtain ⟨bq0, bq1, bq2, -, -, -, bqlt⟩ := fB7.three
    go_wp2_with fail
    refine (toStringS_any _ ps _ (HDS.out.below hb7) HPN.out).mono ?_
    rintro e w8 ⟨gx, rfl, hgx, odx, hq⟩
    have HGX := Lib.hid hgx
    clear hgx
    have SZXD := Lib.hid hq.size
    clear bq0 bq1 bq2 bqlt
    have hb9 : Below w.heap.size w _ := hb7.trans (Below.mono hq hb7.size)
    have fB9 := fB7.belowAll hq
    have fW9 := hW.belowAll hq
    have fWO9 := oW.below hq
    clear hb7 fB7 hW oW hq
    have LTXD := Lib.hid odx.lt
    go_upto_region 7 with fail
    go_cut [8] (fun tb wc10 => ∃ (b : Nat) (vq vr : Value), tb = .pointer (some ⟨b, 0, none⟩) ∧ ExRes w8 wc10 b O' E' M' vq vr ps' cs')
    case first =>
      obtain ⟨bq0, bq1, bq2, -, -, -, bqlt⟩ := fB9.three
      go_wp2_with fail
      refine (toShape_any O E M _).mono ?_
      rintro e w11 ⟨rfl, hq11⟩
      have gdl11 := Own.below hq11 odx.lt odx
      have hc11 : Below w8.heap.size w8 _ := (Below.refl w8.heap.size w8).trans (Below.mono hq11 (Below.refl w8.heap.size w8).size)
      have hd11 : Below w.heap.size w _ := hb9.trans (Below.mono hq11 hb9.size)
      go_wp2_with fail
      refine (KI.out _ _ (Rds.ofOwn gdl11) (.inr ⟨_, _, _, rfl⟩) HPN.out).mono ?_
      rintro e w12 ⟨vq12, vr12, rfl, o12, hq12⟩
      obtain ⟨aq12, cq12, ar12, cr12, rfl, rfl⟩ := agg_parts o12
      have gdl12 := Own.below hq12 gdl11.lt gdl11
      have hc12 : Below w8.heap.size w8 _ := hc11.trans (Below.mono hq12 hc11.size)
      have hd12 : Below w.heap.size w _ := hd11.trans (Below.mono hq12 hd11.size)
      have hRS := ExRes.mkA (O := O') (E := E') (M := M') hc12 o12 hc11.size
      go_wp2_with fail
      go_meet
      exact ⟨_, _, _, rfl, hRS⟩
    case rest =>
      obtain ⟨wc10, rfl⟩ : ∃ wo : World, wo = wc := ⟨_, rfl⟩
      obtain ⟨bG, vGp, vGc, rfl, hRS⟩ := hcut
      obtain ⟨aGp, cGp, aGc, cGc, rfl, rfl⟩ := agg_parts hRS.own
      have hb13 : Below w.heap.size w _ := hb9.trans (Below.mono hRS.bel hb9.size)
      have fB13 := fB9.belowAll hRS.bel
      have fW13 := fW9.belowAll hRS.bel
      have fWO13 := fWO9.below hRS.bel
      have fXD13 := Own.below hRS.bel odx.lt odx
      clear hb9 fB9 fW9 fWO9 odx 
      have hG := hRS.box
      have oG := hRS.own
      have APG1 := Lib.hid hRS.ap1
      have APG2 := Lib.hid hRS.ap2
      have BGG := Lib.hid hRS.big
      have LTG := Lib.hid hG.lt
      have HIG1 := Lib.hid (Hi.of oG.plan)
      have HIG2 := Lib.hid (Hi.of oG.calls)
      have LOG1 := Lib.hid (Lo.of oG.plan)
      have LOG2 := Lib.hid (Lo.of oG.calls)
      have SZG := Lib.hid (show w8.heap.size ≤ wc10.heap.size from hRS.bel.size)
      clear hRS
      obtain ⟨gq0, gq1, gq2, gq3, gq4, -, -, -, -, -, gqlt⟩ := hG.five
      obtain ⟨wq0, wq1, wq2, wq3, wq4, -, -, -, -, -, wqlt⟩ := fW13.five
      go_wp2_with fail
      refine (eqExchange_any O' E' M' O' E' M' _ _ _ _ ps' ps' cs' cs' _ oG.rd fWO13.rd).mono ?_
      rintro e w14 ⟨rfl, hq⟩
      rw [decide_eq_true rfl, decide_eq_true rfl, decide_eq_true rfl]
      clear gq0 gq1 gq2 gq3 gq4 gqlt wq0 wq1 wq2 wq3 wq4 wqlt
      have hb15 : Below w.heap.size w _ := hb13.trans (Below.mono hq hb13.size)
      have fB15 := fB13.belowAll hq
      have fW15 := fW13.belowAll hq
      have fWO15 := fWO13.below hq
      have fXD15 := Own.below hq fXD13.lt fXD13
      have fG15 := hG.belowAll hq
      have fGO15 := oG.below hq
      clear hb13 fB13 fW13 fWO13 fXD13 hG oG hq
      obtain ⟨bq0, bq1, bq2, -, -, -, bqlt⟩ := fB15.three
      go_wp2_with fail
      refine (toStringS_any _ ps _ (HDS.out.below hb15) HPN.out).mono ?_
      rintro e w16 ⟨gy, rfl, hgy, ody, hq⟩
      clear bq0 bq1 bq2 bqlt
      have hb18 : Below w.heap.size w _ := hb15.trans (Below.mono hq hb15.size)
      have fB18 := fB15.belowAll hq
      have fW18 := fW15.belowAll hq
      have fWO18 := fWO15.below hq
      have fXD18 := Own.below hq fXD15.lt fXD15
      have fG18 := fG15.belowAll hq
      have fGO18 := fGO15.below hq
      clear hb15 fB15 fW15 fWO15 fXD15 fG15 fGO15 hq
      go_wp2_with fail
      refine (eqStringS_any _ _ ps ps _ (Rds.ofOwn fXD18) (Rds.ofOwn ody)).mono ?_
      rintro e w17 ⟨rfl, hq⟩
      rw [decide_eq_true rfl]
      clear ody hgy
      have hb19 : Below w.heap.size w _ := hb18.trans (Below.mono hq hb18.size)
      have fB19 := fB18.belowAll hq
      have fW19 := fW18.belowAll hq
      have fWO19 := fWO18.below hq
      have fXD19 := Own.below hq fXD18.lt fXD18
      have fG19 := fG18.belowAll hq
      have fGO19 := fGO18.below hq
      clear hb18 fB18 fW18 fWO18 fXD18 fG18 fGO18 hq
      have NW := LTW.out
      have NG := BGG.out
      have NS := HSTART.out
      have SW := SZW.out
      have NXD := LTXD.out
      have GX := HGX.out
      have SXD := SZXD.out
      go_wp2_with fail
      refine (markStrs_any gx _ ps.length ps 1 _ (fXD19.back (Nat.le_refl _)) (by omega) (by omega) (by have := HPN.out; omega)).mono ?_
      rintro e w20 ⟨rfl, -, hg20⟩
      have hxl : Lo (.slice (some ⟨gx, 0, none⟩) ps.length ps.length) (gx + 1) := fun k hk => by cases hk; exact Nat.lt_succ_self _
      have hxh : Hi (.slice (some ⟨gx, 0, none⟩) ps.length ps.length) gx := fun k hk => by cases hk; exact Nat.le_refl _
      have hb20 : Below w.heap.size w _ := hb19.grown hg20 hb19.size (hxh.mono (by omega))
      have fB20 := Blk.gbr hg20 (hxh.ne (by omega)) fB19
      have fW20 := Blk.gbr hg20 (hxh.ne (by omega)) fW19
      have fWO20 := fWO19.kept hg20 ((LOW1.out.mono (by omega)).apart hxh) ((LOW2.out.mono (by omega)).apart hxh)
      have fG20 := Blk.gbr hg20 (hxl.ne (by omega)) fG19
      have fGO20 := fGO19.kept hg20 ((HIG1.out.mono (by omega)).apart hxl) ((HIG2.out.mono (by omega)).apart hxl)
      clear hg20 hxl hxh hb19 fXD19 fB19 fW19 fWO19 fG19 fGO19
      have hk8 : ¬ ((1 + ps.length : Nat) : Int) < 0 := by omega
      clear NW NG NS SW NXD GX SXD
      obtain ⟨gq0, gq1, gq2, gq3, gq4, -, -, -, -, -, gqlt⟩ := fG20.five
      obtain ⟨wq0, wq1, wq2, wq3, wq4, -, -, -, -, -, wqlt⟩ := fW20.five
      go_wp2_with fail
      refine (eqExchange_any O' E' M' O' E' M' _ _ _ _ ps' ps' cs' cs' _ fGO20.rd fWO20.rd).mono ?_
      rintro e w21 ⟨rfl, hq⟩
      rw [decide_eq_true rfl, decide_eq_true rfl, decide_eq_true rfl]
      clear gq0 gq1 gq2 gq3 gq4 gqlt wq0 wq1 wq2 wq3 wq4 wqlt
      have hb22 : Below w.heap.size w _ := hb20.trans (Below.mono hq hb20.size)
      have fB22 := fB20.belowAll hq
      have fW22 := fW20.belowAll hq
      have fWO22 := fWO20.below hq
      have fG22 := fG20.belowAll hq
      have fGO22 := fGO20.below hq
      clear hb20 fB20 fW20 fWO20 fG20 fGO20 hq
      clear hk8
      have NW := LTW.out
      have NG := BGG.out
      have NS := HSTART.out
      have SW := SZW.out
      have NXD := LTXD.out
      have GX := HGX.out
      have SXD := SZXD.out
      obtain ⟨gq0, gq1, gq2, gq3, gq4, -, -, -, -, -, gqlt⟩ := fG22.five
      go_wp2_with fail
      refine (markExchange_any O' E' M' _ _ _ ps' cs' 1 _ fGO22 (by omega) (by omega) (by first | omega | (have := HPN.out; omega)) (by first | omega | (have := HCN.out; omega))).mono ?_
      rintro e w23 ⟨rfl, om23, hg23⟩
      clear gq0 gq1 gq2 gq3 gq4 gqlt
      have HB1 := HIG1.out
      have HB2 := HIG2.out
      have LB1 := LOG1.out
      have LB2 := LOG2.out
      have hb23 : Below w.heap.size w _ := Below.gb2 hb22 hg23 hb22.size (HB1.mono (by omega)) (HB2.mono (by omega))
      have fB23 := fB22.gb2 hg23 (HB1.ne (by omega)) (HB2.ne (by omega))
      have fW23 := fW22.gb2 hg23 (HB1.ne (by omega)) (HB2.ne (by omega))
      have fWO23 := fWO22.kept2 hg23 ((LOW1.out.mono (by omega)).apart HB1) ((LOW2.out.mono (by omega)).apart HB1) ((LOW1.out.mono (by omega)).apart HB2) ((LOW2.out.mono (by omega)).apart HB2)
      have fG23 := fG22.gb2 hg23 (ap_ne APG1.out) (ap_ne APG2.out)
      have fGO23 := om23
      clear hg23 om23 HB1 HB2 LB1 LB2 hb22 fB22 fW22 fWO22 fG22 fGO22
      clear NW NG NS SW NXD GX SXD
      obtain ⟨gq0, gq1, gq2, gq3, gq4, -, -, -, -, -, gqlt⟩ := fG23.five
      go_wp2_with fail
      refine (heldExchange_any O' E' M' _ _ ps'.length cs'.length 1 _ fGO23.rd (by omega) (by omega) (by omega) (by omega)).mono ?_
      rintro e w24 ⟨rfl, hq⟩
      clear gq0 gq1 gq2 gq3 gq4 gqlt
      have hb25 : Below w.heap.size w _ := hb23.trans (Below.mono hq hb23.size)
      have fB25 := fB23.belowAll hq
      have fW25 := fW23.belowAll hq
      have fWO25 := fWO23.below hq
      have fG25 := fG23.belowAll hq
      have fGO25 := fGO23.below hq
      clear hb23 fB23 fW23 fWO23 fG23 fGO23 hq
      have hkb : ¬ ((1 + ps'.length + 3 * cs'.length : Nat) : Int) < 0 := by omega
      have hqb : (((1 + ps'.length + 3 * cs'.length : Nat) : Int) != ((1 + ps'.length + 3 * cs'.length : Nat) : Int)) = false := by simp
      go_upto_region 24 with fail
      go_cut [12] (fun tb wc26 => ∃ (b : Nat) (vq vr : Value), tb = .pointer (some ⟨b, 0, none⟩) ∧ ExRes w24 wc26 b O' E' M' vq vr ps' cs')
      case first =>
        obtain ⟨bq0, bq1, bq2, -, -, -, bqlt⟩ := fB25.three
        go_wp2_with fail
        refine (toShape_any O E M _).mono ?_
        rintro e w27 ⟨rfl, hq27⟩
        have hc27 : Below w24.heap.size w24 _ := (Below.refl w24.heap.size w24).trans (Below.mono hq27 (Below.refl w24.heap.size w24).size)
        have hd27 : Below w.heap.size w _ := hb25.trans (Below.mono hq27 hb25.size)
        go_wp2_with fail
        refine (toStringS_any _ ps _ (HDS.out.below hd27) HPN.out).mono ?_
        rintro e w28 ⟨gd28, rfl, hgd28, od28, hq28⟩
        have hc28 : Below w24.heap.size w24 _ := hc27.trans (Below.mono hq28 hc27.size)
        have hd28 : Below w.heap.size w _ := hd27.trans (Below.mono hq28 hd27.size)
        go_wp2_with fail
        refine (KI.out _ _ (Rds.ofOwn od28) (.inr ⟨_, _, _, rfl⟩) HPN.out).mono ?_
        rintro e w29 ⟨vq29, vr29, rfl, o29, hq29⟩
        obtain ⟨aq29, cq29, ar29, cr29, rfl, rfl⟩ := agg_parts o29
        have gdl29 := Own.below hq29 od28.lt od28
        have hc29 : Below w24.heap.size w24 _ := hc28.trans (Below.mono hq29 hc28.size)
        have hd29 : Below w.heap.size w _ := hd28.trans (Below.mono hq29 hd28.size)
        have hRS := ExRes.mkA (O := O') (E := E') (M := M') hc29 o29 hc28.size
        go_wp2_with fail
        go_meet
        exact ⟨_, _, _, rfl, hRS⟩
      case rest =>
        obtain ⟨wc26, rfl⟩ : ∃ wo : World, wo = wc := ⟨_, rfl⟩
        obtain ⟨bH, vHp, vHc, rfl, hRS⟩ := hcut
        obtain ⟨aHp, cHp, aHc, cHc, rfl, rfl⟩ := agg_parts hRS.own
        have hb30 : Below w.heap.size w _ := hb25.trans (Below.mono hRS.bel hb25.size)
        have fB30 := fB25.belowAll hRS.bel
        have fW30 := fW25.belowAll hRS.bel
        have fWO30 := fWO25.below hRS.bel
        have fG30 := fG25.belowAll hRS.bel
        have fGO30 := fGO25.below hRS.bel
        clear hb25 fB25 fW25 fWO25 fG25 fGO25 
        have hH := hRS.box
        have oH := hRS.own
        have APH1 := Lib.hid hRS.ap1
        have APH2 := Lib.hid hRS.ap2
        have BGH := Lib.hid hRS.big
        have LTH := Lib.hid hH.lt
        have HIH1 := Lib.hid (Hi.of oH.plan)
        have HIH2 := Lib.hid (Hi.of oH.calls)
        have LOH1 := Lib.hid (Lo.of oH.plan)
        have LOH2 := Lib.hid (Lo.of oH.calls)
        have SZH := Lib.hid (show w24.heap.size ≤ wc26.heap.size from hRS.bel.size)
        clear hRS
        obtain ⟨hq0, hq1, hq2, hq3, hq4, -, -, -, -, -, hqlt⟩ := hH.five
        obtain ⟨wq0, wq1, wq2, wq3, wq4, -, -, -, -, -, wqlt⟩ := fW30.five
        go_wp2_with fail
        refine (eqExchange_any O' E' M' O' E' M' _ _ _ _ ps' ps' cs' cs' _ oH.rd fWO30.rd).mono ?_
        rintro e w31 ⟨rfl, hq⟩
        rw [decide_eq_true rfl, decide_eq_true rfl, decide_eq_true rfl]
        clear hq0 hq1 hq2 hq3 hq4 hqlt wq0 wq1 wq2 wq3 wq4 wqlt
        have hb32 : Below w.heap.size w _ := hb30.trans (Below.mono hq hb30.size)
        have fB32 := fB30.belowAll hq
        have fW32 := fW30.belowAll hq
        have fWO32 := fWO30.below hq
        have fG32 := fG30.belowAll hq
        have fGO32 := fGO30.below hq
        have fH32 := hH.belowAll hq
        have fHO32 := oH.below hq
        clear hb30 fB30 fW30 fWO30 fG30 fGO30 hH oH hq
        obtain ⟨gq0, gq1, gq2, gq3, gq4, -, -, -, -, -, gqlt⟩ := fG32.five
        go_wp2_with fail
        refine (heldExchange_any O' E' M' _ _ ps'.length cs'.length 1 _ fGO32.rd (by omega) (by omega) (by omega) (by omega)).mono ?_
        rintro e w33 ⟨rfl, hq⟩
        clear gq0 gq1 gq2 gq3 gq4 gqlt
        have hb34 : Below w.heap.size w _ := hb32.trans (Below.mono hq hb32.size)
        have fB34 := fB32.belowAll hq
        have fW34 := fW32.belowAll hq
        have fWO34 := fWO32.below hq
        have fG34 := fG32.belowAll hq
        have fGO34 := fGO32.below hq
        have fH34 := fH32.belowAll hq
        have fHO34 := fHO32.below hq
        clear hb32 fB32 fW32 fWO32 fG32 fGO32 fH32 fHO32 hq
        go_wp2
        go_returns
        exact ⟨rfl, hb34⟩

end Go.Proofs.Ytedadhoneebfnaa
