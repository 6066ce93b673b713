/- Contract of ExRun (reference). -/
import Derived.Test.YtedadhoneebfnaaJ10
import Derived.Test.YtedadhoneebfnaaDj
set_option linter.unusedSimpArgs false
set_option linter.unusedVariables false
namespace Go.Proofs.Ytedadhoneebfnaa
open Go.RowKit

/-- Another block was written, which is none of these. -/
theorem RnSt.put {w W : World} {O E M : Int} {nb xb : Nat} {vq vr y0 y1 y2 y3 y4 : Value} {ps : List ByteArray} {cs : List Cl} (h : RnSt w W O E M nb vq vr ps cs) (hx : nb < xb) (h1 : vq.ownBlock = none ∨ vq.ownBlock ≠ some xb) (h2 : vr.ownBlock = none ∨ vr.ownBlock ≠ some xb) :
  RnSt w (((((W.setCell ⟨xb, 0, none⟩ y0).setCell ⟨xb, 1, none⟩ y1).setCell ⟨xb, 2, none⟩ y2).setCell ⟨xb, 3, none⟩ y3).setCell ⟨xb, 4, none⟩ y4) O E M nb vq vr ps cs := by
 have hbg := h.big
 exact ⟨five_below _ _ _ _ _ h.bel (by omega), (((((h.res.other (by show _ ≠ xb; omega)).other (by show _ ≠ xb; omega)).other (by show _ ≠ xb; omega)).other (by show _ ≠ xb; omega)).other (by show _ ≠ xb; omega)), (((((h.nxt.other (by show _ ≠ xb; omega)).other (by show _ ≠ xb; omega)).other (by show _ ≠ xb; omega)).other (by show _ ≠ xb; omega)).other (by show _ ≠ xb; omega)), h.own.kept (five_gb _ _ _ _ _ _ _) h1 h2, h.ap1, h.ap2, hbg⟩

set_option maxRecDepth 100000 in
set_option maxHeartbeats 8000000 in
theorem sExRun_any (O E M : Int) (vp vc vd : Value) (ps : List ByteArray) (cs : List Cl) (ds : List Dd) (w : World) (hR : ExRd w vp vc ps cs) (hn : SomeV vp ps.length) (hL : StLen ps) (hD : Rds w vd ds.length 3 (dcells ds)) (hDL : DdLen ds) :
  Calls Try.prog 59 #[.agg #[.int .i64 O, .int .i64 E, .int .i64 M, vp, vc], vd] w (RunPost (runX O E M ps cs ds) w) := by
 have hB := (Blk.new (w := w) (cs := #[.int .i64 O, .int .i64 E, .int .i64 M, vp, vc]) (T := 33) rfl).alloc (.cells #[.int .i64 0, .int .i64 0, .int .i64 0, .slice none 0 0, .slice none 0 0] 33)
 have hZ := Blk.new (w := w.alloc (.cells #[.int .i64 O, .int .i64 E, .int .i64 M, vp, vc] 33)) (cs := #[.int .i64 0, .int .i64 0, .int .i64 0, .slice none 0 0, .slice none 0 0]) (T := 33) (b := w.heap.size + 1) (by simp)
 have hbel0 : Below w.heap.size w ((w.alloc (.cells #[.int .i64 O, .int .i64 E, .int .i64 M, vp, vc] 33)).alloc (.cells #[.int .i64 0, .int .i64 0, .int .i64 0, .slice none 0 0, .slice none 0 0] 33)) := by (exact grownA)
 have HR := Lib.hid hR
 have HNN := Lib.hid hn
 have HL := Lib.hid hL
 have HDL := Lib.hid hDL
 obtain ⟨_, _, a1, c1, rfl, _⟩ := hR.plan
 obtain ⟨_, _, a2, c2, rfl, _⟩ := hR.calls
 obtain ⟨_, hm, a3, c3, rfl, hn3, hc3⟩ := hD
 unfold maxLen at hm
 obtain ⟨m, hmm⟩ : ∃ m, ds.length = m := ⟨_, rfl⟩
 have HN := Lib.hid hmm
 rw [hmm] at hm hn3 hc3 ⊢
 have HC3 := Lib.hid hc3
 obtain ⟨b0, b1, b2, b3, b4, -, -, -, -, -, blt⟩ := hB.five
 clear hR hn hL hDL hc3 hmm
 go_enter Try.func59, Try.ntmps59
 go_wp2_with fail
 refine (sExchangeValid_any O E M _ _ ps cs _ (HR.out.below hbel0) HL.out).mono ?_
 rintro e w1 ⟨rfl, hb1⟩
 have hbel1 : Below w.heap.size w w1 := by (exact grownA)
 have hB1 := hB.belowAll hb1
 have hZ1 := hZ.belowAll hb1
 clear hB hZ hb1 hbel0 b0 b1 b2 b3 b4 blt
 obtain ⟨b0, b1, b2, b3, b4, -, -, -, -, -, blt⟩ := hB1.five
 obtain ⟨r0, r1, r2, r3, r4, f0, f1, f2, f3, f4, rlt⟩ := hZ1.five
 obtain ⟨d, hd⟩ : ∃ d, exB O E M ps cs = d := ⟨_, rfl⟩
 have HD := Lib.hid hd
 rw [hd]
 clear hd
 cases d
 ·
  go_wp2
  obtain ⟨z0, z1, z2, z3, z4, -⟩ := (five_set (y0 := .int .i64 0) (y1 := .int .i64 0) (y2 := .int .i64 0) (y3 := .slice none 0 0) (y4 := .slice none 0 0) hZ1).five
  refine bodyPost_ret (v := .tuple #[.agg #[.int .i64 0, .int .i64 0, .int .i64 0, .slice none 0 0, .slice none 0 0], .int .i64 0]) (by simp [results, Try.results59, go_sem, z0, z1, z2, z3, z4, r0, r1, r2, r3, r4]) rfl ?_
  rw [runX_no HD.out]
  exact ⟨_, _, rfl, ExOwn.nothing _ _, five_below _ _ _ _ _ hbel1 (by omega)⟩
 have HOK := Lib.hid ((exB_iff _ _ _ _ _).1 HD.out)
 have hcn := HOK.out.calls.count (lines_le HOK.out.calls.sh)
 have hpn := HOK.out.lines.2
 go_wp2_with fail
 refine (l8Copy_any O E M _ _ ps cs _ (HR.out.below hbel1) (by omega) (by omega)).mono ?_
 rintro e w2 ⟨vq, vr, rfl, ho2, hb2⟩
 have hbel2 : Below w.heap.size w w2 := hbel1.trans (Below.mono hb2 hbel1.size)
 have hz2 : w.heap.size + 2 ≤ w2.heap.size := by have := hZ1.lt; have := hb2.size; omega
 have hz1 : w.heap.size + 2 ≤ w1.heap.size := hZ1.lt
 obtain ⟨aq, cq, ar, cr, rfl, rfl⟩ := agg_parts ho2
 have hst : RnSt w (w2.alloc (.cells #[.int .i64 O, .int .i64 E, .int .i64 M, .slice aq ps.length cq, .slice ar cs.length cr] 33)) O E M w2.heap.size (.slice aq ps.length cq) (.slice ar cs.length cr) ps cs :=
  ⟨hbel2.alloc hbel2.size _, (hZ1.belowAll hb2).alloc _, Blk.new rfl, (ho2.lower hz1).below (by (exact grownA)), own_new8 ho2.plan, own_new8 ho2.calls, hz2⟩
 clear hZ1 hB1 hb2 ho2 b0 b1 b2 b3 b4 blt r0 r1 r2 r3 r4 f0 f1 f2 f3 f4 rlt
 obtain ⟨nb, hnb⟩ : ∃ nb, w2.heap.size = nb := ⟨_, rfl⟩
 rw [hnb] at hst
 go_wp2_with fail
 try rw [hnb]
 clear hnb
 go_loopw [7, 8] (fun t i wr => ∃ (k n : Nat) (vq vr : Value) (ps' : List ByteArray) (cs' : List Cl), i = .int .i64 k ∧ t = .int .i64 n ∧ k ≤ m ∧ n ≤ k ∧ Hid (runL E M ps cs (ds.take k) = ((ps', cs'), n)) ∧ Hid (ExOk O E M ps' cs') ∧ RnSt w wr O E M nb vq vr ps' cs') (fun _ i _ => m - (intOf i).toNat)
 case atStart => exact ⟨0, 0, _, _, ps, cs, rfl, rfl, Nat.zero_le _, Nat.le_refl _, rfl, HOK.out, hst⟩
 case round =>
  clear hst hbel2 hbel1
  obtain ⟨k, n, vq, vr, ps', cs', rfl, rfl, hk, hnk, HRN, HOK2, hst⟩ := hrel
  obtain ⟨aq, cq, ar, cr, rfl, rfl⟩ := agg_parts hst.own
  obtain ⟨n0, n1, n2, n3, n4, g0, g1, g2, g3, g4, nlt⟩ := hst.nxt.five
  obtain ⟨r0, r1, r2, r3, r4, f0, f1, f2, f3, f4, rlt⟩ := hst.res.five
  have hbg := hst.big
  by_cases hkm : k < m
  ·
   rcases HC3.out with h | ⟨b, off, rfl, hbl, hc3⟩
   ·
    omega
   obtain ⟨x, hx⟩ : ∃ x, ds[k]? = some x := ⟨_, List.getElem?_eq_getElem (by rw [HN.out]; omega)⟩
   obtain ⟨q1, q2, q3⟩ := dcells_at ds k x hx
   have k1 : wr.cell? ⟨b, off + k * 3, none⟩ = some (.int .i64 x.1) := by rw [hst.bel.cell (p := ⟨b, off + k * 3, none⟩) hbl, hc3 _ (by omega), q1]
   have k2 : wr.cell? ⟨b, off + k * 3 + 1, none⟩ = some (.int .i64 x.2.1) := by rw [Nat.add_assoc, hst.bel.cell (p := ⟨b, off + (k * 3 + 1), none⟩) hbl, hc3 _ (by omega), q2]
   have k3 : wr.cell? ⟨b, off + k * 3 + 2, none⟩ = some (.string x.2.2) := by rw [Nat.add_assoc, hst.bel.cell (p := ⟨b, off + (k * 3 + 2), none⟩) hbl, hc3 _ (by omega), q3]
   have HXL := Lib.hid (HDL.out k x hx)
   have HSN : Hid (runL E M ps cs (ds.take (k + 1)) = stepL E M ((ps', cs'), n) x) := by unfold Hid; rw [run_snoc hx, HRN.out]
   clear hx q1 q2 q3 hc3
   obtain ⟨xk, xl, xs⟩ := x
   simp only at k1 k2 k3
   have ki0 : (0 : Int) ≤ (k : Int) := by omega
   have ki1 : (k : Int) < (m : Int) := by omega
   have hblr : b < wr.heap.size := by have := hst.bel.size; omega
   go_upto_region 8 with fail
   go_cut [9, 10] (fun t9 t10 wc => ∃ (xb n2' : Nat) (b' : Bool) (vq2 vr2 : Value) (ps2 : List ByteArray) (cs2 : List Cl), t9 = .pointer (some ⟨xb, 0, none⟩) ∧ t10 = .bool b' ∧ RnSt w wc O E M nb (.slice aq ps'.length cq) (.slice ar cs'.length cr) ps' cs' ∧ Blk wc xb #[.int .i64 O, .int .i64 E, .int .i64 M, vq2, vr2] 33 ∧ ExOwn wc (nb + 1) vq2 vr2 ps2 cs2 ∧ Hid (runL E M ps cs (ds.take (k + 1)) = ((ps2, cs2), n2')) ∧ Hid (ExOk O E M ps2 cs2) ∧ Hid (b' = true ∧ n2' = n + 1 ∨ b' = false ∧ n2' = n ∧ ps2 = ps' ∧ cs2 = cs'))
   case first =>
    clear r0 r1 r2 r3 r4 f0 f1 f2 f3 f4 rlt
    go_wp2_with fail
    refine wp_region_held_drew (S := fun w' => (w'.cell? ⟨nb, 0, none⟩ = some (.int .i64 O) ∧ w'.cell? ⟨nb, 1, none⟩ = some (.int .i64 E) ∧ w'.cell? ⟨nb, 2, none⟩ = some (.int .i64 M) ∧ w'.cell? ⟨nb, 3, none⟩ = some (.slice aq ps'.length cq) ∧ w'.cell? ⟨nb, 4, none⟩ = some (.slice ar cs'.length cr)) ∧ w'.cell? ⟨b, off + k * 3, none⟩ = some (.int .i64 xk) ∧ w'.cell? ⟨b, off + k * 3 + 1, none⟩ = some (.int .i64 xl) ∧ w'.cell? ⟨b, off + k * 3 + 2, none⟩ = some (.string xs)) (by kernel_rfl) (by (try dsimp only); (exact keepA)) (fun hHeld => ?_)
    refine take_y 0 24 (v := ?_) rfl ?_ ?_; rotate_left; focus (intro w hSw; (try dsimp only at hSw); go_simp; (try rw [if_neg (by omega)]); (try with_reducible rfl))
    try simp only [Act.put, zp1, zp2, zp3]
    refine take_y 1 25 (v := ?_) rfl ?_ ?_; rotate_left; focus (intro w hSw; (try dsimp only at hSw); go_simp; (try rw [if_neg (by omega)]); (try with_reducible rfl))
    try simp only [Act.put, zp1, zp2, zp3]
    refine take_y 2 26 (v := ?_) rfl ?_ ?_; rotate_left; focus (intro w hSw; (try dsimp only at hSw); go_simp; (try rw [if_neg (by omega)]); (try with_reducible rfl))
    try simp only [Act.put, zp1, zp2, zp3]
    refine take_y 3 27 (v := ?_) rfl ?_ ?_; rotate_left; focus (intro w hSw; (try dsimp only at hSw); go_simp; (try rw [if_neg (by omega)]); (try with_reducible rfl))
    try simp only [Act.put, zp1, zp2, zp3]
    refine take_y 4 28 (v := ?_) rfl ?_ ?_; rotate_left; focus (intro w hSw; (try dsimp only at hSw); go_simp; (try rw [if_neg (by omega)]); (try with_reducible rfl))
    try simp only [Act.put, zp1, zp2, zp3]
    refine wpAnyH_ready (rs := [5, 9]) (by kernel_rfl) (by simp) ?_
    refine AllReadyH.cons rfl (fun K hK => ?_) (AllReadyH.cons rfl (fun K hK => ?_) AllReadyH.nil)
    ·
     go_simp
     refine (sExDo_any O E M _ _ ps' cs' xk xl xs _ hst.drew.own.rd (own_somev hst.own.plan) HOK2.out.lens HXL.out).mono ?_
     intro e w4 h4
     obtain ⟨vp', vc', b', ps2, cs2, n2', rfl, hs4, ho4, hb4, hca⟩ := doXQ_step (d := (xk, xl, xs)) n HOK2.out h4
     have hst4 := hst.drew.belowAll hb4
     have HOK4 := Lib.hid (step_ok2 HOK2.out hs4)
     have HR4 : Hid (runL E M ps cs (ds.take (k + 1)) = ((ps2, cs2), n2')) := by unfold Hid; rw [HSN.out]; exact hs4
     have HCA := Lib.hid hca
     have hz4 := hb4.size
     simp at hz4
     obtain ⟨a4, c4, a5, c5, rfl, rfl⟩ := agg_parts ho4
     clear h4 hs4 hst HSN HRN HOK2 hca
     refine hK.out _ _ againA (fun hHeld2 => ?_); clear hHeld hK K; have hHeld := hHeld2; clear hHeld2; (try simp only [Act.put, zp1, zp2, zp3])
     refine take_y 6 23 (v := ?_) rfl ?_ ?_; rotate_left; focus (intro w hSw; (try dsimp only at hSw); go_simp; (try rw [if_neg (by omega)]); (try with_reducible rfl))
     try simp only [Act.put, zp1, zp2, zp3]
     refine take_y 7 30 (v := ?_) rfl ?_ ?_; rotate_left; focus (intro w hSw; (try dsimp only at hSw); go_simp; (try rw [if_neg (by omega)]); (try with_reducible rfl))
     try simp only [Act.put, zp1, zp2, zp3]
     refine take_y 8 31 (v := ?_) rfl ?_ ?_; rotate_left; focus (intro w hSw; (try dsimp only at hSw); go_simp; (try rw [if_neg (by omega)]); (try with_reducible rfl))
     try simp only [Act.put, zp1, zp2, zp3]
     refine wpAnyH_ready (rs := [9]) (by kernel_rfl) (by simp) ?_
     refine AllReadyH.cons rfl (fun K hK => ?_) AllReadyH.nil
     go_simp
     refine hK.out _ _ againA (fun hHeld2 => ?_); clear hHeld hK K; have hHeld := hHeld2; clear hHeld2; (try simp only [Act.put, zp1, zp2, zp3])
     refine wpAnyH_ready (rs := [10]) (by kernel_rfl) (by simp) ?_
     refine AllReadyH.cons rfl (fun K hK => ?_) AllReadyH.nil
     go_simp
     refine hK.out _ _ againA (fun hHeld2 => ?_); clear hHeld hK K; have hHeld := hHeld2; clear hHeld2; (try simp only [Act.put, zp1, zp2, zp3])
     refine take_y 11 10 (v := ?_) rfl ?_ ?_; rotate_left; focus (intro w hSw; (try dsimp only at hSw); go_simp; (try rw [if_neg (by omega)]); (try with_reducible rfl))
     try simp only [Act.put, zp1, zp2, zp3]
     refine wpAnyH_done (by kernel_rfl) ?_ _
     clear hHeld
     go_wp2_with fail
     go_meet
     exact ⟨_, n2', b', _, _, ps2, cs2, rfl, rfl, hst4.alloc _, Blk.new rfl, (ho4.lower (by simp; omega)).below (by (exact grownA)), HR4, HOK4, HCA⟩
    ·
     go_simp
     refine hK.out _ _ againA (fun hHeld2 => ?_); clear hHeld hK K; have hHeld := hHeld2; clear hHeld2; (try simp only [Act.put, zp1, zp2, zp3])
     have hstA := hst.drew.alloc (.cells #[.int .i64 0, .int .i64 0, .int .i64 0, .slice none 0 0, .slice none 0 0] 33)
     have hX := Blk.new (w := wr.drew) (cs := #[.int .i64 0, .int .i64 0, .int .i64 0, .slice none 0 0, .slice none 0 0]) (T := 33) (b := wr.heap.size) rfl
     have hfar1 := own_new8 hst.own.plan
     have hfar2 := own_new8 hst.own.calls
     refine wpAnyH_ready (rs := [5]) (by kernel_rfl) (by simp) ?_
     refine AllReadyH.cons rfl (fun K hK => ?_) AllReadyH.nil
     go_simp
     refine (sExDo_any O E M _ _ ps' cs' xk xl xs _ hstA.own.rd (own_somev hst.own.plan) HOK2.out.lens HXL.out).mono ?_
     intro e w4 h4
     obtain ⟨vp', vc', b', ps2, cs2, n2', rfl, hs4, ho4, hb4, hca⟩ := doXQ_step (d := (xk, xl, xs)) n HOK2.out h4
     have hst4 := hstA.belowAll hb4
     have hX4 := hX.belowAll hb4
     have HOK4 := Lib.hid (step_ok2 HOK2.out hs4)
     have HR4 : Hid (runL E M ps cs (ds.take (k + 1)) = ((ps2, cs2), n2')) := by unfold Hid; rw [HSN.out]; exact hs4
     have HCA := Lib.hid hca
     have hz4 := hb4.size
     simp at hz4
     obtain ⟨a4, c4, a5, c5, rfl, rfl⟩ := agg_parts ho4
     have hst5 := hst4.put (xb := wr.heap.size) (y0 := .int .i64 O) (y1 := .int .i64 E) (y2 := .int .i64 M) (y3 := .slice a4 ps2.length c4) (y4 := .slice a5 cs2.length c5) nlt hfar1 hfar2
     have ho5 := ho4.result (b := wr.heap.size) (.int .i64 O) (.int .i64 E) (.int .i64 M) (.slice a4 ps2.length c4) (.slice a5 cs2.length c5) (by simp)
     have hX5 := five_set (y0 := .int .i64 O) (y1 := .int .i64 E) (y2 := .int .i64 M) (y3 := .slice a4 ps2.length c4) (y4 := .slice a5 cs2.length c5) hX4
     clear h4 hs4 hst HSN HRN HOK2 hca hstA hX ho4
     refine hK.out _ _ againA (fun hHeld2 => ?_); clear hHeld hK K; have hHeld := hHeld2; clear hHeld2; (try simp only [Act.put, zp1, zp2, zp3])
     have hHc := hHeld
     obtain ⟨⟨e0, e1, e2, e3, e4⟩, e5, e6, e7⟩ := hHc
     obtain ⟨X0, X1, X2, X3, X4, Y0, Y1, Y2, Y3, Y4, Xlt⟩ := hX4.five
     refine take_y 6 23 (v := ?_) rfl ?_ ?_; rotate_left; focus (intro w hSw; (try dsimp only at hSw); go_simp; (try rw [if_neg (by omega)]); (try with_reducible rfl))
     try simp only [Act.put, zp1, zp2, zp3]
     refine take_y 7 30 (v := ?_) rfl ?_ ?_; rotate_left; focus (intro w hSw; (try dsimp only at hSw); go_simp; (try rw [if_neg (by omega)]); (try with_reducible rfl))
     try simp only [Act.put, zp1, zp2, zp3]
     refine take_y 8 31 (v := ?_) rfl ?_ ?_; rotate_left; focus (intro w hSw; (try dsimp only at hSw); go_simp; (try rw [if_neg (by omega)]); (try with_reducible rfl))
     try simp only [Act.put, zp1, zp2, zp3]
     refine wpAnyH_ready (rs := [10]) (by kernel_rfl) (by simp) ?_
     refine AllReadyH.cons rfl (fun K hK => ?_) AllReadyH.nil
     go_simp
     refine hK.out _ _ againA (fun hHeld2 => ?_); clear hHeld hK K; have hHeld := hHeld2; clear hHeld2; (try simp only [Act.put, zp1, zp2, zp3])
     refine take_y 11 10 (v := ?_) rfl ?_ ?_; rotate_left; focus (intro w hSw; (try dsimp only at hSw); go_simp; (try rw [if_neg (by omega)]); (try with_reducible rfl))
     try simp only [Act.put, zp1, zp2, zp3]
     refine wpAnyH_done (by kernel_rfl) ?_ _
     clear hHeld
     go_wp2_with fail
     go_meet
     exact ⟨_, n2', b', _, _, ps2, cs2, rfl, rfl, hst5, hX5, ho5.lower (by simp; omega), HR4, HOK4, HCA⟩
   case rest =>
    obtain ⟨xb, n2', b', vq2, vr2, ps2, cs2, rfl, rfl, hst2, hX, ho, HR4, HOK4, HCA⟩ := hcut
    obtain ⟨a4, c4, a5, c5, rfl, rfl⟩ := agg_parts ho
    have hst5 := hst2.next ho (Nat.lt_succ_self _)
    clear hst n0 n1 n2 n3 n4 g0 g1 g2 g3 g4 nlt r0 r1 r2 r3 r4 f0 f1 f2 f3 f4 rlt k1 k2 k3 HRN HSN
    obtain ⟨n0, n1, n2, n3, n4, g0, g1, g2, g3, g4, nlt⟩ := hst2.nxt.five
    obtain ⟨X0, X1, X2, X3, X4, -, -, -, -, -, Xlt⟩ := hX.five
    rcases HCA.out with ⟨rfl, rfl⟩ | ⟨rfl, rfl, rfl, rfl⟩
    ·
     go_wp2
     go_roundw
     case rel => exact ⟨k + 1, n + 1, _, _, _, _, by go_num, by go_num, by omega, by omega, HR4, HOK4, hst5⟩
     case measure => simp [intOf]; omega
    ·
     go_wp2
     go_roundw
     case rel => exact ⟨k + 1, n2', _, _, _, _, by go_num, by go_num, by omega, by omega, HR4, HOK4, hst2⟩
     case measure => simp [intOf]; omega
  ·
   obtain rfl : k = m := by omega
   go_wp2
   obtain ⟨z0, z1, z2, z3, z4, -⟩ := (five_set (y0 := .int .i64 O) (y1 := .int .i64 E) (y2 := .int .i64 M) (y3 := .slice aq ps'.length cq) (y4 := .slice ar cs'.length cr) hst.res).five
   refine bodyPost_ret (v := .tuple #[.agg #[.int .i64 O, .int .i64 E, .int .i64 M, .slice aq ps'.length cq, .slice ar cs'.length cr], .int .i64 n]) (by simp [results, Try.results59, go_sem, z0, z1, z2, z3, z4]) rfl ?_
   have hrr : runL E M ps cs ds = ((ps', cs'), n) := by have := HRN.out; rwa [List.take_of_length_le (by rw [HN.out]; omega)] at this
   rw [runX_yes HD.out, hrr]
   exact hst.back n

end Go.Proofs.Ytedadhoneebfnaa
