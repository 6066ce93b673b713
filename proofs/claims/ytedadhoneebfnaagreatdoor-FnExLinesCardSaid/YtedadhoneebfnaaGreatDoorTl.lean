/- Contract of ExLine (program). -/
import Derived.Test.YtedadhoneebfnaaGreatDoorSa
import Derived.Test.YtedadhoneebfnaaGreatDoorJ3
import Derived.Test.YtedadhoneebfnaaGreatDoorJ13
set_option linter.unusedSimpArgs false
set_option linter.unusedVariables false
namespace Go.Proofs.YtedadhoneebfnaaGreatDoor
open Go.RowKit

theorem lineQ_deed {E M : Int} {ps : List ByteArray} {cs : List Cl} {s : ByteArray} {d : Ded} (h : rdeed s = (d, true)) : lineQ E M ps cs s = sayL E M ps cs d := by unfold lineQ; rw [h, if_pos rfl]
theorem lineQ_night {E M : Int} {ps : List ByteArray} {cs : List Cl} {s : ByteArray} {d : Ded} (h : rdeed s = (d, false)) (h2 : tl s = wnight) : lineQ E M ps cs s = ((ps, []), aok) := by unfold lineQ; rw [h, if_neg (by simp), if_pos h2]
theorem lineQ_ask {E M : Int} {ps : List ByteArray} {cs : List Cl} {s : ByteArray} {d : Ded} (h : rdeed s = (d, false)) (h2 : ¬ tl s = wnight) : lineQ E M ps cs s = ((ps, cs), ansL ps cs (tl s)) := by unfold lineQ; rw [h, if_neg (by simp), if_neg h2]
theorem nightX_yes {O E M : Int} {ps : List ByteArray} {cs : List Cl} (h : ExOk O E M ps cs) : nightX O E M ps cs = nightL cs := by unfold nightX; rw [if_pos ((exB_iff _ _ _ _ _).2 h)]
theorem night_lens (cs : List Cl) : DdLen (nightL cs) := by
 intro k d hd
 obtain ⟨c, _, rfl⟩ := List.mem_map.1 (List.mem_of_getElem? hd)
 exact Nat.zero_le _
theorem rdeed_len {s : ByteArray} {d : Ded} (h : rdeed s = (d, true)) : d.2.2.size ≤ s.size := by
 obtain ⟨ht, h0⟩ := rdeed_true h
 obtain ⟨k, l, t⟩ := d
 have h1 : (dt (k, l, t)).size ≠ 0 := by rw [ht]; exact h0
 obtain ⟨n, hn, hl, h2⟩ := dt_is h1
 rw [ht] at h2
 have h3 := tl_size t
 have h4 := tl_size s
 simp only at *
 rcases h2 with ⟨_, h5, _⟩ | ⟨_, _, h5⟩ | ⟨_, _, h5⟩
 ·
  rw [h5] at h3
  simp at h3
  omega
 ·
  have := congrArg List.length h5
  simp only [List.length_append, List.length_cons] at this
  omega
 ·
  have := congrArg List.length h5
  simp only [List.length_append, List.length_cons] at this
  omega

set_option maxRecDepth 100000 in
set_option maxHeartbeats 8000000 in
theorem iExLine_any (O E M : Int) (vp vc : Value) (ps : List ByteArray) (cs : List Cl) (s : ByteArray) (w : World) (hR : ExRd w vp vc ps cs) (hn : SomeV vp ps.length) (hL : StLen ps) (hs : s.size ≤ 1100000) :
  Calls Tryz.prog 26 #[.agg #[.int .i64 O, .int .i64 E, .int .i64 M, vp, vc], .string s] w (LineQ (lineR O E M ps cs s) w) := by
 have hB := (Blk.new (w := w) (cs := #[.int .i64 O, .int .i64 E, .int .i64 M, vp, vc]) (T := 33) rfl).alloc (.cells #[.int .i64 0, .int .i64 0, .int .i64 0, .slice none 0 0, .slice none 0 0] 33)
 have hZ := Blk.new (w := w.alloc (.cells #[.int .i64 O, .int .i64 E, .int .i64 M, vp, vc] 33)) (cs := #[.int .i64 0, .int .i64 0, .int .i64 0, .slice none 0 0, .slice none 0 0]) (T := 33) (b := w.heap.size + 1) (by simp)
 have hbel0 : Below w.heap.size w ((w.alloc (.cells #[.int .i64 O, .int .i64 E, .int .i64 M, vp, vc] 33)).alloc (.cells #[.int .i64 0, .int .i64 0, .int .i64 0, .slice none 0 0, .slice none 0 0] 33)) := by (exact grownA)
 have HR := Lib.hid hR
 have HNN := Lib.hid hn
 have HL := Lib.hid hL
 have hsm : s.size ≤ maxLen := by unfold maxLen; omega
 have HS := Lib.hid hsm
 obtain ⟨_, _, a1, c1, rfl, _⟩ := hR.plan
 obtain ⟨_, _, a2, c2, rfl, _⟩ := hR.calls
 obtain ⟨b0, b1, b2, b3, b4, -, -, -, -, -, blt⟩ := hB.five
 clear hR hn hL hs hsm
 go_enter Tryz.func26, Tryz.ntmps26
 go_wp2_with fail
 refine (iExchangeValid_any O E M _ _ ps cs _ (HR.out.below hbel0) HL.out).mono ?_
 rintro e w1 ⟨rfl, hb1⟩
 have hbel1 : Below w.heap.size w w1 := by (exact grownA)
 have hB1 := hB.belowAll hb1
 have hZ1 := hZ.belowAll hb1
 have hzl := hZ.lt
 clear hB hZ hb1 hbel0 b0 b1 b2 b3 b4 blt
 obtain ⟨d, hd⟩ : ∃ d, exB O E M ps cs = d := ⟨_, rfl⟩
 have HD := Lib.hid hd
 rw [hd]
 clear hd
 cases d
 ·
  obtain ⟨r0, r1, r2, r3, r4, f0, f1, f2, f3, f4, rlt⟩ := hZ1.five
  go_wp2
  obtain ⟨z0, z1, z2, z3, z4, -⟩ := (five_set (y0 := .int .i64 0) (y1 := .int .i64 0) (y2 := .int .i64 0) (y3 := .slice none 0 0) (y4 := .slice none 0 0) hZ1).five
  refine bodyPost_ret (v := .tuple #[.agg #[.int .i64 0, .int .i64 0, .int .i64 0, .slice none 0 0, .slice none 0 0], .string ⟨#[]⟩]) (by simp [results, Tryz.results26, go_sem, z0, z1, z2, z3, z4, r0, r1, r2, r3, r4]; try rfl) rfl ?_
  rw [lineR_no _ HD.out]
  exact ⟨_, _, rfl, ExOwn.nothing _ _, five_below _ _ _ _ _ hbel1 (by omega)⟩
 have HOK := Lib.hid ((exB_iff _ _ _ _ _).1 HD.out)
 have hcn := HOK.out.calls.count (lines_le HOK.out.calls.sh)
 have hpn := HOK.out.lines.2
 have HLR := Lib.hid (lineR_yes s HD.out)
 go_wp2_with fail
 refine (iReadDeed_any s _ HS.out).mono ?_
 intro e w2 hq
 unfold RdPost at hq
 obtain ⟨⟨⟨dk, dl, dn⟩, ok⟩, hr⟩ : ∃ z, rdeed s = z := ⟨_, rfl⟩
 have HRD := Lib.hid hr
 rw [hr] at hq
 clear hr
 obtain ⟨rfl, hb2⟩ := hq
 have hal : Below w2.heap.size w2 (w2.alloc (.cells #[.int .i64 dk, .int .i64 dl, .string dn] 55)) := (Below.refl _ _).alloc (Nat.le_refl _) _
 have hbel2 := (hbel1.trans (Below.mono hb2 hbel1.size)).trans (Below.mono hal (hbel1.trans (Below.mono hb2 hbel1.size)).size)
 have hB2 := (hB1.belowAll hb2).belowAll hal
 have hZ2 := (hZ1.belowAll hb2).belowAll hal
 have hD2 := Blk.new (w := w2) (cs := #[.int .i64 dk, .int .i64 dl, .string dn]) (T := 55) (b := w2.heap.size) rfl
 clear hB1 hZ1 hb2 hal hbel1
 obtain ⟨b0, b1, b2, b3, b4, -, -, -, -, -, blt⟩ := hB2.five
 obtain ⟨d0, d1, d2, -, -, -, dlt⟩ := hD2.three
 cases ok with
 | true =>
  have HDN : Hid (dn.size ≤ maxLen) := by have := rdeed_len HRD.out; have h9 := HS.out; unfold Hid; simp only at this; omega
  have HLQ := Lib.hid (lineQ_deed (E := E) (M := M) (ps := ps) (cs := cs) HRD.out)
  go_wp2_with fail
  refine (iSayDeed_any O E M _ _ ps cs dk dl dn _ HOK.out (HR.out.below hbel2) HNN.out HL.out HDN.out).mono ?_
  intro e w3 hq
  unfold SayPost at hq
  obtain ⟨⟨⟨ps', cs'⟩, t⟩, hs3⟩ : ∃ z, sayL E M ps cs (dk, dl, dn) = z := ⟨_, rfl⟩
  rw [hs3] at hq
  have HS3 := Lib.hid hs3
  obtain ⟨vq, vr, rfl, ho3, hb3⟩ := hq
  simp only at ho3
  obtain ⟨aq, cq, ar, cr, rfl, rfl⟩ := agg_parts ho3
  have hZ3 := hZ2.belowAll hb3
  have hbel3 := hbel2.trans (Below.mono hb3 hbel2.size)
  have HO3 := Lib.hid (ho3.lower (show w.heap.size + 2 ≤ _ from hZ2.lt))
  clear hB2 hZ2 hD2 hb3 hbel2 ho3 hs3 b0 b1 b2 b3 b4 blt d0 d1 d2 dlt
  obtain ⟨r0, r1, r2, r3, r4, f0, f1, f2, f3, f4, rlt⟩ := hZ3.five
  go_wp2
  obtain ⟨z0, z1, z2, z3, z4, -⟩ := (five_set (y0 := .int .i64 O) (y1 := .int .i64 E) (y2 := .int .i64 M) (y3 := .slice aq ps'.length cq) (y4 := .slice ar cs'.length cr) hZ3).five
  refine bodyPost_ret (v := .tuple #[.agg #[.int .i64 O, .int .i64 E, .int .i64 M, .slice aq ps'.length cq, .slice ar cs'.length cr], .string t]) (by simp [results, Tryz.results26, go_sem, z0, z1, z2, z3, z4]; try rfl) rfl ?_
  rw [HLR.out, HLQ.out, HS3.out]
  exact ⟨_, _, rfl, (HO3.out.result _ _ _ _ _ (by simp)).lower (by omega), five_below _ _ _ _ _ hbel3 (by omega)⟩
 | false =>
  -- TAIL (printed by gen_sl.py)
  clear hD2 d0 d1 d2 dlt b0 b1 b2 b3 b4 blt
  have HRW := Lib.hid (HR.out.below hbel2)
  have hz2l : w.heap.size + 2 ≤ (w2.alloc (.cells #[.int .i64 dk, .int .i64 dl, .string dn] 55)).heap.size := hZ2.lt
  by_cases hni : tl s = wnight
  ·
   have hq1 := str_is (m := [110, 105, 103, 104, 116]) hni
   have HLQ := Lib.hid (lineQ_night (E := E) (M := M) (ps := ps) (cs := cs) HRD.out hni)
   clear hni
   obtain ⟨b0, b1, b2, b3, b4, -, -, -, -, -, blt⟩ := hB2.five
   have HC : Hid (∀ w' : World, Below (w2.alloc (.cells #[.int .i64 dk, .int .i64 dl, .string dn] 55)).heap.size (w2.alloc (.cells #[.int .i64 dk, .int .i64 dl, .string dn] 55)) w' → w'.cell? ⟨w.heap.size, 0, none⟩ = some (.int .i64 O) ∧ w'.cell? ⟨w.heap.size, 1, none⟩ = some (.int .i64 E) ∧ w'.cell? ⟨w.heap.size, 2, none⟩ = some (.int .i64 M) ∧ w'.cell? ⟨w.heap.size, 3, none⟩ = some (.slice a1 ps.length c1) ∧ w'.cell? ⟨w.heap.size, 4, none⟩ = some (.slice a2 cs.length c2)) := fun w' hb => ⟨keep_below hb b0, keep_below hb b1, keep_below hb b2, keep_below hb b3, keep_below hb b4⟩
   have hcS : Below (w2.alloc (.cells #[.int .i64 dk, .int .i64 dl, .string dn] 55)).heap.size (w2.alloc (.cells #[.int .i64 dk, .int .i64 dl, .string dn] 55)) (w2.alloc (.cells #[.int .i64 dk, .int .i64 dl, .string dn] 55)).drew := (Below.refl _ _).drew
   have HNI := Lib.hid (nightX_yes HOK.out)
   go_upto_region 7 with fail
   go_cut [8, 9] (fun tb tx wc => ∃ (b : Nat) (vq vr : Value), tb = .pointer (some ⟨b, 0, none⟩) ∧ tx = .int .i64 (cs.length : Nat) ∧ ExRes (w2.alloc (.cells #[.int .i64 dk, .int .i64 dl, .string dn] 55)) wc b O E M vq vr ps [])
   case first =>
    clear b0 b1 b2 b3 b4 blt
    go_wp2_with fail
    refine wp_region_held_drew (S := fun w' => w'.cell? ⟨w.heap.size, 0, none⟩ = some (.int .i64 O) ∧ w'.cell? ⟨w.heap.size, 1, none⟩ = some (.int .i64 E) ∧ w'.cell? ⟨w.heap.size, 2, none⟩ = some (.int .i64 M) ∧ w'.cell? ⟨w.heap.size, 3, none⟩ = some (.slice a1 ps.length c1) ∧ w'.cell? ⟨w.heap.size, 4, none⟩ = some (.slice a2 cs.length c2)) (by kernel_rfl) (HC.out _ hcS) (fun hHeld => ?_)
    refine take_y 0 28 (v := ?_) rfl ?_ ?_; rotate_left; focus (intro w hSw; (try dsimp only at hSw); go_simp; (try rw [if_neg (by omega)]); (try with_reducible rfl))
    try simp only [Act.put, zp1, zp2, zp3]
    refine take_y 1 29 (v := ?_) rfl ?_ ?_; rotate_left; focus (intro w hSw; (try dsimp only at hSw); go_simp; (try rw [if_neg (by omega)]); (try with_reducible rfl))
    try simp only [Act.put, zp1, zp2, zp3]
    refine wpAnyH_ready (rs := [2, 7]) (by kernel_rfl) (by simp) ?_
    refine AllReadyH.cons rfl (fun K hK => ?_) (AllReadyH.cons rfl (fun K hK => ?_) AllReadyH.nil)
    focus
     go_simp
     refine (iNightDeeds_any O E M _ _ ps cs _ (HRW.out.below hcS) HL.out).mono ?_
     rintro e w3 ⟨vd, rfl, hod, hc3⟩
     rw [HNI.out] at hod
     obtain ⟨ad, cd, rfl⟩ := own_len9 hod
     have hcA : Below (w2.alloc (.cells #[.int .i64 dk, .int .i64 dl, .string dn] 55)).heap.size (w2.alloc (.cells #[.int .i64 dk, .int .i64 dl, .string dn] 55)) w3 := hcS.trans (Below.mono hc3 hcS.size)
     refine hK.out _ _ (HC.out _ hcA) (fun hHeld2 => ?_)
     clear hHeld hK K; have hHeld := hHeld2; clear hHeld2; try simp only [Act.put, zp1, zp2, zp3]
     refine wpAnyH_ready (rs := [3, 7]) (by kernel_rfl) (by simp) ?_
     refine AllReadyH.cons rfl (fun K hK => ?_) (AllReadyH.cons rfl (fun K hK => ?_) AllReadyH.nil)
     focus
      go_simp
      refine (iExRun_any O E M _ _ _ ps cs (nightL cs) _ (HRW.out.below hcA) HNN.out HL.out (Rds.ofOwns hod) (night_lens cs)).mono ?_
      intro e w4 hq
      rw [runX_yes HD.out, night_run HOK.out] at hq
      obtain ⟨vq, vr, rfl, ho4, hc4⟩ := hq
      simp only at ho4
      obtain ⟨aq, cq, ar, cr, rfl, hvr⟩ := agg_parts ho4
      have hvr2 : vr = .slice ar 0 cr := hvr
      subst hvr2
      have hcB : Below (w2.alloc (.cells #[.int .i64 dk, .int .i64 dl, .string dn] 55)).heap.size (w2.alloc (.cells #[.int .i64 dk, .int .i64 dl, .string dn] 55)) w4 := hcA.trans (Below.mono hc4 hcA.size)
      refine hK.out _ _ (HC.out _ hcB) (fun hHeld2 => ?_)
      clear hHeld hK K; have hHeld := hHeld2; clear hHeld2; try simp only [Act.put, zp1, zp2, zp3]
      refine take_y 4 27 (v := ?_) rfl ?_ ?_; rotate_left; focus (intro w hSw; (try dsimp only at hSw); go_simp; (try rw [if_neg (by omega)]); (try with_reducible rfl))
      try simp only [Act.put, zp1, zp2, zp3]
      refine take_y 5 32 (v := ?_) rfl ?_ ?_; rotate_left; focus (intro w hSw; (try dsimp only at hSw); go_simp; (try rw [if_neg (by omega)]); (try with_reducible rfl))
      try simp only [Act.put, zp1, zp2, zp3]
      refine take_y 6 33 (v := ?_) rfl ?_ ?_; rotate_left; focus (intro w hSw; (try dsimp only at hSw); go_simp; (try rw [if_neg (by omega)]); (try with_reducible rfl))
      try simp only [Act.put, zp1, zp2, zp3]
      refine wpAnyH_ready (rs := [7]) (by kernel_rfl) (by simp) ?_
      refine AllReadyH.cons rfl (fun K hK => ?_) AllReadyH.nil
      go_simp
      refine hK.out _ _ (HC.out _ (hcB.alloc hcB.size _)) (fun hHeld2 => ?_)
      clear hHeld hK K; have hHeld := hHeld2; clear hHeld2; try simp only [Act.put, zp1, zp2, zp3]
      refine wpAnyH_ready (rs := [8]) (by kernel_rfl) (by simp) ?_
      refine AllReadyH.cons rfl (fun K hK => ?_) AllReadyH.nil
      go_simp
      refine hK.out _ _ (HC.out _ (hcB.alloc hcB.size _)) (fun hHeld2 => ?_)
      clear hHeld hK K; have hHeld := hHeld2; clear hHeld2; try simp only [Act.put, zp1, zp2, zp3]
      have hRS := ExRes.mkA (O := O) (E := E) (M := M) hcB ho4 hcA.size
      refine take_y 9 9 (v := ?_) rfl ?_ ?_; rotate_left; focus (intro w hSw; (try dsimp only at hSw); go_simp; (try rw [if_neg (by omega)]); (try with_reducible rfl))
      try simp only [Act.put, zp1, zp2, zp3]
      refine wpAnyH_done (by kernel_rfl) ?_ _
      clear hHeld
      go_wp2_with fail
      go_meet
      exact ⟨_, _, _, rfl, rfl, hRS⟩
     focus
      go_simp
      have hXb := Blk.new (w := w3) (cs := #[.int .i64 0, .int .i64 0, .int .i64 0, .slice none 0 0, .slice none 0 0]) (T := 33) (b := w3.heap.size) rfl
      have hal : Below w3.heap.size w3 (w3.alloc (.cells #[.int .i64 0, .int .i64 0, .int .i64 0, .slice none 0 0, .slice none 0 0] 33)) := (Below.refl _ _).alloc (Nat.le_refl _) _
      have hcB : Below (w2.alloc (.cells #[.int .i64 dk, .int .i64 dl, .string dn] 55)).heap.size (w2.alloc (.cells #[.int .i64 dk, .int .i64 dl, .string dn] 55)) (w3.alloc (.cells #[.int .i64 0, .int .i64 0, .int .i64 0, .slice none 0 0, .slice none 0 0] 33)) := hcA.trans (Below.mono hal hcA.size)
      refine hK.out _ _ (HC.out _ hcB) (fun hHeld2 => ?_)
      clear hHeld hK K; have hHeld := hHeld2; clear hHeld2; try simp only [Act.put, zp1, zp2, zp3]
      refine wpAnyH_ready (rs := [3]) (by kernel_rfl) (by simp) ?_
      refine AllReadyH.cons rfl (fun K hK => ?_) AllReadyH.nil
      go_simp
      refine (iExRun_any O E M _ _ _ ps cs (nightL cs) _ (HRW.out.below hcB) HNN.out HL.out (Rds.ofOwns (owns_below hal hod)) (night_lens cs)).mono ?_
      intro e w4 hq
      rw [runX_yes HD.out, night_run HOK.out] at hq
      obtain ⟨vq, vr, rfl, ho4, hc4⟩ := hq
      simp only at ho4
      obtain ⟨aq, cq, ar, cr, rfl, hvr⟩ := agg_parts ho4
      have hvr2 : vr = .slice ar 0 cr := hvr
      subst hvr2
      have hcC : Below (w2.alloc (.cells #[.int .i64 dk, .int .i64 dl, .string dn] 55)).heap.size (w2.alloc (.cells #[.int .i64 dk, .int .i64 dl, .string dn] 55)) w4 := hcB.trans (Below.mono hc4 hcB.size)
      have hbF := hXb.lt
      have gX := hXb.belowAll hc4
      refine hK.out _ _ (HC.out _ hcC) (fun hHeld2 => ?_)
      clear hHeld hK K; have hHeld := hHeld2; clear hHeld2; try simp only [Act.put, zp1, zp2, zp3]
      refine take_y 4 27 (v := ?_) rfl ?_ ?_; rotate_left; focus (intro w hSw; (try dsimp only at hSw); go_simp; (try rw [if_neg (by omega)]); (try with_reducible rfl))
      try simp only [Act.put, zp1, zp2, zp3]
      refine take_y 5 32 (v := ?_) rfl ?_ ?_; rotate_left; focus (intro w hSw; (try dsimp only at hSw); go_simp; (try rw [if_neg (by omega)]); (try with_reducible rfl))
      try simp only [Act.put, zp1, zp2, zp3]
      refine take_y 6 33 (v := ?_) rfl ?_ ?_; rotate_left; focus (intro w hSw; (try dsimp only at hSw); go_simp; (try rw [if_neg (by omega)]); (try with_reducible rfl))
      try simp only [Act.put, zp1, zp2, zp3]
      have hRS := ExRes.mkB (O := O) (E := E) (M := M) hcC gX (hcA.size) ho4 hbF
      obtain ⟨X0, X1, X2, X3, X4, Y0, Y1, Y2, Y3, Y4, Xlt⟩ := gX.five
      refine wpAnyH_ready (rs := [8]) (by kernel_rfl) (by simp) ?_
      refine AllReadyH.cons rfl (fun K hK => ?_) AllReadyH.nil
      go_simp
      refine hK.out _ _ (HC.out _ (by exact hRS.bel)) (fun hHeld2 => ?_)
      clear hHeld hK K; have hHeld := hHeld2; clear hHeld2; try simp only [Act.put, zp1, zp2, zp3]
      refine take_y 9 9 (v := ?_) rfl ?_ ?_; rotate_left; focus (intro w hSw; (try dsimp only at hSw); go_simp; (try rw [if_neg (by omega)]); (try with_reducible rfl))
      try simp only [Act.put, zp1, zp2, zp3]
      refine wpAnyH_done (by kernel_rfl) ?_ _
      clear hHeld
      go_wp2_with fail
      go_meet
      exact ⟨_, _, _, rfl, rfl, hRS⟩
    focus
     go_simp
     have hXb := Blk.new (w := (w2.alloc (.cells #[.int .i64 dk, .int .i64 dl, .string dn] 55)).drew) (cs := #[.int .i64 0, .int .i64 0, .int .i64 0, .slice none 0 0, .slice none 0 0]) (T := 33) (b := w2.heap.size + 1) (by simp)
     have hal : Below (w2.alloc (.cells #[.int .i64 dk, .int .i64 dl, .string dn] 55)).drew.heap.size (w2.alloc (.cells #[.int .i64 dk, .int .i64 dl, .string dn] 55)).drew ((w2.alloc (.cells #[.int .i64 dk, .int .i64 dl, .string dn] 55)).drew.alloc (.cells #[.int .i64 0, .int .i64 0, .int .i64 0, .slice none 0 0, .slice none 0 0] 33)) := (Below.refl _ _).alloc (Nat.le_refl _) _
     have hcA : Below (w2.alloc (.cells #[.int .i64 dk, .int .i64 dl, .string dn] 55)).heap.size (w2.alloc (.cells #[.int .i64 dk, .int .i64 dl, .string dn] 55)) ((w2.alloc (.cells #[.int .i64 dk, .int .i64 dl, .string dn] 55)).drew.alloc (.cells #[.int .i64 0, .int .i64 0, .int .i64 0, .slice none 0 0, .slice none 0 0] 33)) := hcS.trans (Below.mono hal hcS.size)
     refine hK.out _ _ (HC.out _ hcA) (fun hHeld2 => ?_)
     clear hHeld hK K; have hHeld := hHeld2; clear hHeld2; try simp only [Act.put, zp1, zp2, zp3]
     refine wpAnyH_ready (rs := [2]) (by kernel_rfl) (by simp) ?_
     refine AllReadyH.cons rfl (fun K hK => ?_) AllReadyH.nil
     go_simp
     refine (iNightDeeds_any O E M _ _ ps cs _ (HRW.out.below hcA) HL.out).mono ?_
     rintro e w3 ⟨vd, rfl, hod, hc3⟩
     rw [HNI.out] at hod
     obtain ⟨ad, cd, rfl⟩ := own_len9 hod
     have hcB : Below (w2.alloc (.cells #[.int .i64 dk, .int .i64 dl, .string dn] 55)).heap.size (w2.alloc (.cells #[.int .i64 dk, .int .i64 dl, .string dn] 55)) w3 := hcA.trans (Below.mono hc3 hcA.size)
     have gX3 := hXb.belowAll hc3
     refine hK.out _ _ (HC.out _ hcB) (fun hHeld2 => ?_)
     clear hHeld hK K; have hHeld := hHeld2; clear hHeld2; try simp only [Act.put, zp1, zp2, zp3]
     refine wpAnyH_ready (rs := [3]) (by kernel_rfl) (by simp) ?_
     refine AllReadyH.cons rfl (fun K hK => ?_) AllReadyH.nil
     go_simp
     refine (iExRun_any O E M _ _ _ ps cs (nightL cs) _ (HRW.out.below hcB) HNN.out HL.out (Rds.ofOwns hod) (night_lens cs)).mono ?_
     intro e w4 hq
     rw [runX_yes HD.out, night_run HOK.out] at hq
     obtain ⟨vq, vr, rfl, ho4, hc4⟩ := hq
     simp only at ho4
     obtain ⟨aq, cq, ar, cr, rfl, hvr⟩ := agg_parts ho4
     have hvr2 : vr = .slice ar 0 cr := hvr
     subst hvr2
     have hcC : Below (w2.alloc (.cells #[.int .i64 dk, .int .i64 dl, .string dn] 55)).heap.size (w2.alloc (.cells #[.int .i64 dk, .int .i64 dl, .string dn] 55)) w4 := hcB.trans (Below.mono hc4 hcB.size)
     have hbF := gX3.lt
     have gX := gX3.belowAll hc4
     refine hK.out _ _ (HC.out _ hcC) (fun hHeld2 => ?_)
     clear hHeld hK K; have hHeld := hHeld2; clear hHeld2; try simp only [Act.put, zp1, zp2, zp3]
     refine take_y 4 27 (v := ?_) rfl ?_ ?_; rotate_left; focus (intro w hSw; (try dsimp only at hSw); go_simp; (try rw [if_neg (by omega)]); (try with_reducible rfl))
     try simp only [Act.put, zp1, zp2, zp3]
     refine take_y 5 32 (v := ?_) rfl ?_ ?_; rotate_left; focus (intro w hSw; (try dsimp only at hSw); go_simp; (try rw [if_neg (by omega)]); (try with_reducible rfl))
     try simp only [Act.put, zp1, zp2, zp3]
     refine take_y 6 33 (v := ?_) rfl ?_ ?_; rotate_left; focus (intro w hSw; (try dsimp only at hSw); go_simp; (try rw [if_neg (by omega)]); (try with_reducible rfl))
     try simp only [Act.put, zp1, zp2, zp3]
     have hRS := ExRes.mkB (O := O) (E := E) (M := M) hcC gX (by simp) ho4 hbF
     obtain ⟨X0, X1, X2, X3, X4, Y0, Y1, Y2, Y3, Y4, Xlt⟩ := gX.five
     refine wpAnyH_ready (rs := [8]) (by kernel_rfl) (by simp) ?_
     refine AllReadyH.cons rfl (fun K hK => ?_) AllReadyH.nil
     go_simp
     refine hK.out _ _ (HC.out _ (by exact hRS.bel)) (fun hHeld2 => ?_)
     clear hHeld hK K; have hHeld := hHeld2; clear hHeld2; try simp only [Act.put, zp1, zp2, zp3]
     refine take_y 9 9 (v := ?_) rfl ?_ ?_; rotate_left; focus (intro w hSw; (try dsimp only at hSw); go_simp; (try rw [if_neg (by omega)]); (try with_reducible rfl))
     try simp only [Act.put, zp1, zp2, zp3]
     refine wpAnyH_done (by kernel_rfl) ?_ _
     clear hHeld
     go_wp2_with fail
     go_meet
     exact ⟨_, _, _, rfl, rfl, hRS⟩
   case rest =>
   clear b0 b1 b2 b3 b4 blt
   obtain ⟨bx, vq, vr, rfl, rfl, hRS⟩ := hcut
   obtain ⟨aq, cq, ar, cr, rfl, hvr⟩ := agg_parts hRS.own
   have hvr2 : vr = .slice ar 0 cr := hvr
   subst hvr2
   have hZ9 := hZ2.belowAll hRS.bel
   have hbel9 := hbel2.trans (Below.mono hRS.bel hbel2.size)
   have HO9 := Lib.hid (hRS.own.lower (show w.heap.size + 2 ≤ _ from hz2l))
   obtain ⟨r0, r1, r2, r3, r4, f0, f1, f2, f3, f4, rlt⟩ := hZ9.five
   obtain ⟨x0, x1, x2, x3, x4, -, -, -, -, -, xlt⟩ := hRS.box.five
   go_wp2
   obtain ⟨z0, z1, z2, z3, z4, -⟩ := (five_set (y0 := .int .i64 O) (y1 := .int .i64 E) (y2 := .int .i64 M) (y3 := .slice aq ps.length cq) (y4 := .slice ar 0 cr) hZ9).five
   refine bodyPost_ret (v := .tuple #[.agg #[.int .i64 O, .int .i64 E, .int .i64 M, .slice aq ps.length cq, .slice ar 0 cr], .string aok]) (by simp [results, Tryz.results26, go_sem, z0, z1, z2, z3, z4]; try rfl) rfl ?_
   rw [HLR.out, HLQ.out]
   exact ⟨_, _, rfl, (HO9.out.result _ _ _ _ _ (by simp)).lower (by omega), five_below _ _ _ _ _ hbel9 (by omega)⟩
  ·
   have hq1 := str_not (m := [110, 105, 103, 104, 116]) hni
   have HLQ := Lib.hid (lineQ_ask (E := E) (M := M) (ps := ps) (cs := cs) HRD.out hni)
   clear hni
   obtain ⟨b0, b1, b2, b3, b4, -, -, -, -, -, blt⟩ := hB2.five
   have hcS : Below (w2.alloc (.cells #[.int .i64 dk, .int .i64 dl, .string dn] 55)).heap.size (w2.alloc (.cells #[.int .i64 dk, .int .i64 dl, .string dn] 55)) (w2.alloc (.cells #[.int .i64 dk, .int .i64 dl, .string dn] 55)).drew := (Below.refl _ _).drew
   go_wp2_with fail
   refine wp_region_held_drew (S := fun w' => w'.cell? ⟨w.heap.size, 0, none⟩ = some (.int .i64 O) ∧ w'.cell? ⟨w.heap.size, 1, none⟩ = some (.int .i64 E) ∧ w'.cell? ⟨w.heap.size, 2, none⟩ = some (.int .i64 M) ∧ w'.cell? ⟨w.heap.size, 3, none⟩ = some (.slice a1 ps.length c1) ∧ w'.cell? ⟨w.heap.size, 4, none⟩ = some (.slice a2 cs.length c2)) (by kernel_rfl) ⟨b0, b1, b2, b3, b4⟩ (fun hHeld => ?_)
   refine take_y 0 35 (v := ?_) rfl ?_ ?_; rotate_left; focus (intro w hSw; (try dsimp only at hSw); go_simp; (try rw [if_neg (by omega)]); (try with_reducible rfl))
   try simp only [Act.put, zp1, zp2, zp3]
   refine take_y 2 37 (v := ?_) rfl ?_ ?_; rotate_left; focus (intro w hSw; (try dsimp only at hSw); go_simp; (try rw [if_neg (by omega)]); (try with_reducible rfl))
   try simp only [Act.put, zp1, zp2, zp3]
   refine take_y 3 38 (v := ?_) rfl ?_ ?_; rotate_left; focus (intro w hSw; (try dsimp only at hSw); go_simp; (try rw [if_neg (by omega)]); (try with_reducible rfl))
   try simp only [Act.put, zp1, zp2, zp3]
   have HC : Hid (∀ w' : World, Below (w2.alloc (.cells #[.int .i64 dk, .int .i64 dl, .string dn] 55)).heap.size (w2.alloc (.cells #[.int .i64 dk, .int .i64 dl, .string dn] 55)) w' → w'.cell? ⟨w.heap.size, 0, none⟩ = some (.int .i64 O) ∧ w'.cell? ⟨w.heap.size, 1, none⟩ = some (.int .i64 E) ∧ w'.cell? ⟨w.heap.size, 2, none⟩ = some (.int .i64 M) ∧ w'.cell? ⟨w.heap.size, 3, none⟩ = some (.slice a1 ps.length c1) ∧ w'.cell? ⟨w.heap.size, 4, none⟩ = some (.slice a2 cs.length c2)) := fun w' hb => ⟨keep_below hb b0, keep_below hb b1, keep_below hb b2, keep_below hb b3, keep_below hb b4⟩
   clear b0 b1 b2 b3 b4 blt
   refine wpAnyH_ready (rs := [1]) (by kernel_rfl) (by simp) ?_
   refine AllReadyH.cons rfl (fun K hK => ?_) AllReadyH.nil
   go_simp
   refine (copyExchange_any O E M _ _ ps cs _ (HRW.out.below hcS) HNN.out (by omega) (by omega)).mono ?_
   rintro e w3 ⟨vq, vr, rfl, ho3, hc3⟩
   obtain ⟨aq, cq, ar, cr, rfl, rfl⟩ := agg_parts ho3
   have hcA : Below (w2.alloc (.cells #[.int .i64 dk, .int .i64 dl, .string dn] 55)).heap.size (w2.alloc (.cells #[.int .i64 dk, .int .i64 dl, .string dn] 55)) w3 := hcS.trans (Below.mono hc3 hcS.size)
   refine hK.out _ _ (HC.out _ hcA) (fun hHeld2 => ?_)
   clear hHeld hK K; have hHeld := hHeld2; clear hHeld2; try simp only [Act.put, zp1, zp2, zp3]
   refine wpAnyH_ready (rs := [4]) (by kernel_rfl) (by simp) ?_
   refine AllReadyH.cons rfl (fun K hK => ?_) AllReadyH.nil
   go_simp
   refine (iAnswerOf_any O E M _ _ ps cs s _ HOK.out (HRW.out.below hcA) HL.out HS.out).mono ?_
   rintro e w4 ⟨rfl, hc4⟩
   have hcB : Below (w2.alloc (.cells #[.int .i64 dk, .int .i64 dl, .string dn] 55)).heap.size (w2.alloc (.cells #[.int .i64 dk, .int .i64 dl, .string dn] 55)) w4 := hcA.trans (Below.mono hc4 hcA.size)
   refine hK.out _ _ (HC.out _ hcB) (fun hHeld2 => ?_)
   clear hHeld hK K; have hHeld := hHeld2; clear hHeld2; try simp only [Act.put, zp1, zp2, zp3]
   obtain ⟨t, ht⟩ : ∃ t, ansL ps cs (tl s) = t := ⟨_, rfl⟩
   have HT := Lib.hid ht
   rw [ht]
   clear ht
   have hZ4 := hZ2.belowAll hcB
   have hB4 := hB2.belowAll hcB
   have hbel4 := hbel2.trans (Below.mono hcB hbel2.size)
   have HO4 := Lib.hid ((ho3.below hc4).lower (show w.heap.size + 2 ≤ _ from hz2l))
   have hbx := Blk.gb (five_gb _ (w.heap.size + 1) (.int .i64 O) (.int .i64 E) (.int .i64 M) (.slice aq ps.length cq) (.slice ar cs.length cr)) (show w.heap.size ≠ w.heap.size + 1 by omega) hB4
   clear ho3 hc3 hc4 hcA hcB
   obtain ⟨r0, r1, r2, r3, r4, f0, f1, f2, f3, f4, rlt⟩ := hZ4.five
   refine wpAnyH_ready (rs := [5]) (by kernel_rfl) (by simp) ?_
   refine AllReadyH.cons rfl (fun K hK => ?_) AllReadyH.nil
   go_simp
   refine hK.out _ _ (by obtain ⟨e0, e1, e2, e3, e4, -⟩ := hbx.five; exact ⟨e0, e1, e2, e3, e4⟩) (fun hHeld2 => ?_)
   clear hHeld hK K; have hHeld := hHeld2; clear hHeld2; try simp only [Act.put, zp1, zp2, zp3]
   refine take_y 6 5 (v := ?_) rfl ?_ ?_; rotate_left; focus (intro w hSw; (try dsimp only at hSw); go_simp; (try rw [if_neg (by omega)]); (try with_reducible rfl))
   try simp only [Act.put, zp1, zp2, zp3]
   refine wpAnyH_done (by kernel_rfl) ?_ _
   clear hHeld
   go_wp2
   obtain ⟨z0, z1, z2, z3, z4, -⟩ := (five_set (y0 := .int .i64 O) (y1 := .int .i64 E) (y2 := .int .i64 M) (y3 := .slice aq ps.length cq) (y4 := .slice ar cs.length cr) hZ4).five
   refine bodyPost_ret (v := .tuple #[.agg #[.int .i64 O, .int .i64 E, .int .i64 M, .slice aq ps.length cq, .slice ar cs.length cr], .string t]) (by simp [results, Tryz.results26, go_sem, z0, z1, z2, z3, z4]; try rfl) rfl ?_
   rw [HLR.out, HLQ.out, HT.out]
   exact ⟨_, _, rfl, (HO4.out.result _ _ _ _ _ (by simp)).lower (by omega), five_below _ _ _ _ _ hbel4 (by omega)⟩

end Go.Proofs.YtedadhoneebfnaaGreatDoor
