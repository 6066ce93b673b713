/- Contract of ExLines (reference). -/
import Derived.Test.YtedadhoneebfnaaGreatDoorSs
import Derived.Test.YtedadhoneebfnaaGreatDoorSn
set_option linter.unusedSimpArgs false
set_option linter.unusedVariables false
namespace Go.Proofs.YtedadhoneebfnaaGreatDoor
open Go.RowKit

set_option maxRecDepth 100000 in
set_option maxHeartbeats 16000000 in
theorem sExLines_any (O E M : Int) (vp vc vl : Value) (ps : List ByteArray) (cs : List Cl) (ls : List ByteArray) (w : World) (hR : ExRd w vp vc ps cs) (hn : SomeV vp ps.length) (hL : StLen ps) (hD : Rds w vl ls.length 1 (strs ls)) (hDL : ∀ s ∈ ls, s.size ≤ 1100000) :
  Calls Tryz.prog 10 #[.agg #[.int .i64 O, .int .i64 E, .int .i64 M, vp, vc], vl] w (LinesPost (linesR O E M ps cs ls) w) := by
 obtain ⟨j0, hj, hy0, hy1, hy2⟩ := info_parts infoS8
 have hB := ((Blk.new (w := w) (cs := #[.int .i64 O, .int .i64 E, .int .i64 M, vp, vc]) (T := 33) rfl).alloc (.cells #[.int .i64 0, .int .i64 0, .int .i64 0, .slice none 0 0, .slice none 0 0] 33)).alloc (.cells #[] 9)
 have hZ := (Blk.new (w := w.alloc (.cells #[.int .i64 O, .int .i64 E, .int .i64 M, vp, vc] 33)) (cs := #[.int .i64 0, .int .i64 0, .int .i64 0, .slice none 0 0, .slice none 0 0]) (T := 33) (b := w.heap.size + 1) (by simp)).alloc (.cells #[] 9)
 have hbel0 : Below w.heap.size w (((w.alloc (.cells #[.int .i64 O, .int .i64 E, .int .i64 M, vp, vc] 33)).alloc (.cells #[.int .i64 0, .int .i64 0, .int .i64 0, .slice none 0 0, .slice none 0 0] 33)).alloc (.cells #[] 9)) := by (exact grownA)
 have hO0 : (((w.alloc (.cells #[.int .i64 O, .int .i64 E, .int .i64 M, vp, vc] 33)).alloc (.cells #[.int .i64 0, .int .i64 0, .int .i64 0, .slice none 0 0, .slice none 0 0] 33)).alloc (.cells #[] 9)).ownsRow (w.heap.size + 2) 9 1 (.slice (some ⟨w.heap.size + 2, 0, none⟩) 0 0) 0 (strs []) := by
  have := World.ownsRow_lit (base := w.heap.size + 2) (e := 9) (size := 1) ((w.alloc (.cells #[.int .i64 O, .int .i64 E, .int .i64 M, vp, vc] 33)).alloc (.cells #[.int .i64 0, .int .i64 0, .int .i64 0, .slice none 0 0, .slice none 0 0] 33)) #[] 0 (by simp) (by unfold maxLen; omega) rfl
  simpa [strs] using this
 have HR := Lib.hid hR
 have HNN := Lib.hid hn
 have HL := Lib.hid hL
 have HDL := Lib.hid hDL
 obtain ⟨_, _, a1, c1, rfl, _⟩ := hR.plan
 obtain ⟨_, _, a2, c2, rfl, _⟩ := hR.calls
 obtain ⟨a3, c3, rfl, _, hm, hn3, hc3⟩ := hD.open1
 unfold maxLen at hm
 obtain ⟨m, hmm⟩ : ∃ m, ls.length = m := ⟨_, rfl⟩
 have HN := Lib.hid hmm
 rw [hmm] at hm hn3 hc3 ⊢
 have HC3 := Lib.hid hc3
 obtain ⟨b0, b1, b2, b3, b4, -, -, -, -, -, blt⟩ := hB.five
 clear hR hn hL hDL hc3 hmm hD
 go_enter Tryz.func10, Tryz.ntmps10
 go_wp2_with fail
 refine (sExchangeValid_any O E M _ _ ps cs _ (HR.out.below hbel0) HL.out).mono ?_
 rintro e w1 ⟨rfl, hb1⟩
 have hbel1 : Below w.heap.size w w1 := by (exact grownA)
 have hB1 := hB.belowAll hb1
 have hZ1 := hZ.belowAll hb1
 have hO1 := owns_below hb1 hO0
 have hz1 : w.heap.size + 3 ≤ w1.heap.size := by have := hb1.size; simp at this; omega
 clear hB hZ hb1 hbel0 hO0 b0 b1 b2 b3 b4 blt
 obtain ⟨d, hd⟩ : ∃ d, exB O E M ps cs = d := ⟨_, rfl⟩
 have HD := Lib.hid hd
 rw [hd]
 clear hd
 cases d
 ·
  obtain ⟨r0, r1, r2, r3, r4, f0, f1, f2, f3, f4, rlt⟩ := hZ1.five
  have HO1 := Lib.hid hO1
  clear hO1
  go_wp2
  obtain ⟨z0, z1, z2, z3, z4, -⟩ := (five_set (y0 := .int .i64 0) (y1 := .int .i64 0) (y2 := .int .i64 0) (y3 := .slice none 0 0) (y4 := .slice none 0 0) hZ1).five
  refine bodyPost_ret (v := .tuple #[.agg #[.int .i64 0, .int .i64 0, .int .i64 0, .slice none 0 0, .slice none 0 0], .slice (some ⟨w.heap.size + 2, 0, none⟩) 0 0]) (by simp [results, Tryz.results10, go_sem, z0, z1, z2, z3, z4, r0, r1, r2, r3, r4]; try rfl) rfl ?_
  rw [linesR_no (.inl HD.out)]
  exact ⟨_, _, _, rfl, ExOwn.nothing _ _, owns_base (by omega) (HO1.out.kept (five_gb _ _ _ _ _ _ _) (far_of HO1.out (Nat.lt_succ_self _))), .inl rfl, five_below _ _ _ _ _ hbel1 (by omega)⟩
 by_cases h40 : 40 < m
 ·
  have HLX := Lib.hid (linesR_no (O := O) (E := E) (M := M) (ps := ps) (cs := cs) (ls := ls) (.inr (by rw [HN.out]; exact h40)))
  obtain ⟨r0, r1, r2, r3, r4, f0, f1, f2, f3, f4, rlt⟩ := hZ1.five
  have HO1 := Lib.hid hO1
  clear hO1
  go_wp2
  obtain ⟨z0, z1, z2, z3, z4, -⟩ := (five_set (y0 := .int .i64 0) (y1 := .int .i64 0) (y2 := .int .i64 0) (y3 := .slice none 0 0) (y4 := .slice none 0 0) hZ1).five
  refine bodyPost_ret (v := .tuple #[.agg #[.int .i64 0, .int .i64 0, .int .i64 0, .slice none 0 0, .slice none 0 0], .slice (some ⟨w.heap.size + 2, 0, none⟩) 0 0]) (by simp [results, Tryz.results10, go_sem, z0, z1, z2, z3, z4, r0, r1, r2, r3, r4]; try rfl) rfl ?_
  rw [HLX.out]
  exact ⟨_, _, _, rfl, ExOwn.nothing _ _, owns_base (by omega) (HO1.out.kept (five_gb _ _ _ _ _ _ _) (far_of HO1.out (Nat.lt_succ_self _))), .inl rfl, five_below _ _ _ _ _ hbel1 (by omega)⟩
 have HLR := Lib.hid (linesR_yes (O := O) (E := E) (M := M) (ps := ps) (cs := cs) (ls := ls) HD.out (by rw [HN.out]; omega))
 have HOK := Lib.hid ((exB_iff _ _ _ _ _).1 HD.out)
 have hcn := HOK.out.calls.count (lines_le HOK.out.calls.sh)
 have hpn := HOK.out.lines.2
 obtain ⟨b0, b1, b2, b3, b4, -, -, -, -, -, blt⟩ := hB1.five
 go_wp2_with fail
 refine (l8Copy_any O E M _ _ ps cs _ (HR.out.below hbel1) (by omega) (by omega)).mono ?_
 rintro e w2 ⟨vq, vr, rfl, ho2, hb2⟩
 have hbel2 : Below w.heap.size w w2 := hbel1.trans (Below.mono hb2 hbel1.size)
 have hz2 : w.heap.size + 3 ≤ w2.heap.size := by have := hb2.size; omega
 obtain ⟨aq, cq, ar, cr, rfl, rfl⟩ := agg_parts ho2
 have hst : LsSt w (w2.alloc (.cells #[.int .i64 O, .int .i64 E, .int .i64 M, .slice aq ps.length cq, .slice ar cs.length cr] 33)) O E M w2.heap.size (.slice aq ps.length cq) (.slice ar cs.length cr) (.slice (some ⟨w.heap.size + 2, 0, none⟩) 0 0) ps cs [] :=
  ⟨⟨hbel2.alloc hbel2.size _, (hZ1.belowAll hb2).alloc _, Blk.new rfl, (ho2.lower (by omega)).below (by (exact grownA)), own_new8 ho2.plan, own_new8 ho2.calls, by omega⟩, (owns_below hb2 hO1).alloc _, own_new8 (owns_below hb2 hO1), Hi.apart (Hi.of ho2.plan) (Lo.of hO1)⟩
 clear hZ1 hB1 hb2 ho2 b0 b1 b2 b3 b4 blt hbel1 hbel2 hO1
 obtain ⟨nb, hnb⟩ : ∃ nb, w2.heap.size = nb := ⟨_, rfl⟩
 rw [hnb] at hst
 go_wp2_with fail
 try rw [hnb]
 clear hnb
 go_loopw [6, 8] (fun va i wr => ∃ (k : Nat) (vq vr : Value) (ps' : List ByteArray) (cs' : List Cl) (av : List ByteArray), i = .int .i64 k ∧ k ≤ m ∧ Hid (av.length = k) ∧ Hid (linesQ E M ps cs (ls.take k) = ((ps', cs'), av)) ∧ Hid (ExOk O E M ps' cs') ∧ LsSt w wr O E M nb vq vr va ps' cs' av) (fun _ i _ => m - (intOf i).toNat)
 case atStart => exact ⟨0, _, _, ps, cs, [], rfl, Nat.zero_le _, rfl, rfl, HOK.out, hst⟩
 case round =>
  clear hst
  obtain ⟨k, vq, vr, ps', cs', av, rfl, hk, hak, HLN, HOK2, hst⟩ := hrel
  obtain ⟨aq, cq, ar, cr, rfl, rfl⟩ := agg_parts hst.rn.own
  obtain ⟨aa, ca, rfl⟩ := own_len9 hst.ans
  have hbg := hst.rn.big
  have ha40 : av.length ≤ 40 := by rw [hak.out]; omega
  by_cases hkm : k < m
  ·
   rcases HC3.out with h | ⟨b, off, rfl, hbl, hc3⟩
   ·
    omega
   obtain ⟨x, hx⟩ : ∃ x, ls[k]? = some x := ⟨_, List.getElem?_eq_getElem (by rw [HN.out]; omega)⟩
   have k1 : wr.cell? ⟨b, off + k, none⟩ = some (.string x) := by rw [hst.rn.bel.cell (p := ⟨b, off + k, none⟩) hbl, hc3 _ (by omega)]; exact strs_at _ _ _ hx
   have HXL := Lib.hid (HDL.out x (List.mem_of_getElem? hx))
   have HSN : Hid (linesQ E M ps cs (ls.take (k + 1)) = linesL E M ((ps', cs'), av) x) := by unfold Hid; rw [lines_snoc hx, HLN.out]
   have ki0 : (0 : Int) ≤ (k : Int) := by omega
   have ki1 : (k : Int) < (m : Int) := by omega
   obtain ⟨⟨⟨ps2, cs2⟩, t⟩, hlq⟩ : ∃ z, lineQ E M ps' cs' x = z := ⟨_, rfl⟩
   have HLQ := Lib.hid hlq
   have HOK4 : Hid (ExOk O E M ps2 cs2) := by have := line_ok HOK2.out x; rw [hlq] at this; exact this
   have HL4 : Hid (linesQ E M ps cs (ls.take (k + 1)) = ((ps2, cs2), av ++ [t])) := by unfold Hid; rw [HSN.out]; unfold linesL; simp only; rw [hlq]
   have HRD := Lib.hid hst.rn.own.rd
   have HSV : Hid (SomeV (.slice aq ps'.length cq) ps'.length) := own_somev hst.rn.own.plan
   clear hx hc3 hlq
   obtain ⟨n0, n1, n2, n3, n4, -, -, -, -, -, nlt⟩ := hst.rn.nxt.five
   have HC : Hid (∀ w' : World, Below wr.heap.size wr w' → (w'.cell? ⟨nb, 0, none⟩ = some (.int .i64 O) ∧ w'.cell? ⟨nb, 1, none⟩ = some (.int .i64 E) ∧ w'.cell? ⟨nb, 2, none⟩ = some (.int .i64 M) ∧ w'.cell? ⟨nb, 3, none⟩ = some (.slice aq ps'.length cq) ∧ w'.cell? ⟨nb, 4, none⟩ = some (.slice ar cs'.length cr)) ∧ w'.cell? ⟨b, off + k, none⟩ = some (.string x)) := fun w' hb => ⟨⟨keep_below hb n0, keep_below hb n1, keep_below hb n2, keep_below hb n3, keep_below hb n4⟩, keep_below hb k1⟩
   have hcS : Below wr.heap.size wr wr.drew := (Below.refl _ _).drew
   go_upto_region 8 with fail
   go_cut [9, 10] (fun tb tx wc => ∃ (xb : Nat) (vq2 vr2 : Value), tb = .pointer (some ⟨xb, 0, none⟩) ∧ tx = .string t ∧ ExRes wr wc xb O E M vq2 vr2 ps2 cs2)
   case first =>
    clear n0 n1 n2 n3 n4 nlt
    go_wp2_with fail
    clear k1
    refine wp_region_held_drew (S := fun w' => (w'.cell? ⟨nb, 0, none⟩ = some (.int .i64 O) ∧ w'.cell? ⟨nb, 1, none⟩ = some (.int .i64 E) ∧ w'.cell? ⟨nb, 2, none⟩ = some (.int .i64 M) ∧ w'.cell? ⟨nb, 3, none⟩ = some (.slice aq ps'.length cq) ∧ w'.cell? ⟨nb, 4, none⟩ = some (.slice ar cs'.length cr)) ∧ w'.cell? ⟨b, off + k, none⟩ = some (.string x)) (by kernel_rfl) (HC.out _ hcS) (fun hHeld => ?_)
    refine take_y 0 31 (v := ?_) rfl ?_ ?_; rotate_left; focus (intro w hSw; (try dsimp only at hSw); go_simp; (try rw [if_neg (by omega)]); (try with_reducible rfl))
    try simp only [Act.put, zp1, zp2, zp3]
    refine take_y 1 32 (v := ?_) rfl ?_ ?_; rotate_left; focus (intro w hSw; (try dsimp only at hSw); go_simp; (try rw [if_neg (by omega)]); (try with_reducible rfl))
    try simp only [Act.put, zp1, zp2, zp3]
    refine take_y 2 33 (v := ?_) rfl ?_ ?_; rotate_left; focus (intro w hSw; (try dsimp only at hSw); go_simp; (try rw [if_neg (by omega)]); (try with_reducible rfl))
    try simp only [Act.put, zp1, zp2, zp3]
    refine take_y 3 34 (v := ?_) rfl ?_ ?_; rotate_left; focus (intro w hSw; (try dsimp only at hSw); go_simp; (try rw [if_neg (by omega)]); (try with_reducible rfl))
    try simp only [Act.put, zp1, zp2, zp3]
    refine take_y 4 35 (v := ?_) rfl ?_ ?_; rotate_left; focus (intro w hSw; (try dsimp only at hSw); go_simp; (try rw [if_neg (by omega)]); (try with_reducible rfl))
    try simp only [Act.put, zp1, zp2, zp3]
    refine wpAnyH_ready (rs := [5, 9]) (by kernel_rfl) (by simp) ?_
    refine AllReadyH.cons rfl (fun K hK => ?_) (AllReadyH.cons rfl (fun K hK => ?_) AllReadyH.nil)
    focus
     go_simp
     refine (sExLine_any O E M _ _ ps' cs' x _ (HRD.out.below hcS) HSV.out HOK2.out.lens HXL.out).mono ?_
     intro e w4 h4
     rw [lineR_yes x ((exB_iff _ _ _ _ _).2 HOK2.out), HLQ.out] at h4
     have h5 := LineQ.res h4
     simp only at h5
     obtain ⟨vp', vc', rfl, ho4, hc4⟩ := h5
     obtain ⟨a4, c4, a5, c5, rfl, rfl⟩ := agg_parts ho4
     have hcB : Below wr.heap.size wr w4 := hcS.trans (Below.mono hc4 hcS.size)
     refine hK.out _ _ (HC.out _ hcB) (fun hHeld2 => ?_)
     clear hHeld hK K; have hHeld := hHeld2; clear hHeld2; try simp only [Act.put, zp1, zp2, zp3]
     refine take_y 6 30 (v := ?_) rfl ?_ ?_; rotate_left; focus (intro w hSw; (try dsimp only at hSw); go_simp; (try rw [if_neg (by omega)]); (try with_reducible rfl))
     try simp only [Act.put, zp1, zp2, zp3]
     refine take_y 7 37 (v := ?_) rfl ?_ ?_; rotate_left; focus (intro w hSw; (try dsimp only at hSw); go_simp; (try rw [if_neg (by omega)]); (try with_reducible rfl))
     try simp only [Act.put, zp1, zp2, zp3]
     refine take_y 8 38 (v := ?_) rfl ?_ ?_; rotate_left; focus (intro w hSw; (try dsimp only at hSw); go_simp; (try rw [if_neg (by omega)]); (try with_reducible rfl))
     try simp only [Act.put, zp1, zp2, zp3]
     refine wpAnyH_ready (rs := [9]) (by kernel_rfl) (by simp) ?_
     refine AllReadyH.cons rfl (fun K hK => ?_) AllReadyH.nil
     go_simp
     refine hK.out _ _ (HC.out _ (hcB.alloc hcB.size _)) (fun hHeld2 => ?_)
     clear hHeld hK K; have hHeld := hHeld2; clear hHeld2; try simp only [Act.put, zp1, zp2, zp3]
     refine wpAnyH_ready (rs := [10]) (by kernel_rfl) (by simp) ?_
     refine AllReadyH.cons rfl (fun K hK => ?_) AllReadyH.nil
     go_simp
     refine hK.out _ _ (HC.out _ (hcB.alloc hcB.size _)) (fun hHeld2 => ?_)
     clear hHeld hK K; have hHeld := hHeld2; clear hHeld2; try simp only [Act.put, zp1, zp2, zp3]
     have hRS := ExRes.mkA (O := O) (E := E) (M := M) hcB ho4 hcS.size
     refine take_y 11 10 (v := ?_) rfl ?_ ?_; rotate_left; focus (intro w hSw; (try dsimp only at hSw); go_simp; (try rw [if_neg (by omega)]); (try with_reducible rfl))
     try simp only [Act.put, zp1, zp2, zp3]
     refine wpAnyH_done (by kernel_rfl) ?_ _
     clear hHeld
     go_wp2_with fail
     go_meet
     exact ⟨_, _, _, rfl, rfl, hRS⟩
    focus
     go_simp
     have hXb := Blk.new (w := wr.drew) (cs := #[.int .i64 0, .int .i64 0, .int .i64 0, .slice none 0 0, .slice none 0 0]) (T := 33) (b := wr.heap.size) rfl
     have hal : Below wr.drew.heap.size wr.drew (wr.drew.alloc (.cells #[.int .i64 0, .int .i64 0, .int .i64 0, .slice none 0 0, .slice none 0 0] 33)) := (Below.refl _ _).alloc (Nat.le_refl _) _
     have hcA : Below wr.heap.size wr (wr.drew.alloc (.cells #[.int .i64 0, .int .i64 0, .int .i64 0, .slice none 0 0, .slice none 0 0] 33)) := hcS.trans (Below.mono hal hcS.size)
     refine hK.out _ _ (HC.out _ hcA) (fun hHeld2 => ?_)
     clear hHeld hK K; have hHeld := hHeld2; clear hHeld2; try simp only [Act.put, zp1, zp2, zp3]
     refine wpAnyH_ready (rs := [5]) (by kernel_rfl) (by simp) ?_
     refine AllReadyH.cons rfl (fun K hK => ?_) AllReadyH.nil
     go_simp
     refine (sExLine_any O E M _ _ ps' cs' x _ (HRD.out.below hcA) HSV.out HOK2.out.lens HXL.out).mono ?_
     intro e w4 h4
     rw [lineR_yes x ((exB_iff _ _ _ _ _).2 HOK2.out), HLQ.out] at h4
     have h5 := LineQ.res h4
     simp only at h5
     obtain ⟨vp', vc', rfl, ho4, hc4⟩ := h5
     obtain ⟨a4, c4, a5, c5, rfl, rfl⟩ := agg_parts ho4
     have hcB : Below wr.heap.size wr w4 := hcA.trans (Below.mono hc4 hcA.size)
     have hbF := hXb.lt
     have gX := hXb.belowAll hc4
     refine hK.out _ _ (HC.out _ hcB) (fun hHeld2 => ?_)
     clear hHeld hK K; have hHeld := hHeld2; clear hHeld2; try simp only [Act.put, zp1, zp2, zp3]
     refine take_y 6 30 (v := ?_) rfl ?_ ?_; rotate_left; focus (intro w hSw; (try dsimp only at hSw); go_simp; (try rw [if_neg (by omega)]); (try with_reducible rfl))
     try simp only [Act.put, zp1, zp2, zp3]
     refine take_y 7 37 (v := ?_) rfl ?_ ?_; rotate_left; focus (intro w hSw; (try dsimp only at hSw); go_simp; (try rw [if_neg (by omega)]); (try with_reducible rfl))
     try simp only [Act.put, zp1, zp2, zp3]
     refine take_y 8 38 (v := ?_) rfl ?_ ?_; rotate_left; focus (intro w hSw; (try dsimp only at hSw); go_simp; (try rw [if_neg (by omega)]); (try with_reducible rfl))
     try simp only [Act.put, zp1, zp2, zp3]
     have hRS := ExRes.mkB (O := O) (E := E) (M := M) hcB gX (Nat.le_refl _) ho4 hbF
     obtain ⟨X0, X1, X2, X3, X4, Y0, Y1, Y2, Y3, Y4, Xlt⟩ := gX.five
     refine wpAnyH_ready (rs := [10]) (by kernel_rfl) (by simp) ?_
     refine AllReadyH.cons rfl (fun K hK => ?_) AllReadyH.nil
     go_simp
     refine hK.out _ _ (HC.out _ (by exact hRS.bel)) (fun hHeld2 => ?_)
     clear hHeld hK K; have hHeld := hHeld2; clear hHeld2; try simp only [Act.put, zp1, zp2, zp3]
     refine take_y 11 10 (v := ?_) rfl ?_ ?_; rotate_left; focus (intro w hSw; (try dsimp only at hSw); go_simp; (try rw [if_neg (by omega)]); (try with_reducible rfl))
     try simp only [Act.put, zp1, zp2, zp3]
     refine wpAnyH_done (by kernel_rfl) ?_ _
     clear hHeld
     go_wp2_with fail
     go_meet
     exact ⟨_, _, _, rfl, rfl, hRS⟩
   case rest =>
   clear n0 n1 n2 n3 n4 nlt k1
   obtain ⟨xb, vq2, vr2, rfl, rfl, hRS⟩ := hcut
   obtain ⟨a4, c4, a5, c5, rfl, rfl⟩ := agg_parts hRS.own
   have hap := Hi.apart (Hi.of hRS.own.plan) (Lo.of hst.ans)
   have hnb9 : nb < wr.heap.size := hst.rn.nxt.lt
   have hst2 := hst.belowAll hRS.bel
   have hst3 := hst2.next hRS.own hnb9 hap
   obtain ⟨y0, y1, y2, y3, y4, -, -, -, -, -, ylt⟩ := hRS.box.five
   obtain ⟨n0, n1, n2, n3, n4, g0, g1, g2, g3, g4, nlt⟩ := hst2.rn.nxt.five
   have hzw : w.heap.size + 2 ≤ wc.heap.size := by have := hRS.bel.size; omega
   clear hst hRS hst2 hap HC HRD HSV
   go_upto_region 9 with fail
   go_cut [] (fun wd => wd = ((((wc.setCell ⟨nb, 0, none⟩ (.int .i64 O)).setCell ⟨nb, 1, none⟩ (.int .i64 E)).setCell ⟨nb, 2, none⟩ (.int .i64 M)).setCell ⟨nb, 3, none⟩ (.slice a4 ps2.length c4)).setCell ⟨nb, 4, none⟩ (.slice a5 cs2.length c5))
   case first =>
    go_wp2_with fail
    go_meet
    rfl
   case rest =>
   clear y0 y1 y2 y3 y4 ylt n0 n1 n2 n3 n4 g0 g1 g2 g3 g4 nlt
   subst hcut
   obtain ⟨W5, hW5⟩ : ∃ W, ((((wc.setCell ⟨nb, 0, none⟩ (.int .i64 O)).setCell ⟨nb, 1, none⟩ (.int .i64 E)).setCell ⟨nb, 2, none⟩ (.int .i64 M)).setCell ⟨nb, 3, none⟩ (.slice a4 ps2.length c4)).setCell ⟨nb, 4, none⟩ (.slice a5 cs2.length c5) = W := ⟨_, rfl⟩
   have hzw5 : w.heap.size + 2 ≤ W5.heap.size := by rw [← hW5]; simpa using hzw
   rw [hW5] at hst3 ⊢
   clear hW5 hzw
   go_wp2_with (at_builtin; refine wpList_append_own_at _ rfl _ _ 24 rfl (w.heap.size + 2) 9 j0 _ 1 16 Tryz.underlying24 hj hy0 hy1 hy2 rfl (by decide) _ _ _ rfl (hst3.ans.alloc _) ⟨W5.heap.size, 0, none⟩ 1 1 [.string t] rfl rfl (newS _ _ _ _ (by first | rfl | simp)) (oneS _) (by unfold maxLen; omega) (by omega) (by simp; omega) ?_; intro v' w6 hown' hgrow _ hat)
   have hst7 := (hst3.alloc (.cells #[.string t] 9)).push hown' hgrow hat
   clear hst3 hgrow hown' hat
   go_wp2_with fail
   go_roundw
   case rel => exact ⟨k + 1, _, _, ps2, cs2, av ++ [t], by go_num, by omega, by unfold Hid; rw [List.length_append, hak.out]; rfl, HL4, HOK4, hst7⟩
   case measure => simp [intOf]; omega
  ·
   obtain rfl : k = m := by omega
   have HLA : Hid (linesQ E M ps cs ls = ((ps', cs'), av)) := by have := HLN.out; rw [List.take_of_length_le (by rw [HN.out]; omega)] at this; exact this
   obtain ⟨n0, n1, n2, n3, n4, -, -, -, -, -, nlt⟩ := hst.rn.nxt.five
   obtain ⟨r0, r1, r2, r3, r4, f0, f1, f2, f3, f4, rlt⟩ := hst.rn.res.five
   go_wp2
   obtain ⟨z0, z1, z2, z3, z4, -⟩ := (five_set (y0 := .int .i64 O) (y1 := .int .i64 E) (y2 := .int .i64 M) (y3 := .slice aq ps'.length cq) (y4 := .slice ar cs'.length cr) hst.rn.res).five
   refine bodyPost_ret (v := .tuple #[.agg #[.int .i64 O, .int .i64 E, .int .i64 M, .slice aq ps'.length cq, .slice ar cs'.length cr], .slice aa av.length ca]) (by simp [results, Tryz.results10, go_sem, z0, z1, z2, z3, z4]) rfl ?_
   rw [HLR.out, HLA.out]
   exact hst.back

end Go.Proofs.YtedadhoneebfnaaGreatDoor
