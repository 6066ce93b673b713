/- Contract of ExLines (program), and where the saying of lines stands. -/
import Derived.Test.YtedadhoneebfnaaGreatDoorTl
set_option linter.unusedSimpArgs false
set_option linter.unusedVariables false
namespace Go.Proofs.YtedadhoneebfnaaGreatDoor
open Go.RowKit

theorem ap_nx {W : World} {base n size : Nat} {E : TypeId} {u v v' : Value} {xs : List Value} (h : W.ownsRow base E size u n xs) (ha : u.ownBlock = none ∨ u.ownBlock ≠ v.ownBlock) (hat : v'.ownBlock = v.ownBlock ∨ v'.ownBlock = some W.heap.size) : u.ownBlock = none ∨ u.ownBlock ≠ v'.ownBlock := by
 cases hu : u.ownBlock with
 | none => exact .inl rfl
 | some k =>
  refine .inr fun e => ?_
  rcases hat with h1 | h1
  ·
   rcases ha with h2 | h2
   ·
    rw [hu] at h2; cases h2
   ·
    exact h2 (by rw [hu, e, h1])
  ·
   rw [h1] at e
   have := own_lt h k hu
   cases e
   omega
theorem own_2 {w : World} {base base' n m : Nat} {E E' : TypeId} {size size' : Nat} {v u : Value} {xs ys : List Value} (h : w.ownsRow base E size v n xs) (h' : w.ownsRow base' E' size' u m ys) (hE : E ≠ E') : v.ownBlock = none ∨ v.ownBlock ≠ u.ownBlock := by
 rcases h.2 with ⟨rfl, _⟩ | ⟨g, cap, cur, rfl, _, hg, _⟩
 ·
  exact .inl rfl
 ·
  refine .inr fun e => ?_
  rcases h'.2 with ⟨rfl, _⟩ | ⟨g', cap', cur', rfl, _, hg', _⟩
  ·
   simp [Value.ownBlock] at e
  ·
   simp [Value.ownBlock] at e
   subst e
   rw [hg] at hg'
   simp at hg'
   exact hE hg'.2
/-- What ExLines leaves. -/
noncomputable def linesR (O E M : Int) (ps : List ByteArray) (cs : List Cl) (ls : List ByteArray) : (Int × Int × Int) × (List ByteArray × List Cl) × List ByteArray :=
 if exB O E M ps cs = true ∧ ls.length ≤ 40 then ((O, E, M), linesQ E M ps cs ls) else ((0, 0, 0), ([], []), [])
theorem linesR_yes {O E M : Int} {ps : List ByteArray} {cs : List Cl} {ls : List ByteArray} (h : exB O E M ps cs = true) (hl : ls.length ≤ 40) : linesR O E M ps cs ls = ((O, E, M), linesQ E M ps cs ls) := by unfold linesR; rw [if_pos ⟨h, hl⟩]
theorem linesR_no {O E M : Int} {ps : List ByteArray} {cs : List Cl} {ls : List ByteArray} (h : exB O E M ps cs = false ∨ 40 < ls.length) : linesR O E M ps cs ls = ((0, 0, 0), ([], []), []) := by
 unfold linesR
 rw [if_neg]
 rintro ⟨h1, h2⟩
 rcases h with h | h
 ·
  rw [h] at h1; cases h1
 ·
  omega
def LinesPost (r : (Int × Int × Int) × (List ByteArray × List Cl) × List ByteArray) (w : World) (e : Ending) (w' : World) : Prop :=
 ∃ vp vc va, e = .returned (.tuple #[.agg #[.int .i64 r.1.1, .int .i64 r.1.2.1, .int .i64 r.1.2.2, vp, vc], va]) ∧ ExOwn w' w.heap.size vp vc r.2.1.1 r.2.1.2 ∧ w'.ownsRow w.heap.size 9 1 va r.2.2.length (strs r.2.2) ∧ (vp.ownBlock = none ∨ vp.ownBlock ≠ va.ownBlock) ∧ Below w.heap.size w w'
/-- Where the saying stands: the running's state, and the answers. -/
structure LsSt (w W : World) (O E M : Int) (nb : Nat) (vq vr va : Value) (ps : List ByteArray) (cs : List Cl) (av : List ByteArray) : Prop where
 rn : RnSt w W O E M nb vq vr ps cs
 ans : W.ownsRow (w.heap.size + 2) 9 1 va av.length (strs av)
 apA : va.ownBlock = none ∨ va.ownBlock ≠ some nb
 apP : vq.ownBlock = none ∨ vq.ownBlock ≠ va.ownBlock
section
variable {w W W' : World} {O E M : Int} {nb B : Nat} {vq vr va va' vp' vc' : Value} {ps ps' : List ByteArray} {cs cs' : List Cl} {av : List ByteArray} {t : ByteArray}
theorem LsSt.belowAll (h : LsSt w W O E M nb vq vr va ps cs av) (hb : Below W.heap.size W W') : LsSt w W' O E M nb vq vr va ps cs av := ⟨h.rn.belowAll hb, owns_below hb h.ans, h.apA, h.apP⟩
theorem LsSt.alloc (h : LsSt w W O E M nb vq vr va ps cs av) (o : Obj) : LsSt w (W.alloc o) O E M nb vq vr va ps cs av := h.belowAll ((Below.refl _ _).alloc (Nat.le_refl _) _)
theorem LsSt.drew (h : LsSt w W O E M nb vq vr va ps cs av) : LsSt w W.drew O E M nb vq vr va ps cs av := ⟨h.rn.drew, h.ans, h.apA, h.apP⟩
theorem LsSt.next (h : LsSt w W O E M nb vq vr va ps cs av) (ho : ExOwn W B vp' vc' ps' cs') (hB : nb < B) (hA : vp'.ownBlock = none ∨ vp'.ownBlock ≠ va.ownBlock) :
  LsSt w (((((W.setCell ⟨nb, 0, none⟩ (.int .i64 O)).setCell ⟨nb, 1, none⟩ (.int .i64 E)).setCell ⟨nb, 2, none⟩ (.int .i64 M)).setCell ⟨nb, 3, none⟩ vp').setCell ⟨nb, 4, none⟩ vc') O E M nb vp' vc' va ps' cs' av :=
 ⟨h.rn.next ho hB, h.ans.kept (five_gb _ _ _ _ _ _ _) h.apA, h.apA, hA⟩
theorem LsSt.push (h : LsSt w W O E M nb vq vr va ps cs av) (hown : W'.ownsRow (w.heap.size + 2) 9 1 va' (av.length + 1) (strs av ++ [.string t])) (hg : W.grownBy W' va.ownBlock) (hat : va'.ownBlock = va.ownBlock ∨ va'.ownBlock = some W.heap.size) :
  LsSt w W' O E M nb vq vr va' ps cs (av ++ [t]) := by
 have hge := own_ge h.ans
 have hbg := h.rn.big
 refine ⟨⟨h.rn.bel.grown hg h.rn.bel.size (fun k hk => by have := hge k hk; omega), Blk.gbr hg (fun e => by have := hge _ e.symm; omega) h.rn.res, Blk.gbr hg (ap_ne h.apA) h.rn.nxt, h.rn.own.kept hg h.apP (own_2 h.rn.own.calls h.ans (by decide)), h.rn.ap1, h.rn.ap2, hbg⟩, by rw [List.length_append, ← strs_snocD]; exact hown, ?_, ap_nx h.rn.own.plan h.apP hat⟩
 rcases hat with e | e
 ·
  rw [e]; exact h.apA
 ·
  rw [e]; exact .inr (fun e2 => by have := h.rn.nxt.lt; cases e2; omega)
/-- Handed back. -/
theorem LsSt.back (h : LsSt w W O E M nb vq vr va ps cs av) : LinesPost ((O, E, M), (ps, cs), av) w (.returned (.tuple #[.agg #[.int .i64 O, .int .i64 E, .int .i64 M, vq, vr], va])) (((((W.setCell ⟨w.heap.size + 1, 0, none⟩ (.int .i64 O)).setCell ⟨w.heap.size + 1, 1, none⟩ (.int .i64 E)).setCell ⟨w.heap.size + 1, 2, none⟩ (.int .i64 M)).setCell ⟨w.heap.size + 1, 3, none⟩ vq).setCell ⟨w.heap.size + 1, 4, none⟩ vr) :=
 ⟨_, _, _, rfl, (h.rn.own.result _ _ _ _ _ (by omega)).lower (by omega), owns_base (by omega) (h.ans.kept (five_gb _ _ _ _ _ _ _) (far_of h.ans (Nat.lt_succ_self _))), h.apP, five_below _ _ _ _ _ h.rn.bel (by omega)⟩
end

set_option maxRecDepth 100000 in
set_option maxHeartbeats 16000000 in
theorem iExLines_any (O E M : Int) (vp vc vl : Value) (ps : List ByteArray) (cs : List Cl) (ls : List ByteArray) (w : World) (hR : ExRd w vp vc ps cs) (hn : SomeV vp ps.length) (hL : StLen ps) (hD : Rds w vl ls.length 1 (strs ls)) (hDL : ∀ s ∈ ls, s.size ≤ 1100000) :
  Calls Tryz.prog 13 #[.agg #[.int .i64 O, .int .i64 E, .int .i64 M, vp, vc], vl] w (LinesPost (linesR O E M ps cs ls) w) := by
 obtain ⟨j0, hj, hy0, hy1, hy2⟩ := info_parts infoS8
 have hB := (Blk.new (w := w) (cs := #[.int .i64 O, .int .i64 E, .int .i64 M, vp, vc]) (T := 33) rfl).alloc (.cells #[.int .i64 0, .int .i64 0, .int .i64 0, .slice none 0 0, .slice none 0 0] 33)
 have hZ := Blk.new (w := w.alloc (.cells #[.int .i64 O, .int .i64 E, .int .i64 M, vp, vc] 33)) (cs := #[.int .i64 0, .int .i64 0, .int .i64 0, .slice none 0 0, .slice none 0 0]) (T := 33) (b := w.heap.size + 1) (by simp)
 have hbel0 : Below w.heap.size w ((w.alloc (.cells #[.int .i64 O, .int .i64 E, .int .i64 M, vp, vc] 33)).alloc (.cells #[.int .i64 0, .int .i64 0, .int .i64 0, .slice none 0 0, .slice none 0 0] 33)) := by (exact grownA)
 have HR := Lib.hid hR
 have HNN := Lib.hid hn
 have HL := Lib.hid hL
 have HDL := Lib.hid hDL
 obtain ⟨_, _, a1, c1, rfl, _⟩ := hR.plan
 obtain ⟨_, _, a2, c2, rfl, _⟩ := hR.calls
 obtain ⟨a3, c3, rfl, _, hm, hn3, hc3⟩ := hD.open1
 unfold maxLen at hm
 obtain ⟨m, hmm⟩ : ∃ m, ls.length = m := ⟨_, rfl⟩
 have HN := Lib.hid hmm
 rw [hmm] at hm hn3 hc3 ⊢
 have HC3 := Lib.hid hc3
 obtain ⟨b0, b1, b2, b3, b4, -, -, -, -, -, blt⟩ := hB.five
 clear hR hn hL hDL hc3 hmm hD
 go_enter Tryz.func13, Tryz.ntmps13
 go_wp2_with fail
 refine (iExchangeValid_any O E M _ _ ps cs _ (HR.out.below hbel0) HL.out).mono ?_
 rintro e w1 ⟨rfl, hb1⟩
 have hbel1 : Below w.heap.size w w1 := by (exact grownA)
 have hB1 := hB.belowAll hb1
 have hZ1 := hZ.belowAll hb1
 clear hB hZ hb1 hbel0 b0 b1 b2 b3 b4 blt
 obtain ⟨d, hd⟩ : ∃ d, exB O E M ps cs = d := ⟨_, rfl⟩
 have HD := Lib.hid hd
 rw [hd]
 clear hd
 cases d
 ·
  obtain ⟨r0, r1, r2, r3, r4, f0, f1, f2, f3, f4, rlt⟩ := hZ1.five
  go_wp2
  obtain ⟨z0, z1, z2, z3, z4, -⟩ := (five_set (y0 := .int .i64 0) (y1 := .int .i64 0) (y2 := .int .i64 0) (y3 := .slice none 0 0) (y4 := .slice none 0 0) hZ1).five
  refine bodyPost_ret (v := .tuple #[.agg #[.int .i64 0, .int .i64 0, .int .i64 0, .slice none 0 0, .slice none 0 0], .slice none 0 0]) (by simp [results, Tryz.results13, go_sem, z0, z1, z2, z3, z4, r0, r1, r2, r3, r4]; try rfl) rfl ?_
  rw [linesR_no (.inl HD.out)]
  exact ⟨_, _, _, rfl, ExOwn.nothing _ _, World.ownsRow_nil _ _ _ _, .inl rfl, five_below _ _ _ _ _ hbel1 (by omega)⟩
 by_cases h40 : 40 < m
 ·
  have HLX := Lib.hid (linesR_no (O := O) (E := E) (M := M) (ps := ps) (cs := cs) (ls := ls) (.inr (by rw [HN.out]; exact h40)))
  obtain ⟨r0, r1, r2, r3, r4, f0, f1, f2, f3, f4, rlt⟩ := hZ1.five
  go_wp2
  obtain ⟨z0, z1, z2, z3, z4, -⟩ := (five_set (y0 := .int .i64 0) (y1 := .int .i64 0) (y2 := .int .i64 0) (y3 := .slice none 0 0) (y4 := .slice none 0 0) hZ1).five
  refine bodyPost_ret (v := .tuple #[.agg #[.int .i64 0, .int .i64 0, .int .i64 0, .slice none 0 0, .slice none 0 0], .slice none 0 0]) (by simp [results, Tryz.results13, go_sem, z0, z1, z2, z3, z4, r0, r1, r2, r3, r4]; try rfl) rfl ?_
  rw [HLX.out]
  exact ⟨_, _, _, rfl, ExOwn.nothing _ _, World.ownsRow_nil _ _ _ _, .inl rfl, five_below _ _ _ _ _ hbel1 (by omega)⟩
 have HLR := Lib.hid (linesR_yes (O := O) (E := E) (M := M) (ps := ps) (cs := cs) (ls := ls) HD.out (by rw [HN.out]; omega))
 have HOK := Lib.hid ((exB_iff _ _ _ _ _).1 HD.out)
 have hcn := HOK.out.calls.count (lines_le HOK.out.calls.sh)
 have hpn := HOK.out.lines.2
 obtain ⟨b0, b1, b2, b3, b4, -, -, -, -, -, blt⟩ := hB1.five
 go_wp2_with fail
 refine (copyExchange_any O E M _ _ ps cs _ (HR.out.below hbel1) HNN.out (by omega) (by omega)).mono ?_
 rintro e w2 ⟨vq, vr, rfl, ho2, hb2⟩
 have hbel2 : Below w.heap.size w w2 := hbel1.trans (Below.mono hb2 hbel1.size)
 have hz2 : w.heap.size + 2 ≤ w2.heap.size := by have := hZ1.lt; have := hb2.size; omega
 have hz1 : w.heap.size + 2 ≤ w1.heap.size := hZ1.lt
 obtain ⟨aq, cq, ar, cr, rfl, rfl⟩ := agg_parts ho2
 have hst : RnSt w (w2.alloc (.cells #[.int .i64 O, .int .i64 E, .int .i64 M, .slice aq ps.length cq, .slice ar cs.length cr] 33)) O E M w2.heap.size (.slice aq ps.length cq) (.slice ar cs.length cr) ps cs :=
  ⟨hbel2.alloc hbel2.size _, (hZ1.belowAll hb2).alloc _, Blk.new rfl, (ho2.lower hz1).below (by (exact grownA)), own_new8 ho2.plan, own_new8 ho2.calls, hz2⟩
 clear hZ1 hB1 hb2 ho2 b0 b1 b2 b3 b4 blt hbel1 hbel2
 obtain ⟨nb, hnb⟩ : ∃ nb, w2.heap.size = nb := ⟨_, rfl⟩
 have hszl : (w2.alloc (.cells #[.int .i64 O, .int .i64 E, .int .i64 M, .slice aq ps.length cq, .slice ar cs.length cr] 33)).heap.size = nb + 1 := by rw [← hnb]; simp
 rw [hnb] at hst
 have hbw : w.heap.size + 2 ≤ (w2.alloc (.cells #[.int .i64 O, .int .i64 E, .int .i64 M, .slice aq ps.length cq, .slice ar cs.length cr] 33)).heap.size := by omega
 go_wp2_with (refine wpList_make_own _ rfl _ _ 24 rfl (w.heap.size + 2) 9 j0 _ 1 Tryz.underlying24 hj hy0 hy1 .i64 .i64 _ m rfl rfl rfl (by rw [hy2]; omega) (by unfold maxLen; omega) hbw ?_; intro w3 hmk hgr)
 have hb3 : Below (w2.alloc (.cells #[.int .i64 O, .int .i64 E, .int .i64 M, .slice aq ps.length cq, .slice ar cs.length cr] 33)).heap.size (w2.alloc (.cells #[.int .i64 O, .int .i64 E, .int .i64 M, .slice aq ps.length cq, .slice ar cs.length cr] 33)) w3 := (Below.refl _ _).grown hgr (Nat.le_refl _) (by intro k hk; cases hk)
 rw [hszl] at hmk
 have hls : LsSt w w3 O E M nb (.slice aq ps.length cq) (.slice ar cs.length cr) (.slice (some ⟨nb + 1, 0, none⟩) 0 m) ps cs [] :=
  ⟨hst.belowAll hb3, hmk, .inr (by simp [Value.ownBlock]), by have := own_new8 hst.own.plan; rw [hszl] at this; exact this⟩
 try rw [hszl]
 try rw [hnb]
 clear hst hmk hgr hb3 hszl hbw hnb
 go_wp2_with fail
 go_loopw [7, 28] (fun va i wr => ∃ (k : Nat) (vq vr : Value) (ps' : List ByteArray) (cs' : List Cl) (av : List ByteArray), i = .int .i64 k ∧ k ≤ m ∧ Hid (av.length = k) ∧ Hid (linesQ E M ps cs (ls.take k) = ((ps', cs'), av)) ∧ Hid (ExOk O E M ps' cs') ∧ LsSt w wr O E M nb vq vr va ps' cs' av) (fun _ i _ => m - (intOf i).toNat)
 case atStart => exact ⟨0, _, _, ps, cs, [], rfl, Nat.zero_le _, rfl, rfl, HOK.out, hls⟩
 case round =>
  clear hls
  obtain ⟨k, vq, vr, ps', cs', av, rfl, hk, hak, HLN, HOK2, hst⟩ := hrel
  obtain ⟨aq, cq, ar, cr, rfl, rfl⟩ := agg_parts hst.rn.own
  obtain ⟨aa, ca, rfl⟩ := own_len9 hst.ans
  have hbg := hst.rn.big
  have ha40 : av.length ≤ 40 := by rw [hak.out]; omega
  by_cases hkm : k < m
  ·
   rcases HC3.out with h | ⟨b, off, rfl, hbl, hc3⟩
   ·
    omega
   obtain ⟨x, hx⟩ : ∃ x, ls[k]? = some x := ⟨_, List.getElem?_eq_getElem (by rw [HN.out]; omega)⟩
   have k1 : wr.cell? ⟨b, off + k, none⟩ = some (.string x) := by rw [hst.rn.bel.cell (p := ⟨b, off + k, none⟩) hbl, hc3 _ (by omega)]; exact strs_at _ _ _ hx
   have HXL := Lib.hid (HDL.out x (List.mem_of_getElem? hx))
   have HSN : Hid (linesQ E M ps cs (ls.take (k + 1)) = linesL E M ((ps', cs'), av) x) := by unfold Hid; rw [lines_snoc hx, HLN.out]
   have ki0 : (0 : Int) ≤ (k : Int) := by omega
   have ki1 : (k : Int) < (m : Int) := by omega
   clear hx hc3
   obtain ⟨n0, n1, n2, n3, n4, -, -, -, -, -, nlt⟩ := hst.rn.nxt.five
   go_wp2_with fail
   refine (iExLine_any O E M _ _ ps' cs' x _ hst.rn.own.rd (own_somev hst.rn.own.plan) HOK2.out.lens HXL.out).mono ?_
   intro e w4 h4
   rw [lineR_yes x ((exB_iff _ _ _ _ _).2 HOK2.out)] at h4
   obtain ⟨⟨⟨ps2, cs2⟩, t⟩, hlq⟩ : ∃ z, lineQ E M ps' cs' x = z := ⟨_, rfl⟩
   have HOK4 : Hid (ExOk O E M ps2 cs2) := by have := line_ok HOK2.out x; rw [hlq] at this; exact this
   have HL4 : Hid (linesQ E M ps cs (ls.take (k + 1)) = ((ps2, cs2), av ++ [t])) := by unfold Hid; rw [HSN.out]; unfold linesL; simp only; rw [hlq]
   rw [hlq] at h4
   have h5 := LineQ.res h4
   simp only at h5
   obtain ⟨vp', vc', rfl, ho4, hb4⟩ := h5
   obtain ⟨a4, c4, a5, c5, rfl, rfl⟩ := agg_parts ho4
   have hlo := Lo.of hst.ans
   have hnb9 : nb < wr.heap.size := hst.rn.nxt.lt
   have hal : Below w4.heap.size w4 (w4.alloc (.cells #[.int .i64 O, .int .i64 E, .int .i64 M, .slice a4 ps2.length c4, .slice a5 cs2.length c5] 33)) := (Below.refl _ _).alloc (Nat.le_refl _) _
   have hst5 := (hst.belowAll hb4).belowAll hal
   have ho5 := ho4.below hal
   have hX5 := Blk.new (w := w4) (cs := #[.int .i64 O, .int .i64 E, .int .i64 M, .slice a4 ps2.length c4, .slice a5 cs2.length c5]) (T := 33) (b := w4.heap.size) rfl
   have hz4 := hb4.size
   clear n0 n1 n2 n3 n4 nlt k1
   go_upto_region 9 with fail
   obtain ⟨xb, hxb⟩ : ∃ xb, w4.heap.size = xb := ⟨_, rfl⟩
   obtain ⟨W5, hW5⟩ : ∃ W, w4.alloc (.cells #[.int .i64 O, .int .i64 E, .int .i64 M, .slice a4 ps2.length c4, .slice a5 cs2.length c5] 33) = W := ⟨_, rfl⟩
   rw [hW5] at hst5 ho5 hX5 ⊢
   rw [hxb] at hX5 hz4 ⊢
   clear hst hb4 ho4 hal hlq HSN HLN hxb hW5 HOK2
   have hzw : w.heap.size + 2 ≤ W5.heap.size := by have := hst5.rn.nxt.lt; omega
   go_wp2_with (at_builtin; refine wpList_append_own_at _ rfl _ _ 24 rfl (w.heap.size + 2) 9 j0 _ 1 16 Tryz.underlying24 hj hy0 hy1 hy2 rfl (by decide) _ _ _ rfl (hst5.ans.alloc _) ⟨W5.heap.size, 0, none⟩ 1 1 [.string t] rfl rfl (newS _ _ _ _ (by first | rfl | simp)) (oneS _) (by unfold maxLen; omega) (by omega) (by simp; omega) ?_; intro v' w6 hown' hgrow _ hat; have hst6 := (hst5.alloc (.cells #[.string t] 9)).push hown' hgrow hat; have ho6 := (ho5.below ((Below.refl _ _).alloc (Nat.le_refl _) (.cells #[.string t] 9))).kept hgrow (Hi.apart (Hi.of ho5.plan) hlo) (own_2 ho5.calls hst5.ans (by decide)); have hX6 := Blk.gbr hgrow (fun e => by have := hlo _ e.symm; omega) (hX5.alloc (.cells #[.string t] 9)); have hap := ap_nx (ho5.below ((Below.refl _ _).alloc (Nat.le_refl _) (.cells #[.string t] 9))).plan (Hi.apart (Hi.of ho5.plan) hlo) hat; have hst7 := hst6.next ho6 hnb9 hap; obtain ⟨y0, y1, y2, y3, y4, -, -, -, -, -, ylt⟩ := hX6.five; obtain ⟨n0, n1, n2, n3, n4, g0, g1, g2, g3, g4, nlt⟩ := hst6.rn.nxt.five; clear hst5 ho5 hX5 hgrow hown' ho6 hap hX6 hst6)
   go_roundw
   case rel => exact ⟨k + 1, _, _, ps2, cs2, av ++ [t], by go_num, by omega, by unfold Hid; rw [List.length_append, hak.out]; rfl, HL4, HOK4, hst7⟩
   case measure => simp [intOf]; omega
  ·
   obtain rfl : k = m := by omega
   have HLA : Hid (linesQ E M ps cs ls = ((ps', cs'), av)) := by have := HLN.out; rw [List.take_of_length_le (by rw [HN.out]; omega)] at this; exact this
   obtain ⟨n0, n1, n2, n3, n4, -, -, -, -, -, nlt⟩ := hst.rn.nxt.five
   obtain ⟨r0, r1, r2, r3, r4, f0, f1, f2, f3, f4, rlt⟩ := hst.rn.res.five
   go_wp2
   obtain ⟨z0, z1, z2, z3, z4, -⟩ := (five_set (y0 := .int .i64 O) (y1 := .int .i64 E) (y2 := .int .i64 M) (y3 := .slice aq ps'.length cq) (y4 := .slice ar cs'.length cr) hst.rn.res).five
   refine bodyPost_ret (v := .tuple #[.agg #[.int .i64 O, .int .i64 E, .int .i64 M, .slice aq ps'.length cq, .slice ar cs'.length cr], .slice aa av.length ca]) (by simp [results, Tryz.results13, go_sem, z0, z1, z2, z3, z4]) rfl ?_
   rw [HLR.out, HLA.out]
   exact hst.back

end Go.Proofs.YtedadhoneebfnaaGreatDoor
