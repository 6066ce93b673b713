/- Joined texts: Df, Dg, Ru, Rx, Eh. -/
import Derived.Test.YtedadhoneebfnaaGreatDoorJ12
import Derived.Deep.QuietTactic
import Derived.BigQuiet
import Derived.Test.YtedadhoneebfnaaGreatDoorJ5
import Derived.Test.YtedadhoneebfnaaGreatDoorJ8
set_option linter.unusedSimpArgs false
set_option linter.unusedVariables false
/- Contract of doNumber (program). -/
namespace Go.Proofs.YtedadhoneebfnaaGreatDoor
open Go.RowKit

theorem strs_set8 (ps : List ByteArray) (j : Nat) (s : ByteArray) : (strs ps).set j (.string s) = strs (ps.set j s) := by simp [strs, List.map_set]
section
variable {w W W' : World} {O E M : Int} {vp vc : Value} {k l : Int} {s : ByteArray} {nb : Nat} {vq vr : Value} {ps : List ByteArray} {cs : List Cl}
theorem DoSt.drewN (q : Nat) (h : DoSt w W O E M vp vc k l s nb vq vr ps cs) : DoSt w (W.drewN q) O E M vp vc k l s nb vq vr ps cs :=
 ⟨below_drewN h.bel _, h.box.drewN _, h.dee.drewN _, h.res.drewN _, h.nxt.drewN _, h.own.drewN q, h.ap1, h.ap2, h.big⟩
/-- A number is another one. -/
theorem DoSt.number {g cap n : Nat} (h : DoSt w W O E M vp vc k l s nb (.slice (some ⟨g, 0, none⟩) n cap) vr ps cs) (hn : n = ps.length) (t : ByteArray) (j : Nat) : DoSt w (W.setCell ⟨g, j, none⟩ (.string t)) O E M vp vc k l s nb (.slice (some ⟨g, 0, none⟩) n cap) vr (ps.set j t) cs := by
 subst hn
 have hg : W.grownBy (W.setCell ⟨g, j, none⟩ (.string t)) (some g) := gb_set (World.grownBy.refl _ _)
 obtain ⟨ho, hgb⟩ := Own.of h.own.plan
 have hgn : g ≠ nb := by
  rcases h.ap1 with e | e
  ·
   cases e
  ·
   exact fun e2 => e (by rw [e2]; rfl)
 have hcv : vr.ownBlock = none ∨ vr.ownBlock ≠ some g := by
  rcases h.own.apart with e | e
  ·
   cases e
  ·
   exact .inr (fun e2 => e e2.symm)
 refine ⟨h.bel.setCell (by show _ ≤ g; omega) _, h.box.other (by show _ ≠ g; omega), h.dee.other (by show _ ≠ g; omega), h.res.other (by show _ ≠ g; omega), h.nxt.other (fun e => hgn e.symm), ⟨?_, h.own.calls.kept hg hcv, h.own.apart⟩, h.ap1, h.ap2, h.big⟩
 rw [List.length_set]
 exact (ho.set (strs_set8 ps j t)).back hgb
end

set_option maxRecDepth 100000 in
set_option maxHeartbeats 8000000 in
theorem doNumber_any (O E M : Int) (vp vc : Value) (ps : List ByteArray) (cs : List Cl) (k : Int) (l : Nat) (s : ByteArray) (w : World) (hok : ExOk O E M ps cs) (hR : ExRd w vp vc ps cs) (hn : SomeV vp ps.length) (hL : StLen ps) (hl : l < ps.length) (hs : s.size ≤ maxLen) :
  Calls Tryz.prog 109 #[.agg #[.int .i64 O, .int .i64 E, .int .i64 M, vp, vc], .agg #[.int .i64 k, .int .i64 l, .string s]] w
   (doQ O E M ps cs (doL E M ps cs 2 l s) w) := by
 have HOK := Lib.hid hok
 have hcn := hok.calls.count (lines_le hok.calls.sh)
 have hpn := hok.lines.2
 have HPN := Lib.hid hpn
 have HR := Lib.hid hR
 have HNN := Lib.hid hn
 have HL := Lib.hid hL
 have HLS : Hid (StLen (ps.set l s)) := hL.set l hs
 obtain ⟨t, ht⟩ : ∃ t, ps[l]? = some t := ⟨_, List.getElem?_eq_getElem hl⟩
 have HD : Hid (doL E M ps cs 2 l s = if t = s ∨ planB (ps.set l s) = false then none else some (ps.set l s, cs)) := by
  unfold Hid doL
  rw [if_neg (by omega), if_neg (by omega), if_neg (by omega), if_pos rfl, Int.toNat_natCast, ht]
  simp only [Option.some.injEq]
 obtain ⟨_, _, a1, c1, rfl, hn1, hc1⟩ := hR.plan
 obtain ⟨_, _, a2, c2, rfl, hn2, hc2⟩ := hR.calls
 rcases hc1 with hc1 | ⟨b, off, rfl, hb, hc1⟩
 ·
  omega
 have q1 := hc1 l (by omega)
 rw [strs_at ps l t ht] at q1
 have HT := Lib.hid ht
 have hbel0 : Below w.heap.size w (((w.alloc (.cells #[.int .i64 O, .int .i64 E, .int .i64 M, .slice (some ⟨b, off, none⟩) ps.length c1, .slice a2 cs.length c2] 33)).alloc (.cells #[.int .i64 k, .int .i64 l, .string s] 55)).alloc (.cells #[.int .i64 0, .int .i64 0, .int .i64 0, .slice none 0 0, .slice none 0 0] 33)) := by (exact grownA)
 have i1 : (0 : Int) ≤ (l : Int) := by omega
 have i2 : (l : Int) < (ps.length : Int) := by omega
 clear hok hR hn hL hc1 hc2 ht
 go_enter Tryz.func109, Tryz.ntmps109
 go_wp2_with fail
 refine (copyExchange_any O E M _ _ ps cs _ (HR.out.below hbel0) HNN.out (by have := HPN.out; omega) (by omega)).mono ?_
 rintro e w2 ⟨vq, vr, rfl, ho2, hb2⟩
 have hst := DoSt.start hb2 ho2
 obtain ⟨gq, cq, rfl, hgq, hoq⟩ : ∃ g c, vq = .slice (some ⟨g, 0, none⟩) ps.length c ∧ w.heap.size + 3 ≤ g ∧ Own w2 g ps.length c 9 1 (strs ps) := by
  rcases ho2.plan.2 with ⟨_, h⟩ | ⟨g, cap, cur, rfl, hb, r⟩
  ·
   omega
  ·
   exact ⟨g, cap, rfl, by simpa using hb, (Own.of ho2.plan).1⟩
 obtain ⟨ar, cr, rfl⟩ := own_len9 ho2.calls
 have hs1 := hst.number rfl s l
 have hoq2 := hoq.alloc (o := .cells #[.int .i64 O, .int .i64 E, .int .i64 M, .slice (some ⟨gq, 0, none⟩) ps.length cq, .slice ar cs.length cr] 33)
 have x1 := (hoq2.cell l (by omega)).trans (strs_at ps l t HT.out)
 have x2 := hoq2.free l
 have x3 := hoq2.lt
 have hqlt := hoq.lt
 rw [World.setCell_alloc_past (hn := hqlt)] at hs1
 clear hb2 ho2 hbel0 hoq hoq2
 obtain ⟨b0, b1, b2, b3, b4, -, -, -, -, -, blt⟩ := hst.box.five
 obtain ⟨d0, d1, d2, -, -, -, dlt⟩ := hst.dee.three
 obtain ⟨n0, n1, n2, n3, n4, g0, g1, g2, g3, g4, nlt⟩ := hst.nxt.five
 have hbs := hst.bel
 clear hst
 obtain ⟨B0, B1, B2, B3, B4, -, -, -, -, -, Blt⟩ := hs1.box.five
 obtain ⟨D0, D1, D2, -, -, -, Dlt⟩ := hs1.dee.three
 obtain ⟨R0, R1, R2, R3, R4, F0, F1, F2, F3, F4, Rlt⟩ := hs1.res.five
 obtain ⟨N0, N1, N2, N3, N4, G0, G1, G2, G3, G4, Nlt⟩ := hs1.nxt.five
 have hq1 := (hs1.bel.cell (p := ⟨b, off + l, none⟩) hb).trans q1
 by_cases hts : t = s
 ·
  have HN : Hid (doL E M ps cs 2 l s = none) := by unfold Hid; rw [HD.out, if_pos (.inl hts)]
  have hq := str_eq hts.symm
  have hqd : decide (s = t) = true := by simpa using hts.symm
  clear hts
  go_wp2_with fail
  go_quiet (fail)
  go_wp2_with fail
  refine (copyExchange_any O E M _ _ ps cs _ ((HR.out.below hs1.bel).drewN _) HNN.out (by have := HPN.out; omega) (by omega)).mono ?_
  rintro e w4 ⟨vq, vr, rfl, ho4, hb4⟩
  have hz4 := hs1.bel.size
  have hR4 := (hs1.res.drewN _).belowAll hb4
  obtain ⟨a4, c4, rfl⟩ := own_len9 ho4.plan
  obtain ⟨a5, c5, rfl⟩ := own_len9 ho4.calls
  obtain ⟨R0, R1, R2, R3, R4, F0, F1, F2, F3, F4, Rlt⟩ := hR4.five
  go_wp2
  obtain ⟨z0, z1, z2, z3, z4, -⟩ := (five_set (y0 := .int .i64 O) (y1 := .int .i64 E) (y2 := .int .i64 M) (y3 := .slice a4 ps.length c4) (y4 := .slice a5 cs.length c5) hR4).five
  refine bodyPost_ret (v := .tuple #[.agg #[.int .i64 O, .int .i64 E, .int .i64 M, .slice a4 ps.length c4, .slice a5 cs.length c5], .bool false]) (by simp [results, Tryz.results109, go_sem, z0, z1, z2, z3, z4]) rfl ?_
  have hlt4 : w.heap.size + 2 < (World.setCell w2 ⟨gq, l, none⟩ (.string s)).heap.size + 1 := by have := hs1.res.lt; simpa using this
  have hbq : Below w.heap.size w w4 := ((below_drewN hs1.bel _)).trans (Below.mono hb4 hz4)
  exact doQ_none HN.out ⟨_, _, rfl, (ho4.result _ _ _ _ _ (by have := hs1.res.lt; simp at this ⊢; omega)).lower (by have := hs1.res.lt; simp at this ⊢; omega), five_below _ _ _ _ _ hbq (by omega)⟩
 ·
  have hq := str_ne (fun e => hts e.symm : ¬ s = t)
  have hqd : decide (s = t) = false := by simpa using (fun e => hts e.symm : ¬ s = t)
  have HTS := Lib.hid hts
  clear hts
  obtain ⟨pb, hpb⟩ : ∃ b, planB (ps.set l s) = b := ⟨_, rfl⟩
  have HPB := Lib.hid hpb
  have kc := Lib.hid (fun n => (iPlanValid_any _ (ps.set l s) (World.drewN ((w2.setCell ⟨gq, l, none⟩ (.string s)).alloc (.cells #[.int .i64 O, .int .i64 E, .int .i64 M, .slice (some ⟨gq, 0, none⟩) ps.length cq, .slice ar cs.length cr] 33)) n) ((Rds.ofOwns hs1.own.plan).drewN n) HLS.out).mono (fun e w' h => (⟨by rw [h.1, HPB.out], h.2.symm⟩ : e = .returned (.bool pb) ∧ w' = World.drewN ((w2.setCell ⟨gq, l, none⟩ (.string s)).alloc (.cells #[.int .i64 O, .int .i64 E, .int .i64 M, .slice (some ⟨gq, 0, none⟩) ps.length cq, .slice ar cs.length cr] 33)) n)))
  clear hpb
  go_wp2_with fail
  go_quiet ((go_at_call 85; exact Calls.quiet_of_same (kc.out _)))
  clear kc
  cases pb
  ·
   have HN : Hid (doL E M ps cs 2 l s = none) := by unfold Hid; rw [HD.out, if_pos (.inr HPB.out)]
   go_wp2_with fail
   refine (copyExchange_any O E M _ _ ps cs _ ((HR.out.below hs1.bel).drewN _) HNN.out (by have := HPN.out; omega) (by omega)).mono ?_
   rintro e w4 ⟨vq, vr, rfl, ho4, hb4⟩
   have hz4 := hs1.bel.size
   have hR4 := (hs1.res.drewN _).belowAll hb4
   obtain ⟨a4, c4, rfl⟩ := own_len9 ho4.plan
   obtain ⟨a5, c5, rfl⟩ := own_len9 ho4.calls
   obtain ⟨R0, R1, R2, R3, R4, F0, F1, F2, F3, F4, Rlt⟩ := hR4.five
   go_wp2
   obtain ⟨z0, z1, z2, z3, z4, -⟩ := (five_set (y0 := .int .i64 O) (y1 := .int .i64 E) (y2 := .int .i64 M) (y3 := .slice a4 ps.length c4) (y4 := .slice a5 cs.length c5) hR4).five
   refine bodyPost_ret (v := .tuple #[.agg #[.int .i64 O, .int .i64 E, .int .i64 M, .slice a4 ps.length c4, .slice a5 cs.length c5], .bool false]) (by simp [results, Tryz.results109, go_sem, z0, z1, z2, z3, z4]) rfl ?_
   have hlt4 : w.heap.size + 2 < (World.setCell w2 ⟨gq, l, none⟩ (.string s)).heap.size + 1 := by have := hs1.res.lt; simpa using this
   have hbq : Below w.heap.size w w4 := ((below_drewN hs1.bel _)).trans (Below.mono hb4 hz4)
   exact doQ_none HN.out ⟨_, _, rfl, (ho4.result _ _ _ _ _ (by have := hs1.res.lt; simp at this ⊢; omega)).lower (by have := hs1.res.lt; simp at this ⊢; omega), five_below _ _ _ _ _ hbq (by omega)⟩
  ·
   have HN : Hid (doL E M ps cs 2 l s = some (ps.set l s, cs)) := by
    unfold Hid
    rw [HD.out, if_neg]
    rw [HPB.out]
    simp [HTS.out]
   go_wp2
   have hz := fun q => (five_set (y0 := .int .i64 O) (y1 := .int .i64 E) (y2 := .int .i64 M) (y3 := .slice (some ⟨gq, 0, none⟩) ps.length cq) (y4 := .slice ar cs.length cr) (hs1.drewN q).res).five
   have z0 := fun q => (hz q).1
   have z1 := fun q => (hz q).2.1
   have z2 := fun q => (hz q).2.2.1
   have z3 := fun q => (hz q).2.2.2.1
   have z4 := fun q => (hz q).2.2.2.2.1
   refine bodyPost_ret (v := .tuple #[.agg #[.int .i64 O, .int .i64 E, .int .i64 M, .slice (some ⟨gq, 0, none⟩) ps.length cq, .slice ar cs.length cr], .bool true]) (by simp [results, Tryz.results109, go_sem, z0, z1, z2, z3, z4]) rfl ?_
   exact doQ_some HN.out ((hs1.drewN _).back true)

end Go.Proofs.YtedadhoneebfnaaGreatDoor

/- Contract of ExDo (program). -/
namespace Go.Proofs.YtedadhoneebfnaaGreatDoor
open Go.RowKit

theorem doQ_inv {O E M : Int} {ps : List ByteArray} {cs : List Cl} {r : Option (List ByteArray × List Cl)} {w : World} {e : Ending} {w' : World} (h : doQ O E M ps cs r w e w') :
  ∃ vp vc ps' cs' b, e = .returned (.tuple #[.agg #[.int .i64 O, .int .i64 E, .int .i64 M, vp, vc], .bool b]) ∧ ExOwn w' w.heap.size vp vc ps' cs' ∧ Below w.heap.size w w' ∧ (∀ w0 e' w'', ExNewB O E M ps' cs' b w0 e' w'' → doQ O E M ps cs r w0 e' w'') := by
 cases r with
 | none =>
  obtain ⟨vp, vc, h1, h2, h3⟩ := h
  exact ⟨vp, vc, ps, cs, false, h1, h2, h3, fun _ _ _ h => h⟩
 | some y =>
  obtain ⟨vp, vc, h1, h2, h3⟩ := h
  exact ⟨vp, vc, y.1, y.2, true, h1, h2, h3, fun _ _ _ h => h⟩
/-- What ExDo leaves. -/
noncomputable def doXQ (O E M : Int) (ps : List ByteArray) (cs : List Cl) (k l : Int) (s : ByteArray) : World → Ending → World → Prop :=
 if exB O E M ps cs = true then doQ O E M ps cs (doL E M ps cs k l s) else ExNewB 0 0 0 [] [] false
theorem doXQ_no {O E M : Int} {ps : List ByteArray} {cs : List Cl} (h : exB O E M ps cs = false) {k l : Int} {s : ByteArray} {w : World} {e : Ending} {w' : World} (hh : ExNewB 0 0 0 [] [] false w e w') : doXQ O E M ps cs k l s w e w' := by
 unfold doXQ; rw [h]; exact hh
theorem doXQ_yes {O E M : Int} {ps : List ByteArray} {cs : List Cl} (h : exB O E M ps cs = true) {k l : Int} {s : ByteArray} {w : World} {e : Ending} {w' : World} (hh : doQ O E M ps cs (doL E M ps cs k l s) w e w') : doXQ O E M ps cs k l s w e w' := by
 unfold doXQ; rw [h]; exact hh
theorem agg_parts {w : World} {vp vc : Value} {ps : List ByteArray} {cs : List Cl} {base : Nat} (h : ExOwn w base vp vc ps cs) : ∃ a1 c1 a2 c2, vp = .slice a1 ps.length c1 ∧ vc = .slice a2 cs.length c2 := by
 obtain ⟨a1, c1, h1⟩ := own_len9 h.plan
 obtain ⟨a2, c2, h2⟩ := own_len9 h.calls
 exact ⟨a1, c1, a2, c2, h1, h2⟩

set_option maxRecDepth 100000 in
set_option maxHeartbeats 8000000 in
theorem iExDo_any (O E M : Int) (vp vc : Value) (ps : List ByteArray) (cs : List Cl) (k l : Int) (s : ByteArray) (w : World) (hR : ExRd w vp vc ps cs) (hn : SomeV vp ps.length) (hL : StLen ps) (hs : s.size ≤ maxLen) :
  Calls Tryz.prog 67 #[.agg #[.int .i64 O, .int .i64 E, .int .i64 M, vp, vc], .agg #[.int .i64 k, .int .i64 l, .string s]] w (doXQ O E M ps cs k l s w) := by
 have hB := ((Blk.new (w := w) (cs := #[.int .i64 O, .int .i64 E, .int .i64 M, vp, vc]) (T := 33) rfl).alloc (.cells #[.int .i64 k, .int .i64 l, .string s] 55)).alloc (.cells #[.int .i64 0, .int .i64 0, .int .i64 0, .slice none 0 0, .slice none 0 0] 33)
 have hD := (Blk.new (w := w.alloc (.cells #[.int .i64 O, .int .i64 E, .int .i64 M, vp, vc] 33)) (cs := #[.int .i64 k, .int .i64 l, .string s]) (T := 55) (b := w.heap.size + 1) (by simp)).alloc (.cells #[.int .i64 0, .int .i64 0, .int .i64 0, .slice none 0 0, .slice none 0 0] 33)
 have hZ := Blk.new (w := (w.alloc (.cells #[.int .i64 O, .int .i64 E, .int .i64 M, vp, vc] 33)).alloc (.cells #[.int .i64 k, .int .i64 l, .string s] 55)) (cs := #[.int .i64 0, .int .i64 0, .int .i64 0, .slice none 0 0, .slice none 0 0]) (T := 33) (b := w.heap.size + 2) (by simp)
 have hbel0 : Below w.heap.size w (((w.alloc (.cells #[.int .i64 O, .int .i64 E, .int .i64 M, vp, vc] 33)).alloc (.cells #[.int .i64 k, .int .i64 l, .string s] 55)).alloc (.cells #[.int .i64 0, .int .i64 0, .int .i64 0, .slice none 0 0, .slice none 0 0] 33)) := by (exact grownA)
 have HR := Lib.hid hR
 have HNN := Lib.hid hn
 have HL := Lib.hid hL
 have HS := Lib.hid hs
 obtain ⟨hp1, hp2, a1, c1, rfl, _⟩ := hR.plan
 obtain ⟨_, _, a2, c2, rfl, _⟩ := hR.calls
 unfold maxLen at hp2
 obtain ⟨b0, b1, b2, b3, b4, -, -, -, -, -, blt⟩ := hB.five
 obtain ⟨d0, d1, d2, -, -, -, dlt⟩ := hD.three
 clear hR hn hL hs hp1
 go_enter Tryz.func67, Tryz.ntmps67
 go_wp2_with fail
 refine (iExchangeValid_any O E M _ _ ps cs _ (HR.out.below hbel0) HL.out).mono ?_
 rintro e w1 ⟨rfl, hb1⟩
 have hbel1 : Below w.heap.size w w1 := by (exact grownA)
 have hB1 := hB.belowAll hb1
 have hD1 := hD.belowAll hb1
 have hZ1 := hZ.belowAll hb1
 clear hB hD hZ hb1 hbel0 b0 b1 b2 b3 b4 blt d0 d1 d2 dlt
 obtain ⟨b0, b1, b2, b3, b4, -, -, -, -, -, blt⟩ := hB1.five
 obtain ⟨d0, d1, d2, -, -, -, dlt⟩ := hD1.three
 obtain ⟨r0, r1, r2, r3, r4, f0, f1, f2, f3, f4, rlt⟩ := hZ1.five
 obtain ⟨d, hd⟩ : ∃ d, exB O E M ps cs = d := ⟨_, rfl⟩
 have HD := Lib.hid hd
 rw [hd]
 clear hd
 cases d
 ·
  go_wp2
  obtain ⟨z0, z1, z2, z3, z4, -⟩ := (five_set (y0 := .int .i64 0) (y1 := .int .i64 0) (y2 := .int .i64 0) (y3 := .slice none 0 0) (y4 := .slice none 0 0) hZ1).five
  refine bodyPost_ret (v := .tuple #[.agg #[.int .i64 0, .int .i64 0, .int .i64 0, .slice none 0 0, .slice none 0 0], .bool false]) (by simp [results, Tryz.results67, go_sem, z0, z1, z2, z3, z4, r0, r1, r2, r3, r4]) rfl ?_
  exact doXQ_no HD.out ⟨_, _, rfl, ExOwn.nothing _ _, five_below _ _ _ _ _ hbel1 (by omega)⟩
 have HOK := Lib.hid ((exB_iff _ _ _ _ _).1 HD.out)
 have hcn := HOK.out.calls.count (lines_le HOK.out.calls.sh)
 have hpn := HOK.out.lines.2
 by_cases hl0 : l < 0
 ·
  have HN : Hid (doL E M ps cs k l s = none) := by unfold Hid doL; rw [if_pos (.inl hl0)]
  go_wp2_with fail
  refine (copyExchange_any O E M _ _ ps cs _ (HR.out.below hbel1) HNN.out (by omega) (by omega)).mono ?_
  rintro e w4 ⟨vq, vr, rfl, ho4, hb4⟩
  have hZ4 := hZ1.belowAll hb4
  have hbel4 : Below w.heap.size w w4 := hbel1.trans (Below.mono hb4 hbel1.size)
  obtain ⟨aq, cq, ar, cr, rfl, rfl⟩ := agg_parts ho4
  clear hb4 r0 r1 r2 r3 r4 f0 f1 f2 f3 f4 b0 b1 b2 b3 b4 blt d0 d1 d2 dlt
  obtain ⟨r0, r1, r2, r3, r4, f0, f1, f2, f3, f4, rlt4⟩ := hZ4.five
  have HO4 := Lib.hid ho4
  clear ho4
  go_wp2
  obtain ⟨z0, z1, z2, z3, z4, -⟩ := (five_set (y0 := .int .i64 O) (y1 := .int .i64 E) (y2 := .int .i64 M) (y3 := .slice aq ps.length cq) (y4 := .slice ar cs.length cr) hZ4).five
  refine bodyPost_ret (v := .tuple #[.agg #[.int .i64 O, .int .i64 E, .int .i64 M, .slice aq ps.length cq, .slice ar cs.length cr], .bool false]) (by simp [results, Tryz.results67, go_sem, z0, z1, z2, z3, z4]) rfl ?_
  exact doXQ_yes HD.out (doQ_none HN.out ⟨_, _, rfl, (HO4.out.result _ _ _ _ _ rlt).lower (by omega), five_below _ _ _ _ _ hbel4 (by omega)⟩)
 by_cases hl1 : (ps.length : Int) ≤ l
 ·
  have HN : Hid (doL E M ps cs k l s = none) := by unfold Hid doL; rw [if_pos (.inr hl1)]
  go_wp2_with fail
  refine (copyExchange_any O E M _ _ ps cs _ (HR.out.below hbel1) HNN.out (by omega) (by omega)).mono ?_
  rintro e w4 ⟨vq, vr, rfl, ho4, hb4⟩
  have hZ4 := hZ1.belowAll hb4
  have hbel4 : Below w.heap.size w w4 := hbel1.trans (Below.mono hb4 hbel1.size)
  obtain ⟨aq, cq, ar, cr, rfl, rfl⟩ := agg_parts ho4
  clear hb4 r0 r1 r2 r3 r4 f0 f1 f2 f3 f4 b0 b1 b2 b3 b4 blt d0 d1 d2 dlt
  obtain ⟨r0, r1, r2, r3, r4, f0, f1, f2, f3, f4, rlt4⟩ := hZ4.five
  have HO4 := Lib.hid ho4
  clear ho4
  go_wp2
  obtain ⟨z0, z1, z2, z3, z4, -⟩ := (five_set (y0 := .int .i64 O) (y1 := .int .i64 E) (y2 := .int .i64 M) (y3 := .slice aq ps.length cq) (y4 := .slice ar cs.length cr) hZ4).five
  refine bodyPost_ret (v := .tuple #[.agg #[.int .i64 O, .int .i64 E, .int .i64 M, .slice aq ps.length cq, .slice ar cs.length cr], .bool false]) (by simp [results, Tryz.results67, go_sem, z0, z1, z2, z3, z4]) rfl ?_
  exact doXQ_yes HD.out (doQ_none HN.out ⟨_, _, rfl, (HO4.out.result _ _ _ _ _ rlt).lower (by omega), five_below _ _ _ _ _ hbel4 (by omega)⟩)
 by_cases hk0 : k = 0
 ·
  subst hk0
  go_wp2_with fail
  refine (doCall_any O E M _ _ ps cs 0 l s _ HOK.out (HR.out.below hbel1) HNN.out HL.out ⟨by omega, by omega⟩).mono ?_
  intro e w4 h4
  obtain ⟨vq, vr, ps', cs', b, rfl, ho4, hb4, hmk⟩ := doQ_inv h4
  clear h4
  have HMK := Lib.hid hmk
  clear hmk
  have hZ4 := hZ1.belowAll hb4
  have hbel4 : Below w.heap.size w w4 := hbel1.trans (Below.mono hb4 hbel1.size)
  obtain ⟨aq, cq, ar, cr, rfl, rfl⟩ := agg_parts ho4
  clear hb4 r0 r1 r2 r3 r4 f0 f1 f2 f3 f4 b0 b1 b2 b3 b4 blt d0 d1 d2 dlt
  obtain ⟨r0, r1, r2, r3, r4, f0, f1, f2, f3, f4, rlt4⟩ := hZ4.five
  have HO4 := Lib.hid ho4
  clear ho4
  go_wp2
  obtain ⟨z0, z1, z2, z3, z4, -⟩ := (five_set (y0 := .int .i64 O) (y1 := .int .i64 E) (y2 := .int .i64 M) (y3 := .slice aq ps'.length cq) (y4 := .slice ar cs'.length cr) hZ4).five
  refine bodyPost_ret (v := .tuple #[.agg #[.int .i64 O, .int .i64 E, .int .i64 M, .slice aq ps'.length cq, .slice ar cs'.length cr], .bool b]) (by simp [results, Tryz.results67, go_sem, z0, z1, z2, z3, z4]) rfl ?_
  exact doXQ_yes HD.out (HMK.out _ _ _ ⟨_, _, rfl, (HO4.out.result _ _ _ _ _ rlt).lower (by omega), five_below _ _ _ _ _ hbel4 (by omega)⟩)
 have hq0 : ((k : Int) == 0) = false := by simpa using hk0
 by_cases hk1 : k = 1
 ·
  subst hk1
  go_wp2_with fail
  refine (doDrop_any O E M _ _ ps cs 1 l s _ HOK.out (HR.out.below hbel1) HNN.out HL.out ⟨by omega, by omega⟩).mono ?_
  intro e w4 h4
  obtain ⟨vq, vr, ps', cs', b, rfl, ho4, hb4, hmk⟩ := doQ_inv h4
  clear h4
  have HMK := Lib.hid hmk
  clear hmk
  have hZ4 := hZ1.belowAll hb4
  have hbel4 : Below w.heap.size w w4 := hbel1.trans (Below.mono hb4 hbel1.size)
  obtain ⟨aq, cq, ar, cr, rfl, rfl⟩ := agg_parts ho4
  clear hb4 r0 r1 r2 r3 r4 f0 f1 f2 f3 f4 b0 b1 b2 b3 b4 blt d0 d1 d2 dlt
  obtain ⟨r0, r1, r2, r3, r4, f0, f1, f2, f3, f4, rlt4⟩ := hZ4.five
  have HO4 := Lib.hid ho4
  clear ho4
  go_wp2
  obtain ⟨z0, z1, z2, z3, z4, -⟩ := (five_set (y0 := .int .i64 O) (y1 := .int .i64 E) (y2 := .int .i64 M) (y3 := .slice aq ps'.length cq) (y4 := .slice ar cs'.length cr) hZ4).five
  refine bodyPost_ret (v := .tuple #[.agg #[.int .i64 O, .int .i64 E, .int .i64 M, .slice aq ps'.length cq, .slice ar cs'.length cr], .bool b]) (by simp [results, Tryz.results67, go_sem, z0, z1, z2, z3, z4]) rfl ?_
  exact doXQ_yes HD.out (HMK.out _ _ _ ⟨_, _, rfl, (HO4.out.result _ _ _ _ _ rlt).lower (by omega), five_below _ _ _ _ _ hbel4 (by omega)⟩)
 have hq1 : ((k : Int) == 1) = false := by simpa using hk1
 by_cases hk2 : k = 2
 ·
  subst hk2
  obtain ⟨ln, rfl⟩ := Int.eq_ofNat_of_zero_le (show 0 ≤ l by omega)
  go_wp2_with fail
  refine (doNumber_any O E M _ _ ps cs 2 ln s _ HOK.out (HR.out.below hbel1) HNN.out HL.out (by omega) HS.out).mono ?_
  intro e w4 h4
  obtain ⟨vq, vr, ps', cs', b, rfl, ho4, hb4, hmk⟩ := doQ_inv h4
  clear h4
  have HMK := Lib.hid hmk
  clear hmk
  have hZ4 := hZ1.belowAll hb4
  have hbel4 : Below w.heap.size w w4 := hbel1.trans (Below.mono hb4 hbel1.size)
  obtain ⟨aq, cq, ar, cr, rfl, rfl⟩ := agg_parts ho4
  clear hb4 r0 r1 r2 r3 r4 f0 f1 f2 f3 f4 b0 b1 b2 b3 b4 blt d0 d1 d2 dlt
  obtain ⟨r0, r1, r2, r3, r4, f0, f1, f2, f3, f4, rlt4⟩ := hZ4.five
  have HO4 := Lib.hid ho4
  clear ho4
  go_wp2
  obtain ⟨z0, z1, z2, z3, z4, -⟩ := (five_set (y0 := .int .i64 O) (y1 := .int .i64 E) (y2 := .int .i64 M) (y3 := .slice aq ps'.length cq) (y4 := .slice ar cs'.length cr) hZ4).five
  refine bodyPost_ret (v := .tuple #[.agg #[.int .i64 O, .int .i64 E, .int .i64 M, .slice aq ps'.length cq, .slice ar cs'.length cr], .bool b]) (by simp [results, Tryz.results67, go_sem, z0, z1, z2, z3, z4]) rfl ?_
  exact doXQ_yes HD.out (HMK.out _ _ _ ⟨_, _, rfl, (HO4.out.result _ _ _ _ _ rlt).lower (by omega), five_below _ _ _ _ _ hbel4 (by omega)⟩)
 have hq2 : ((k : Int) == 2) = false := by simpa using hk2
 have HN : Hid (doL E M ps cs k l s = none) := by unfold Hid doL; rw [if_neg (by omega), if_neg hk0, if_neg hk1, if_neg hk2]
 clear hk0 hk1 hk2
 go_wp2_with fail
 refine (copyExchange_any O E M _ _ ps cs _ (HR.out.below hbel1) HNN.out (by omega) (by omega)).mono ?_
 rintro e w4 ⟨vq, vr, rfl, ho4, hb4⟩
 have hZ4 := hZ1.belowAll hb4
 have hbel4 : Below w.heap.size w w4 := hbel1.trans (Below.mono hb4 hbel1.size)
 obtain ⟨aq, cq, ar, cr, rfl, rfl⟩ := agg_parts ho4
 clear hb4 r0 r1 r2 r3 r4 f0 f1 f2 f3 f4 b0 b1 b2 b3 b4 blt d0 d1 d2 dlt
 obtain ⟨r0, r1, r2, r3, r4, f0, f1, f2, f3, f4, rlt4⟩ := hZ4.five
 have HO4 := Lib.hid ho4
 clear ho4
 go_wp2
 obtain ⟨z0, z1, z2, z3, z4, -⟩ := (five_set (y0 := .int .i64 O) (y1 := .int .i64 E) (y2 := .int .i64 M) (y3 := .slice aq ps.length cq) (y4 := .slice ar cs.length cr) hZ4).five
 refine bodyPost_ret (v := .tuple #[.agg #[.int .i64 O, .int .i64 E, .int .i64 M, .slice aq ps.length cq, .slice ar cs.length cr], .bool false]) (by simp [results, Tryz.results67, go_sem, z0, z1, z2, z3, z4]) rfl ?_
 exact doXQ_yes HD.out (doQ_none HN.out ⟨_, _, rfl, (HO4.out.result _ _ _ _ _ rlt).lower (by omega), five_below _ _ _ _ _ hbel4 (by omega)⟩)

end Go.Proofs.YtedadhoneebfnaaGreatDoor

/- Where the running of deeds stands (both programs). -/
namespace Go.Proofs.YtedadhoneebfnaaGreatDoor
open Go.RowKit

/-- One deed more: what ExDo leaves, as the plain step. -/
def StepQ (O E M : Int) (ps : List ByteArray) (cs : List Cl) (n : Nat) (d : Dd) (w : World) (e : Ending) (w' : World) : Prop :=
 ∃ vp vc b ps' cs' n', e = .returned (.tuple #[.agg #[.int .i64 O, .int .i64 E, .int .i64 M, vp, vc], .bool b]) ∧ stepL E M ((ps, cs), n) d = ((ps', cs'), n') ∧ ExOwn w' w.heap.size vp vc ps' cs' ∧ Below w.heap.size w w' ∧ (b = true ∧ n' = n + 1 ∨ b = false ∧ n' = n ∧ ps' = ps ∧ cs' = cs)
theorem doXQ_step {O E M : Int} {ps : List ByteArray} {cs : List Cl} (n : Nat) {d : Dd} {w : World} {e : Ending} {w' : World} (h : ExOk O E M ps cs) (hq : doXQ O E M ps cs d.1 d.2.1 d.2.2 w e w') : StepQ O E M ps cs n d w e w' := by
 unfold doXQ at hq
 rw [if_pos ((exB_iff _ _ _ _ _).2 h)] at hq
 unfold StepQ stepL
 simp only
 cases hr : doL E M ps cs d.1 d.2.1 d.2.2 with
 | none =>
  rw [hr] at hq
  obtain ⟨vp, vc, h1, h2, h3⟩ := hq
  exact ⟨vp, vc, false, ps, cs, n, h1, rfl, h2, h3, .inr ⟨rfl, rfl, rfl, rfl⟩⟩
 | some y =>
  rw [hr] at hq
  obtain ⟨vp, vc, h1, h2, h3⟩ := hq
  exact ⟨vp, vc, true, y.1, y.2, n + 1, h1, rfl, h2, h3, .inl ⟨rfl, rfl⟩⟩
theorem step_ok2 {O E M : Int} {ps ps' : List ByteArray} {cs cs' : List Cl} {n n' : Nat} {d : Dd} (h : ExOk O E M ps cs) (hs : stepL E M ((ps, cs), n) d = ((ps', cs'), n')) : ExOk O E M ps' cs' := by
 have := step_ok (x := ((ps, cs), n)) (d := d) h
 rw [hs] at this
 exact this
theorem ExOk.lens {O E M : Int} {ps : List ByteArray} {cs : List Cl} (h : ExOk O E M ps cs) : StLen ps := by
 intro k s hs
 have := h.plan.at k s hs
 have := numB_size this
 unfold maxLen
 omega


/-- Where the running stands: the result's block, and the exchange as it is now. -/
structure RnSt (w W : World) (O E M : Int) (nb : Nat) (vq vr : Value) (ps : List ByteArray) (cs : List Cl) : Prop where
 bel : Below w.heap.size w W
 res : Blk W (w.heap.size + 1) #[.int .i64 0, .int .i64 0, .int .i64 0, .slice none 0 0, .slice none 0 0] 33
 nxt : Blk W nb #[.int .i64 O, .int .i64 E, .int .i64 M, vq, vr] 33
 own : ExOwn W (w.heap.size + 2) vq vr ps cs
 ap1 : vq.ownBlock = none ∨ vq.ownBlock ≠ some nb
 ap2 : vr.ownBlock = none ∨ vr.ownBlock ≠ some nb
 big : w.heap.size + 2 ≤ nb
section
variable {w W W' : World} {O E M : Int} {nb : Nat} {vq vr vp' vc' : Value} {ps ps' : List ByteArray} {cs cs' : List Cl}
theorem RnSt.belowAll (h : RnSt w W O E M nb vq vr ps cs) (hb : Below W.heap.size W W') : RnSt w W' O E M nb vq vr ps cs :=
 ⟨h.bel.trans (Below.mono hb h.bel.size), h.res.belowAll hb, h.nxt.belowAll hb, h.own.below hb, h.ap1, h.ap2, h.big⟩
theorem RnSt.alloc (h : RnSt w W O E M nb vq vr ps cs) (o : Obj) : RnSt w (W.alloc o) O E M nb vq vr ps cs :=
 h.belowAll ((Below.refl _ _).alloc (Nat.le_refl _) _)
theorem RnSt.drew (h : RnSt w W O E M nb vq vr ps cs) : RnSt w W.drew O E M nb vq vr ps cs :=
 ⟨h.bel.drew, h.res.drew, h.nxt.drew, h.own.drewN 1, h.ap1, h.ap2, h.big⟩
theorem RnSt.drewN (n : Nat) (h : RnSt w W O E M nb vq vr ps cs) : RnSt w (W.drewN n) O E M nb vq vr ps cs :=
 ⟨below_drewN h.bel _, h.res.drewN _, h.nxt.drewN _, h.own.drewN n, h.ap1, h.ap2, h.big⟩
theorem own_new8 {w : World} {base n : Nat} {E : TypeId} {size : Nat} {v : Value} {xs : List Value} (h : w.ownsRow base E size v n xs) : v.ownBlock = none ∨ v.ownBlock ≠ some w.heap.size := by
 cases hv : v.ownBlock with
 | none => exact .inl rfl
 | some k => exact .inr (fun e => by have := own_lt h k hv; cases e; omega)
theorem far_of {w : World} {base n nb : Nat} {E : TypeId} {size : Nat} {v : Value} {xs : List Value} (h : w.ownsRow base E size v n xs) (hb : nb < base) : v.ownBlock = none ∨ v.ownBlock ≠ some nb := by
 cases hv : v.ownBlock with
 | none => exact .inl rfl
 | some k => exact .inr (fun e => by have := own_ge h k hv; cases e; omega)
/-- Another exchange, made anew, comes in its place. -/
theorem RnSt.next {B : Nat} (h : RnSt w W O E M nb vq vr ps cs) (ho : ExOwn W B vp' vc' ps' cs') (hB : nb < B) :
  RnSt w (((((W.setCell ⟨nb, 0, none⟩ (.int .i64 O)).setCell ⟨nb, 1, none⟩ (.int .i64 E)).setCell ⟨nb, 2, none⟩ (.int .i64 M)).setCell ⟨nb, 3, none⟩ vp').setCell ⟨nb, 4, none⟩ vc') O E M nb vp' vc' ps' cs' := by
 have hbg := h.big
 exact ⟨five_below _ _ _ _ _ h.bel (by omega), (((((h.res.other (by show _ ≠ nb; omega)).other (by show _ ≠ nb; omega)).other (by show _ ≠ nb; omega)).other (by show _ ≠ nb; omega)).other (by show _ ≠ nb; omega)), five_set h.nxt, (ho.result _ _ _ _ _ hB).lower (by omega), far_of ho.plan hB, far_of ho.calls hB, hbg⟩
/-- Handed back. -/
theorem RnSt.back (h : RnSt w W O E M nb vq vr ps cs) (n : Int) : ∃ vp vc, (Ending.returned (.tuple #[.agg #[.int .i64 O, .int .i64 E, .int .i64 M, vq, vr], .int .i64 n])) = .returned (.tuple #[.agg #[.int .i64 O, .int .i64 E, .int .i64 M, vp, vc], .int .i64 n]) ∧ ExOwn (((((W.setCell ⟨w.heap.size + 1, 0, none⟩ (.int .i64 O)).setCell ⟨w.heap.size + 1, 1, none⟩ (.int .i64 E)).setCell ⟨w.heap.size + 1, 2, none⟩ (.int .i64 M)).setCell ⟨w.heap.size + 1, 3, none⟩ vq).setCell ⟨w.heap.size + 1, 4, none⟩ vr) w.heap.size vp vc ps cs ∧ Below w.heap.size w (((((W.setCell ⟨w.heap.size + 1, 0, none⟩ (.int .i64 O)).setCell ⟨w.heap.size + 1, 1, none⟩ (.int .i64 E)).setCell ⟨w.heap.size + 1, 2, none⟩ (.int .i64 M)).setCell ⟨w.heap.size + 1, 3, none⟩ vq).setCell ⟨w.heap.size + 1, 4, none⟩ vr) :=
 ⟨_, _, rfl, (h.own.result _ _ _ _ _ (by omega)).lower (by omega), five_below _ _ _ _ _ h.bel (by omega)⟩
end
/-- What ExRun leaves. -/
noncomputable def runX (O E M : Int) (ps : List ByteArray) (cs : List Cl) (ds : List Dd) : (Int × Int × Int) × (List ByteArray × List Cl) × Nat := if exB O E M ps cs = true then ((O, E, M), runL E M ps cs ds) else ((0, 0, 0), ([], []), 0)
def RunPost (r : (Int × Int × Int) × (List ByteArray × List Cl) × Nat) (w : World) (e : Ending) (w' : World) : Prop :=
 ∃ vp vc, e = .returned (.tuple #[.agg #[.int .i64 r.1.1, .int .i64 r.1.2.1, .int .i64 r.1.2.2, vp, vc], .int .i64 r.2.2]) ∧ ExOwn w' w.heap.size vp vc r.2.1.1 r.2.1.2 ∧ Below w.heap.size w w'
theorem runX_no {O E M : Int} {ps : List ByteArray} {cs : List Cl} {ds : List Dd} (h : exB O E M ps cs = false) : runX O E M ps cs ds = ((0, 0, 0), ([], []), 0) := by unfold runX; rw [h]; rfl
theorem runX_yes {O E M : Int} {ps : List ByteArray} {cs : List Cl} {ds : List Dd} (h : exB O E M ps cs = true) : runX O E M ps cs ds = ((O, E, M), runL E M ps cs ds) := by unfold runX; rw [h]; rfl

end Go.Proofs.YtedadhoneebfnaaGreatDoor

/- Contract of ExRun (program). -/
namespace Go.Proofs.YtedadhoneebfnaaGreatDoor
open Go.RowKit

set_option maxRecDepth 100000 in
set_option maxHeartbeats 8000000 in
theorem iExRun_any (O E M : Int) (vp vc vd : Value) (ps : List ByteArray) (cs : List Cl) (ds : List Dd) (w : World) (hR : ExRd w vp vc ps cs) (hn : SomeV vp ps.length) (hL : StLen ps) (hD : Rds w vd ds.length 3 (dcells ds)) (hDL : DdLen ds) :
  Calls Tryz.prog 28 #[.agg #[.int .i64 O, .int .i64 E, .int .i64 M, vp, vc], vd] w (RunPost (runX O E M ps cs ds) w) := by
 have hB := (Blk.new (w := w) (cs := #[.int .i64 O, .int .i64 E, .int .i64 M, vp, vc]) (T := 33) rfl).alloc (.cells #[.int .i64 0, .int .i64 0, .int .i64 0, .slice none 0 0, .slice none 0 0] 33)
 have hZ := Blk.new (w := w.alloc (.cells #[.int .i64 O, .int .i64 E, .int .i64 M, vp, vc] 33)) (cs := #[.int .i64 0, .int .i64 0, .int .i64 0, .slice none 0 0, .slice none 0 0]) (T := 33) (b := w.heap.size + 1) (by simp)
 have hbel0 : Below w.heap.size w ((w.alloc (.cells #[.int .i64 O, .int .i64 E, .int .i64 M, vp, vc] 33)).alloc (.cells #[.int .i64 0, .int .i64 0, .int .i64 0, .slice none 0 0, .slice none 0 0] 33)) := by (exact grownA)
 have HR := Lib.hid hR
 have HNN := Lib.hid hn
 have HL := Lib.hid hL
 have HDL := Lib.hid hDL
 obtain ⟨_, _, a1, c1, rfl, _⟩ := hR.plan
 obtain ⟨_, _, a2, c2, rfl, _⟩ := hR.calls
 obtain ⟨_, hm, a3, c3, rfl, hn3, hc3⟩ := hD
 unfold maxLen at hm
 obtain ⟨m, hmm⟩ : ∃ m, ds.length = m := ⟨_, rfl⟩
 have HN := Lib.hid hmm
 rw [hmm] at hm hn3 hc3 ⊢
 have HC3 := Lib.hid hc3
 obtain ⟨b0, b1, b2, b3, b4, -, -, -, -, -, blt⟩ := hB.five
 clear hR hn hL hDL hc3 hmm
 go_enter Tryz.func28, Tryz.ntmps28
 go_wp2_with fail
 refine (iExchangeValid_any O E M _ _ ps cs _ (HR.out.below hbel0) HL.out).mono ?_
 rintro e w1 ⟨rfl, hb1⟩
 have hbel1 : Below w.heap.size w w1 := by (exact grownA)
 have hB1 := hB.belowAll hb1
 have hZ1 := hZ.belowAll hb1
 clear hB hZ hb1 hbel0 b0 b1 b2 b3 b4 blt
 obtain ⟨b0, b1, b2, b3, b4, -, -, -, -, -, blt⟩ := hB1.five
 obtain ⟨r0, r1, r2, r3, r4, f0, f1, f2, f3, f4, rlt⟩ := hZ1.five
 obtain ⟨d, hd⟩ : ∃ d, exB O E M ps cs = d := ⟨_, rfl⟩
 have HD := Lib.hid hd
 rw [hd]
 clear hd
 cases d
 ·
  go_wp2
  obtain ⟨z0, z1, z2, z3, z4, -⟩ := (five_set (y0 := .int .i64 0) (y1 := .int .i64 0) (y2 := .int .i64 0) (y3 := .slice none 0 0) (y4 := .slice none 0 0) hZ1).five
  refine bodyPost_ret (v := .tuple #[.agg #[.int .i64 0, .int .i64 0, .int .i64 0, .slice none 0 0, .slice none 0 0], .int .i64 0]) (by simp [results, Tryz.results28, go_sem, z0, z1, z2, z3, z4, r0, r1, r2, r3, r4]) rfl ?_
  rw [runX_no HD.out]
  exact ⟨_, _, rfl, ExOwn.nothing _ _, five_below _ _ _ _ _ hbel1 (by omega)⟩
 have HOK := Lib.hid ((exB_iff _ _ _ _ _).1 HD.out)
 have hcn := HOK.out.calls.count (lines_le HOK.out.calls.sh)
 have hpn := HOK.out.lines.2
 go_wp2_with fail
 refine (copyExchange_any O E M _ _ ps cs _ (HR.out.below hbel1) HNN.out (by omega) (by omega)).mono ?_
 rintro e w2 ⟨vq, vr, rfl, ho2, hb2⟩
 have hbel2 : Below w.heap.size w w2 := hbel1.trans (Below.mono hb2 hbel1.size)
 have hz2 : w.heap.size + 2 ≤ w2.heap.size := by have := hZ1.lt; have := hb2.size; omega
 have hz1 : w.heap.size + 2 ≤ w1.heap.size := hZ1.lt
 obtain ⟨aq, cq, ar, cr, rfl, rfl⟩ := agg_parts ho2
 have hst : RnSt w (w2.alloc (.cells #[.int .i64 O, .int .i64 E, .int .i64 M, .slice aq ps.length cq, .slice ar cs.length cr] 33)) O E M w2.heap.size (.slice aq ps.length cq) (.slice ar cs.length cr) ps cs :=
  ⟨hbel2.alloc hbel2.size _, (hZ1.belowAll hb2).alloc _, Blk.new rfl, (ho2.lower hz1).below (by (exact grownA)), own_new8 ho2.plan, own_new8 ho2.calls, hz2⟩
 clear hZ1 hB1 hb2 ho2 b0 b1 b2 b3 b4 blt r0 r1 r2 r3 r4 f0 f1 f2 f3 f4 rlt
 obtain ⟨nb, hnb⟩ : ∃ nb, w2.heap.size = nb := ⟨_, rfl⟩
 rw [hnb] at hst
 go_wp2_with fail
 try rw [hnb]
 clear hnb
 go_loopw [7, 20] (fun t i wr => ∃ (k n : Nat) (vq vr : Value) (ps' : List ByteArray) (cs' : List Cl), i = .int .i64 k ∧ t = .int .i64 n ∧ k ≤ m ∧ n ≤ k ∧ Hid (runL E M ps cs (ds.take k) = ((ps', cs'), n)) ∧ Hid (ExOk O E M ps' cs') ∧ RnSt w wr O E M nb vq vr ps' cs') (fun _ i _ => m - (intOf i).toNat)
 case atStart => exact ⟨0, 0, _, _, ps, cs, rfl, rfl, Nat.zero_le _, Nat.le_refl _, rfl, HOK.out, hst⟩
 case round =>
  clear hst hbel2 hbel1
  obtain ⟨k, n, vq, vr, ps', cs', rfl, rfl, hk, hnk, HRN, HOK2, hst⟩ := hrel
  obtain ⟨aq, cq, ar, cr, rfl, rfl⟩ := agg_parts hst.own
  obtain ⟨n0, n1, n2, n3, n4, g0, g1, g2, g3, g4, nlt⟩ := hst.nxt.five
  obtain ⟨r0, r1, r2, r3, r4, f0, f1, f2, f3, f4, rlt⟩ := hst.res.five
  have hbg := hst.big
  by_cases hkm : k < m
  ·
   rcases HC3.out with h | ⟨b, off, rfl, hbl, hc3⟩
   ·
    omega
   obtain ⟨x, hx⟩ : ∃ x, ds[k]? = some x := ⟨_, List.getElem?_eq_getElem (by rw [HN.out]; omega)⟩
   obtain ⟨q1, q2, q3⟩ := dcells_at ds k x hx
   have k1 : wr.cell? ⟨b, off + k * 3, none⟩ = some (.int .i64 x.1) := by rw [hst.bel.cell (p := ⟨b, off + k * 3, none⟩) hbl, hc3 _ (by omega), q1]
   have k2 : wr.cell? ⟨b, off + k * 3 + 1, none⟩ = some (.int .i64 x.2.1) := by rw [Nat.add_assoc, hst.bel.cell (p := ⟨b, off + (k * 3 + 1), none⟩) hbl, hc3 _ (by omega), q2]
   have k3 : wr.cell? ⟨b, off + k * 3 + 2, none⟩ = some (.string x.2.2) := by rw [Nat.add_assoc, hst.bel.cell (p := ⟨b, off + (k * 3 + 2), none⟩) hbl, hc3 _ (by omega), q3]
   have HXL := Lib.hid (HDL.out k x hx)
   have HSN : Hid (runL E M ps cs (ds.take (k + 1)) = stepL E M ((ps', cs'), n) x) := by unfold Hid; rw [run_snoc hx, HRN.out]
   clear hx q1 q2 q3 hc3
   obtain ⟨xk, xl, xs⟩ := x
   simp only at k1 k2 k3
   have hst1 := hst.alloc (.cells #[.int .i64 xk, .int .i64 xl, .string xs] 55)
   go_wp2_with fail
   refine (iExDo_any O E M _ _ ps' cs' xk xl xs _ hst1.own.rd (own_somev hst1.own.plan) HOK2.out.lens HXL.out).mono ?_
   intro e w4 h4
   obtain ⟨vp', vc', b', ps2, cs2, n2', rfl, hs4, ho4, hb4, hca⟩ := doXQ_step (d := (xk, xl, xs)) n HOK2.out h4
   have hst4 := hst1.belowAll hb4
   have HOK4 := Lib.hid (step_ok2 HOK2.out hs4)
   have HR4 : Hid (runL E M ps cs (ds.take (k + 1)) = ((ps2, cs2), n2')) := by unfold Hid; rw [HSN.out]; exact hs4
   have hnbB : nb < wr.heap.size + 1 := by omega
   have hst5 := (hst4.next ho4 (by simpa using hnbB))
   obtain ⟨a4, c4, a5, c5, rfl, rfl⟩ := agg_parts ho4
   clear h4 hs4 ho4 hb4 hst1 hst HSN HRN HOK2 k1 k2 k3 n0 n1 n2 n3 n4 g0 g1 g2 g3 g4 nlt r0 r1 r2 r3 r4 f0 f1 f2 f3 f4 rlt
   obtain ⟨n0, n1, n2, n3, n4, g0, g1, g2, g3, g4, nlt⟩ := hst4.nxt.five
   have hst6 := hst5.alloc (.cells #[.int .i64 O, .int .i64 E, .int .i64 M, .slice a4 ps2.length c4, .slice a5 cs2.length c5] 33)
   clear hst4 hst5
   rcases hca with ⟨rfl, rfl⟩ | ⟨rfl, rfl, rfl, rfl⟩
   all_goals
    go_wp2
    go_roundw
    case rel => exact ⟨k + 1, _, _, _, _, _, by go_num, by go_num, by omega, by omega, HR4, HOK4, hst6⟩
    case measure => simp [intOf]; omega
  ·
   obtain rfl : k = m := by omega
   go_wp2
   obtain ⟨z0, z1, z2, z3, z4, -⟩ := (five_set (y0 := .int .i64 O) (y1 := .int .i64 E) (y2 := .int .i64 M) (y3 := .slice aq ps'.length cq) (y4 := .slice ar cs'.length cr) hst.res).five
   refine bodyPost_ret (v := .tuple #[.agg #[.int .i64 O, .int .i64 E, .int .i64 M, .slice aq ps'.length cq, .slice ar cs'.length cr], .int .i64 n]) (by simp [results, Tryz.results28, go_sem, z0, z1, z2, z3, z4]) rfl ?_
   have hrr : runL E M ps cs ds = ((ps', cs'), n) := by have := HRN.out; rwa [List.take_of_length_le (by rw [HN.out]; omega)] at this
   rw [runX_yes HD.out, hrr]
   exact hst.back n

end Go.Proofs.YtedadhoneebfnaaGreatDoor

/- Contracts of the laws' helpers on exchanges. -/
namespace Go.Proofs.YtedadhoneebfnaaGreatDoor
open Go.RowKit

/-- What szExchange leaves. -/
def SzePost (ps : List ByteArray) (cs : List Cl) (w : World) (e : Ending) (w' : World) : Prop :=
 ∃ x : Int, e = .returned (.int .i64 x) ∧ -1 ≤ x ∧ x ≤ 1048576 ∧ (0 ≤ x → ps.length ≤ 1048576 ∧ cs.length ≤ 1048576) ∧ Below w.heap.size w w'
set_option maxHeartbeats 400000 in
theorem szExchange_any (O E M : Int) (vp vc : Value) (ps : List ByteArray) (cs : List Cl) (w : World) (hR : ExRd w vp vc ps cs) (hL : StLen ps) :
  Calls Tryz.prog 8 #[.agg #[.int .i64 O, .int .i64 E, .int .i64 M, vp, vc], .int .i64 1048576] w (SzePost ps cs w) := by
 have hb0 : Below w.heap.size w (w.alloc (.cells #[.int .i64 O, .int .i64 E, .int .i64 M, vp, vc] 27)) := by (exact grownA)
 have HR := Lib.hid (hR.below hb0)
 obtain ⟨a1, c1, rfl, _⟩ := hR.plan.open1
 obtain ⟨_, _, a2, c2, rfl, _⟩ := hR.calls
 have HL := Lib.hid hL
 clear hL hR
 go_enter Tryz.func8, Tryz.ntmps8
 go_wp2_with fail
 refine (szStringS_any _ ps _ HR.out.plan HL.out).mono ?_
 rintro e w1 ⟨x, rfl, hx0, hx1, hx2, rfl⟩
 by_cases hx : 0 ≤ x
 ·
  have HX := Lib.hid (hx2 hx).1
  clear hx2
  go_wp2_with fail
  refine (szCallS_any _ cs x _ HR.out.calls hx hx1).mono ?_
  rintro e w2 ⟨rfl, rfl⟩
  by_cases hc : x < (cs.length : Int)
  ·
   rw [if_pos hc]
   go_wp2
   go_returns
   exact ⟨-1, rfl, by omega, by omega, fun h => absurd h (by omega), hb0⟩
  ·
   rw [if_neg hc]
   have hc2 : ¬ x - (cs.length : Int) < 0 := by omega
   go_wp2
   go_returns
   exact ⟨_, rfl, by omega, by omega, fun _ => ⟨HX.out, by omega⟩, hb0⟩
 ·
  clear hx2
  go_wp2
  go_returns
  exact ⟨-1, rfl, by omega, by omega, fun h => absurd h (by omega), hb0⟩

/-- What toExchange leaves. -/
def ToePost (O E M : Int) (ps : List ByteArray) (cs : List Cl) (w : World) (e : Ending) (w' : World) : Prop :=
 ∃ g h : Nat, e = .returned (.agg #[.int .i64 O, .int .i64 E, .int .i64 M, .slice (some ⟨g, 0, none⟩) ps.length ps.length, .slice (some ⟨h, 0, none⟩) cs.length cs.length]) ∧
  ExOwn w' w.heap.size (.slice (some ⟨g, 0, none⟩) ps.length ps.length) (.slice (some ⟨h, 0, none⟩) cs.length cs.length) ps cs ∧ Below w.heap.size w w'
set_option maxHeartbeats 1000000 in
theorem toExchange_any (O E M : Int) (vp vc : Value) (ps : List ByteArray) (cs : List Cl) (w : World) (hR : ExRd w vp vc ps cs) (hp : ps.length ≤ 1048576) (hc : cs.length ≤ 1048576) :
  Calls Tryz.prog 11 #[.agg #[.int .i64 O, .int .i64 E, .int .i64 M, vp, vc]] w (ToePost O E M ps cs w) := by
 obtain ⟨a1, c1, rfl, hl1, hm1, hn1, _⟩ := hR.plan.open1
 obtain ⟨_, hm2, a2, c2, rfl, hn2, _⟩ := hR.calls
 unfold maxLen at hm1 hm2
 have HR := Lib.hid hR
 have HP := Lib.hid hp
 have HC := Lib.hid hc
 obtain ⟨n, hn⟩ : ∃ n, ps.length = n := ⟨_, rfl⟩
 obtain ⟨m, hm⟩ : ∃ m, cs.length = m := ⟨_, rfl⟩
 unfold ToePost
 rw [hn, hm] at HR ⊢
 rw [hn] at hm1 hn1 HP
 rw [hm] at hm2 hn2 HC
 have HN := Lib.hid hn
 have HM := Lib.hid hm
 clear hR hp hc hl1 hn hm
 have hB := ((Blk.new (w := w) (cs := #[.int .i64 O, .int .i64 E, .int .i64 M, .slice a1 n c1, .slice a2 m c2]) (T := 27) rfl).alloc (.cells #[.int .i64 0, .int .i64 0, .int .i64 0, .slice none 0 0, .slice none 0 0] 33)).alloc (.cells #[.int .i64 0, .int .i64 0, .int .i64 0, .slice none 0 0, .slice none 0 0] 33)
 have hR1 := (Blk.new (w := w.alloc (.cells #[.int .i64 O, .int .i64 E, .int .i64 M, .slice a1 n c1, .slice a2 m c2] 27)) (cs := #[.int .i64 0, .int .i64 0, .int .i64 0, .slice none 0 0, .slice none 0 0]) (T := 33) (b := w.heap.size + 1) (by simp)).alloc (.cells #[.int .i64 0, .int .i64 0, .int .i64 0, .slice none 0 0, .slice none 0 0] 33)
 have hO1 := Blk.new (w := (w.alloc (.cells #[.int .i64 O, .int .i64 E, .int .i64 M, .slice a1 n c1, .slice a2 m c2] 27)).alloc (.cells #[.int .i64 0, .int .i64 0, .int .i64 0, .slice none 0 0, .slice none 0 0] 33)) (cs := #[.int .i64 0, .int .i64 0, .int .i64 0, .slice none 0 0, .slice none 0 0]) (T := 33) (b := w.heap.size + 1 + 1) (by simp)
 go_enter Tryz.func11, Tryz.ntmps11
 go_wp2_with fail
 refine (toShape_any O E M _).mono ?_
 rintro e w1 ⟨rfl, hb1⟩
 have hbel1 : Below w.heap.size w w1 := by (exact grownA)
 have hz1 := hb1.size
 simp only [World.size_alloc] at hz1
 have hB1 := hB.belowAll hb1
 have hR2 := hR1.belowAll hb1
 have hO2 := hO1.belowAll hb1
 clear hB hR1 hO1 hb1
 obtain ⟨p0, p1, p2, p3, p4, _, _, _, _, _, plt⟩ := hB1.five
 obtain ⟨q0, q1, q2, q3, q4, k0, k1, k2, k3, k4, qlt⟩ := hO2.five
 go_wp2_with fail
 refine (toStringS_any (.slice a1 n c1) ps _ ?_ (by rw [HN.out]; exact HP.out)).mono ?_
 ·
  refine Rds.below ?_ (by have := HR.out.plan; exact this)
  (exact grownA)
 rintro e w2 ⟨g, rfl, hg, hOg, hb2⟩
 rw [HN.out] at hOg ⊢
 have hbel2 : Below w.heap.size w w2 := by (exact grownA)
 have hz2 := hb2.size
 simp only [World.size_setCell] at hz2 hg
 have hB2 : Blk w2 w.heap.size #[.int .i64 O, .int .i64 E, .int .i64 M, .slice a1 n c1, .slice a2 m c2] 27 := by (refine Blk.belowAll ?_ hb2; (exact blkA))
 have hR3 : Blk w2 (w.heap.size + 1) #[.int .i64 0, .int .i64 0, .int .i64 0, .slice none 0 0, .slice none 0 0] 33 := by (refine Blk.belowAll ?_ hb2; (exact blkA))
 have hO3 : Blk w2 (w.heap.size + 1 + 1) #[.int .i64 O, .int .i64 E, .int .i64 M, .slice none 0 0, .slice none 0 0] 33 := by (refine Blk.belowAll ?_ hb2; (exact blkA))
 clear hb2 hB1 hR2 hO2 p0 p1 p2 p3 p4 plt q0 q1 q2 q3 q4 k0 k1 k2 k3 k4 qlt
 obtain ⟨p0, p1, p2, p3, p4, _, _, _, _, _, plt⟩ := hB2.five
 obtain ⟨q0, q1, q2, q3, q4, k0, k1, k2, k3, k4, qlt⟩ := hO3.five
 go_wp2_with fail
 refine (toCallS_any (.slice a2 m c2) cs _ ?_ (by rw [HM.out]; exact HC.out)).mono ?_
 ·
  refine Rds.below ?_ (by have := HR.out.calls; exact this)
  (exact grownA)
 rintro e w3 ⟨h, rfl, hh, hOh, hb3⟩
 rw [HM.out] at hOh ⊢
 have hbel3 : Below w.heap.size w w3 := by (exact grownA)
 have hz3 := hb3.size
 simp only [World.size_setCell] at hz3 hh
 have hR4 : Blk w3 (w.heap.size + 1) #[.int .i64 0, .int .i64 0, .int .i64 0, .slice none 0 0, .slice none 0 0] 33 := by (refine Blk.belowAll ?_ hb3; (exact blkA))
 have hO4 : Blk w3 (w.heap.size + 1 + 1) #[.int .i64 O, .int .i64 E, .int .i64 M, .slice (some ⟨g, 0, none⟩) n n, .slice none 0 0] 33 := by (refine Blk.belowAll ?_ hb3; (exact blkA))
 have hOg3 : Own w3 g n n 9 1 (strs ps) := by
  have := hOg.lt
  refine Own.below hb3 (by simp; omega) (Own.other (by simp; omega) hOg)
 have hOgl := hOg.lt
 clear hb3 hB2 hR3 hO3 p0 p1 p2 p3 p4 plt q0 q1 q2 q3 q4 k0 k1 k2 k3 k4 qlt hOg
 obtain ⟨p0, p1, p2, p3, p4, l0, l1, l2, l3, l4, plt⟩ := hR4.five
 obtain ⟨q0, q1, q2, q3, q4, k0, k1, k2, k3, k4, qlt⟩ := hO4.five
 have hgh : g ≠ h := by omega
 have hlt3 := hR4.lt
 go_wp2
 refine bodyPost_ret (v := .agg #[.int .i64 O, .int .i64 E, .int .i64 M, .slice (some ⟨g, 0, none⟩) n n, .slice (some ⟨h, 0, none⟩) m m]) (by simp [results, Tryz.results11, go_sem, p0, p1, p2, p3, p4]) rfl ⟨g, h, rfl, ⟨?_, ?_, .inr (by simp [Value.ownBlock]; omega)⟩, by (exact grownA)⟩
 ·
  rw [HN.out]
  apply Own.back
  ·
   (exact ownA)
  ·
   omega
 ·
  rw [HM.out]
  apply Own.back
  ·
   (exact ownA)
  ·
   omega

set_option maxHeartbeats 400000 in
theorem eqExchange_any (O E M O' E' M' : Int) (vp vc up uc : Value) (ps qs : List ByteArray) (cs ds : List Cl) (w : World) (h1 : ExRd w vp vc ps cs) (h2 : ExRd w up uc qs ds) :
  Calls Tryz.prog 14 #[.agg #[.int .i64 O, .int .i64 E, .int .i64 M, vp, vc], .agg #[.int .i64 O', .int .i64 E', .int .i64 M', up, uc]] w
   fun e w' => e = .returned (.bool (decide ((O, E, M) = (O', E', M')) && (decide (ps = qs) && decide (cs = ds)))) ∧ Below w.heap.size w w' := by
 have hB1 := (Blk.new (w := w) (cs := #[.int .i64 O, .int .i64 E, .int .i64 M, vp, vc]) (T := 33) rfl).alloc (.cells #[.int .i64 O', .int .i64 E', .int .i64 M', up, uc] 33)
 have hB2 := Blk.new (w := w.alloc (.cells #[.int .i64 O, .int .i64 E, .int .i64 M, vp, vc] 33)) (cs := #[.int .i64 O', .int .i64 E', .int .i64 M', up, uc]) (T := 33) (b := w.heap.size + 1) (by simp)
 obtain ⟨a1, c1, rfl, _⟩ := h1.plan.open1
 obtain ⟨_, _, a2, c2, rfl, _⟩ := h1.calls
 obtain ⟨a3, c3, rfl, _⟩ := h2.plan.open1
 obtain ⟨_, _, a4, c4, rfl, _⟩ := h2.calls
 have H1 := Lib.hid h1
 have H2 := Lib.hid h2
 clear h1 h2
 go_enter Tryz.func14, Tryz.ntmps14
 go_wp2_with fail
 refine (eqShape_any O E M O' E' M' _).mono ?_
 rintro e w1 ⟨rfl, hb1⟩
 have hbel1 : Below w.heap.size w w1 := by (exact grownA)
 have hB3 := hB1.belowAll hb1
 have hB4 := hB2.belowAll hb1
 clear hb1 hB1 hB2
 obtain ⟨d1, hd1⟩ : ∃ d, decide ((O, E, M) = (O', E', M')) = d := ⟨_, rfl⟩
 have HD1 := Lib.hid hd1
 rw [hd1]
 clear hd1
 cases d1
 ·
  go_wp2
  go_returns
  exact ⟨by rw [HD1.out]; rfl, hbel1⟩
 ·
  obtain ⟨p0, p1, p2, p3, p4, _, _, _, _, _, plt⟩ := hB3.five
  obtain ⟨q0, q1, q2, q3, q4, _, _, _, _, _, qlt⟩ := hB4.five
  go_wp2_with fail
  refine (eqStringS_any _ _ ps qs _ (H1.out.plan.below hbel1) (H2.out.plan.below hbel1)).mono ?_
  rintro e w2 ⟨rfl, hb2⟩
  have hbel2 : Below w.heap.size w w2 := by (exact grownA)
  have hB5 := hB3.belowAll hb2
  have hB6 := hB4.belowAll hb2
  clear hb2 hB3 hB4 p0 p1 p2 p3 p4 plt q0 q1 q2 q3 q4 qlt
  obtain ⟨d1, hd1⟩ : ∃ d, decide (ps = qs) = d := ⟨_, rfl⟩
  have HD2 := Lib.hid hd1
  rw [hd1]
  clear hd1
  cases d1
  ·
   go_wp2
   go_returns
   exact ⟨by rw [HD1.out, HD2.out]; rfl, hbel2⟩
  ·
   obtain ⟨p0, p1, p2, p3, p4, _, _, _, _, _, plt⟩ := hB5.five
   obtain ⟨q0, q1, q2, q3, q4, _, _, _, _, _, qlt⟩ := hB6.five
   go_wp2_with fail
   refine (eqCallS_any _ _ cs ds _ (H1.out.calls.below hbel2) (H2.out.calls.below hbel2)).mono ?_
   rintro e w3 ⟨rfl, hb3⟩
   have hbel3 : Below w.heap.size w w3 := by (exact grownA)
   clear hb3 hB5 hB6 p0 p1 p2 p3 p4 plt q0 q1 q2 q3 q4 qlt
   obtain ⟨d1, hd1⟩ : ∃ d, decide (cs = ds) = d := ⟨_, rfl⟩
   have HD3 := Lib.hid hd1
   rw [hd1]
   clear hd1
   cases d1
   ·
    go_wp2
    go_returns
    exact ⟨by rw [HD1.out, HD2.out, HD3.out]; rfl, hbel3⟩
   ·
    go_wp2
    go_returns
    exact ⟨by rw [HD1.out, HD2.out, HD3.out]; rfl, hbel3⟩


set_option maxHeartbeats 400000 in
theorem markExchange_any (O E M : Int) (base : Nat) (vp vc : Value) (ps : List ByteArray) (cs : List Cl) (k : Nat) (w : World) (h1 : ExOwn w base vp vc ps cs) (hk0 : 0 < k) (hk : k ≤ 1000000) (hp : ps.length ≤ 10000000) (hc : cs.length ≤ 10000000) :
  Calls Tryz.prog 16 #[.agg #[.int .i64 O, .int .i64 E, .int .i64 M, vp, vc], .int .i64 k] w
   fun e w' => e = .returned (.int .i64 (k + ps.length + 3 * cs.length : Nat)) ∧ ExOwn w' base vp vc (smarks k ps.length) (cmarks (k + ps.length) cs.length) ∧ Gb2 w w' vp.ownBlock vc.ownBlock := by
 have hB := Blk.new (w := w) (cs := #[.int .i64 O, .int .i64 E, .int .i64 M, vp, vc]) (T := 33) rfl
 have hg0 : w.grownBy (w.alloc (.cells #[.int .i64 O, .int .i64 E, .int .i64 M, vp, vc] 33)) vp.ownBlock := gb_alloc (World.grownBy.refl _ _)
 have o1 := h1.plan.alloc (.cells #[.int .i64 O, .int .i64 E, .int .i64 M, vp, vc] 33)
 have o2 := h1.calls.alloc (.cells #[.int .i64 O, .int .i64 E, .int .i64 M, vp, vc] 33)
 have hlp := own_lt h1.plan
 have hlc := own_lt h1.calls
 have HA := Lib.hid h1.apart
 obtain ⟨p0, p1, p2, p3, p4, _, _, _, _, _, plt⟩ := hB.five
 clear h1
 go_enter Tryz.func16, Tryz.ntmps16
 go_wp2_with fail
 refine (markStrs_any base vp ps.length ps k _ o1 hk0 hk hp).mono ?_
 rintro e w1 ⟨rfl, ho1, hg1⟩
 have hgA := gb_trans hg0 hg1
 have hBl : Blk w1 w.heap.size #[.int .i64 O, .int .i64 E, .int .i64 M, vp, vc] 33 := by
  unfold Blk at hB ⊢
  rw [hg1.block w.heap.size (by simp) (by intro e; have := hlp _ e.symm; omega)]
  exact hB
 have o3 := o2.kept hg1 (by
  rcases HA.out with h | h
  ·
   cases hv : Value.ownBlock vc with
   | none => exact .inl rfl
   | some x => rw [h]; exact .inr (by simp)
  ·
   exact .inr fun e => h e.symm)
 clear hB p0 p1 p2 p3 p4 plt o1 o2 hg0
 obtain ⟨p0, p1, p2, p3, p4, _, _, _, _, _, plt⟩ := hBl.five
 go_wp2_with fail
 refine (markCalls_any base vc cs.length cs (k + ps.length) _ o3 (by omega) (by omega) hc).mono ?_
 rintro e w2 ⟨rfl, ho2, hg2⟩
 have o4 := ho1.kept hg2 HA.out
 go_wp2
 go_returns
 refine ⟨rfl, ⟨?_, ?_, HA.out⟩, w1, hgA, hg2⟩
 ·
  rw [smarks_len]; exact o4
 ·
  rw [cmarks_len]; exact ho2

set_option maxHeartbeats 400000 in
theorem heldExchange_any (O E M : Int) (vp vc : Value) (n m k : Nat) (w : World) (h1 : ExRd w vp vc (smarks k n) (cmarks (k + n) m)) (hk0 : 0 < k) (hk : k ≤ 1000000) (hp : n ≤ 10000000) (hc : m ≤ 10000000) :
  Calls Tryz.prog 18 #[.agg #[.int .i64 O, .int .i64 E, .int .i64 M, vp, vc], .int .i64 k] w
   fun e w' => e = .returned (.int .i64 (k + n + 3 * m : Nat)) ∧ Below w.heap.size w w' := by
 have hB := Blk.new (w := w) (cs := #[.int .i64 O, .int .i64 E, .int .i64 M, vp, vc]) (T := 33) rfl
 have hb0 : Below w.heap.size w (w.alloc (.cells #[.int .i64 O, .int .i64 E, .int .i64 M, vp, vc] 33)) := by (exact grownA)
 have hP := h1.plan
 have hC := h1.calls
 rw [smarks_len] at hP
 rw [cmarks_len] at hC
 have HP := Lib.hid hP
 have HC := Lib.hid hC
 obtain ⟨a1, c1, rfl, _⟩ := hP.open1
 obtain ⟨_, _, a2, c2, rfl, _⟩ := hC
 clear h1 hP
 go_enter Tryz.func18, Tryz.ntmps18
 go_wp2_with fail
 refine (heldStrs_any _ n k _ (HP.out.below hb0) hk0 hk hp).mono ?_
 rintro e w1 ⟨rfl, hb1⟩
 have hbel1 : Below w.heap.size w w1 := by (exact grownA)
 have hB1 := hB.belowAll hb1
 clear hB hb1 hb0
 obtain ⟨p0, p1, p2, p3, p4, _, _, _, _, _, plt⟩ := hB1.five
 have hn1 : ¬ ((k + n : Nat) : Int) < 0 := by omega
 go_wp2_with fail
 refine (heldCalls_any _ m (k + n) _ (HC.out.below hbel1) (by omega) (by omega) hc).mono ?_
 rintro e w2 ⟨rfl, hb2⟩
 have hbel2 : Below w.heap.size w w2 := by (exact grownA)
 have hn2 : ¬ ((k + n + 3 * m : Nat) : Int) < 0 := by omega
 go_wp2
 go_returns
 exact ⟨rfl, hbel2⟩

end Go.Proofs.YtedadhoneebfnaaGreatDoor
