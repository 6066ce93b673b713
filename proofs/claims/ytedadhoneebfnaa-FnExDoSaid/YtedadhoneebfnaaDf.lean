/- Contract of doNumber (program). -/
import Derived.Test.YtedadhoneebfnaaDe
import Derived.Deep.QuietTactic
import Derived.BigQuiet
set_option linter.unusedSimpArgs false
set_option linter.unusedVariables false
namespace Go.Proofs.Ytedadhoneebfnaa
open Go.RowKit

theorem strs_set8 (ps : List ByteArray) (j : Nat) (s : ByteArray) : (strs ps).set j (.string s) = strs (ps.set j s) := by simp [strs, List.map_set]
section
variable {w W W' : World} {O E M : Int} {vp vc : Value} {k l : Int} {s : ByteArray} {nb : Nat} {vq vr : Value} {ps : List ByteArray} {cs : List Cl}
theorem DoSt.drewN (q : Nat) (h : DoSt w W O E M vp vc k l s nb vq vr ps cs) : DoSt w (W.drewN q) O E M vp vc k l s nb vq vr ps cs :=
 ⟨below_drewN h.bel _, h.box.drewN _, h.dee.drewN _, h.res.drewN _, h.nxt.drewN _, h.own.drewN q, h.ap1, h.ap2, h.big⟩
/-- A number is another one. -/
theorem DoSt.number {g cap n : Nat} (h : DoSt w W O E M vp vc k l s nb (.slice (some ⟨g, 0, none⟩) n cap) vr ps cs) (hn : n = ps.length) (t : ByteArray) (j : Nat) : DoSt w (W.setCell ⟨g, j, none⟩ (.string t)) O E M vp vc k l s nb (.slice (some ⟨g, 0, none⟩) n cap) vr (ps.set j t) cs := by
 subst hn
 have hg : W.grownBy (W.setCell ⟨g, j, none⟩ (.string t)) (some g) := gb_set (World.grownBy.refl _ _)
 obtain ⟨ho, hgb⟩ := Own.of h.own.plan
 have hgn : g ≠ nb := by
  rcases h.ap1 with e | e
  ·
   cases e
  ·
   exact fun e2 => e (by rw [e2]; rfl)
 have hcv : vr.ownBlock = none ∨ vr.ownBlock ≠ some g := by
  rcases h.own.apart with e | e
  ·
   cases e
  ·
   exact .inr (fun e2 => e e2.symm)
 refine ⟨h.bel.setCell (by show _ ≤ g; omega) _, h.box.other (by show _ ≠ g; omega), h.dee.other (by show _ ≠ g; omega), h.res.other (by show _ ≠ g; omega), h.nxt.other (fun e => hgn e.symm), ⟨?_, h.own.calls.kept hg hcv, h.own.apart⟩, h.ap1, h.ap2, h.big⟩
 rw [List.length_set]
 exact (ho.set (strs_set8 ps j t)).back hgb
end

set_option maxRecDepth 100000 in
set_option maxHeartbeats 8000000 in
theorem doNumber_any (O E M : Int) (vp vc : Value) (ps : List ByteArray) (cs : List Cl) (k : Int) (l : Nat) (s : ByteArray) (w : World) (hok : ExOk O E M ps cs) (hR : ExRd w vp vc ps cs) (hn : SomeV vp ps.length) (hL : StLen ps) (hl : l < ps.length) (hs : s.size ≤ maxLen) :
  Calls Try.prog 94 #[.agg #[.int .i64 O, .int .i64 E, .int .i64 M, vp, vc], .agg #[.int .i64 k, .int .i64 l, .string s]] w
   (doQ O E M ps cs (doL E M ps cs 2 l s) w) := by
 have HOK := Lib.hid hok
 have hcn := hok.calls.count (lines_le hok.calls.sh)
 have hpn := hok.lines.2
 have HPN := Lib.hid hpn
 have HR := Lib.hid hR
 have HNN := Lib.hid hn
 have HL := Lib.hid hL
 have HLS : Hid (StLen (ps.set l s)) := hL.set l hs
 obtain ⟨t, ht⟩ : ∃ t, ps[l]? = some t := ⟨_, List.getElem?_eq_getElem hl⟩
 have HD : Hid (doL E M ps cs 2 l s = if t = s ∨ planB (ps.set l s) = false then none else some (ps.set l s, cs)) := by
  unfold Hid doL
  rw [if_neg (by omega), if_neg (by omega), if_neg (by omega), if_pos rfl, Int.toNat_natCast, ht]
  simp only [Option.some.injEq]
 obtain ⟨_, _, a1, c1, rfl, hn1, hc1⟩ := hR.plan
 obtain ⟨_, _, a2, c2, rfl, hn2, hc2⟩ := hR.calls
 rcases hc1 with hc1 | ⟨b, off, rfl, hb, hc1⟩
 ·
  omega
 have q1 := hc1 l (by omega)
 rw [strs_at ps l t ht] at q1
 have HT := Lib.hid ht
 have hbel0 : Below w.heap.size w (((w.alloc (.cells #[.int .i64 O, .int .i64 E, .int .i64 M, .slice (some ⟨b, off, none⟩) ps.length c1, .slice a2 cs.length c2] 33)).alloc (.cells #[.int .i64 k, .int .i64 l, .string s] 68)).alloc (.cells #[.int .i64 0, .int .i64 0, .int .i64 0, .slice none 0 0, .slice none 0 0] 33)) := by (exact grownA)
 have i1 : (0 : Int) ≤ (l : Int) := by omega
 have i2 : (l : Int) < (ps.length : Int) := by omega
 clear hok hR hn hL hc1 hc2 ht
 go_enter Try.func94, Try.ntmps94
 go_wp2_with fail
 refine (copyExchange_any O E M _ _ ps cs _ (HR.out.below hbel0) HNN.out (by have := HPN.out; omega) (by omega)).mono ?_
 rintro e w2 ⟨vq, vr, rfl, ho2, hb2⟩
 have hst := DoSt.start hb2 ho2
 obtain ⟨gq, cq, rfl, hgq, hoq⟩ : ∃ g c, vq = .slice (some ⟨g, 0, none⟩) ps.length c ∧ w.heap.size + 3 ≤ g ∧ Own w2 g ps.length c 9 1 (strs ps) := by
  rcases ho2.plan.2 with ⟨_, h⟩ | ⟨g, cap, cur, rfl, hb, r⟩
  ·
   omega
  ·
   exact ⟨g, cap, rfl, by simpa using hb, (Own.of ho2.plan).1⟩
 obtain ⟨ar, cr, rfl⟩ := own_len9 ho2.calls
 have hs1 := hst.number rfl s l
 have hoq2 := hoq.alloc (o := .cells #[.int .i64 O, .int .i64 E, .int .i64 M, .slice (some ⟨gq, 0, none⟩) ps.length cq, .slice ar cs.length cr] 33)
 have x1 := (hoq2.cell l (by omega)).trans (strs_at ps l t HT.out)
 have x2 := hoq2.free l
 have x3 := hoq2.lt
 have hqlt := hoq.lt
 rw [World.setCell_alloc_past (hn := hqlt)] at hs1
 clear hb2 ho2 hbel0 hoq hoq2
 obtain ⟨b0, b1, b2, b3, b4, -, -, -, -, -, blt⟩ := hst.box.five
 obtain ⟨d0, d1, d2, -, -, -, dlt⟩ := hst.dee.three
 obtain ⟨n0, n1, n2, n3, n4, g0, g1, g2, g3, g4, nlt⟩ := hst.nxt.five
 have hbs := hst.bel
 clear hst
 obtain ⟨B0, B1, B2, B3, B4, -, -, -, -, -, Blt⟩ := hs1.box.five
 obtain ⟨D0, D1, D2, -, -, -, Dlt⟩ := hs1.dee.three
 obtain ⟨R0, R1, R2, R3, R4, F0, F1, F2, F3, F4, Rlt⟩ := hs1.res.five
 obtain ⟨N0, N1, N2, N3, N4, G0, G1, G2, G3, G4, Nlt⟩ := hs1.nxt.five
 have hq1 := (hs1.bel.cell (p := ⟨b, off + l, none⟩) hb).trans q1
 by_cases hts : t = s
 ·
  have HN : Hid (doL E M ps cs 2 l s = none) := by unfold Hid; rw [HD.out, if_pos (.inl hts)]
  have hq := str_eq hts.symm
  have hqd : decide (s = t) = true := by simpa using hts.symm
  clear hts
  go_wp2_with fail
  go_quiet (fail)
  go_wp2_with fail
  refine (copyExchange_any O E M _ _ ps cs _ ((HR.out.below hs1.bel).drewN _) HNN.out (by have := HPN.out; omega) (by omega)).mono ?_
  rintro e w4 ⟨vq, vr, rfl, ho4, hb4⟩
  have hz4 := hs1.bel.size
  have hR4 := (hs1.res.drewN _).belowAll hb4
  obtain ⟨a4, c4, rfl⟩ := own_len9 ho4.plan
  obtain ⟨a5, c5, rfl⟩ := own_len9 ho4.calls
  obtain ⟨R0, R1, R2, R3, R4, F0, F1, F2, F3, F4, Rlt⟩ := hR4.five
  go_wp2
  obtain ⟨z0, z1, z2, z3, z4, -⟩ := (five_set (y0 := .int .i64 O) (y1 := .int .i64 E) (y2 := .int .i64 M) (y3 := .slice a4 ps.length c4) (y4 := .slice a5 cs.length c5) hR4).five
  refine bodyPost_ret (v := .tuple #[.agg #[.int .i64 O, .int .i64 E, .int .i64 M, .slice a4 ps.length c4, .slice a5 cs.length c5], .bool false]) (by simp [results, Try.results94, go_sem, z0, z1, z2, z3, z4]) rfl ?_
  have hlt4 : w.heap.size + 2 < (World.setCell w2 ⟨gq, l, none⟩ (.string s)).heap.size + 1 := by have := hs1.res.lt; simpa using this
  have hbq : Below w.heap.size w w4 := ((below_drewN hs1.bel _)).trans (Below.mono hb4 hz4)
  exact doQ_none HN.out ⟨_, _, rfl, (ho4.result _ _ _ _ _ (by have := hs1.res.lt; simp at this ⊢; omega)).lower (by have := hs1.res.lt; simp at this ⊢; omega), five_below _ _ _ _ _ hbq (by omega)⟩
 ·
  have hq := str_ne (fun e => hts e.symm : ¬ s = t)
  have hqd : decide (s = t) = false := by simpa using (fun e => hts e.symm : ¬ s = t)
  have HTS := Lib.hid hts
  clear hts
  obtain ⟨pb, hpb⟩ : ∃ b, planB (ps.set l s) = b := ⟨_, rfl⟩
  have HPB := Lib.hid hpb
  have kc := Lib.hid (fun n => (iPlanValid_any _ (ps.set l s) (World.drewN ((w2.setCell ⟨gq, l, none⟩ (.string s)).alloc (.cells #[.int .i64 O, .int .i64 E, .int .i64 M, .slice (some ⟨gq, 0, none⟩) ps.length cq, .slice ar cs.length cr] 33)) n) ((Rds.ofOwns hs1.own.plan).drewN n) HLS.out).mono (fun e w' h => (⟨by rw [h.1, HPB.out], h.2.symm⟩ : e = .returned (.bool pb) ∧ w' = World.drewN ((w2.setCell ⟨gq, l, none⟩ (.string s)).alloc (.cells #[.int .i64 O, .int .i64 E, .int .i64 M, .slice (some ⟨gq, 0, none⟩) ps.length cq, .slice ar cs.length cr] 33)) n)))
  clear hpb
  go_wp2_with fail
  go_quiet ((go_at_call 69; exact Calls.quiet_of_same (kc.out _)))
  clear kc
  cases pb
  ·
   have HN : Hid (doL E M ps cs 2 l s = none) := by unfold Hid; rw [HD.out, if_pos (.inr HPB.out)]
   go_wp2_with fail
   refine (copyExchange_any O E M _ _ ps cs _ ((HR.out.below hs1.bel).drewN _) HNN.out (by have := HPN.out; omega) (by omega)).mono ?_
   rintro e w4 ⟨vq, vr, rfl, ho4, hb4⟩
   have hz4 := hs1.bel.size
   have hR4 := (hs1.res.drewN _).belowAll hb4
   obtain ⟨a4, c4, rfl⟩ := own_len9 ho4.plan
   obtain ⟨a5, c5, rfl⟩ := own_len9 ho4.calls
   obtain ⟨R0, R1, R2, R3, R4, F0, F1, F2, F3, F4, Rlt⟩ := hR4.five
   go_wp2
   obtain ⟨z0, z1, z2, z3, z4, -⟩ := (five_set (y0 := .int .i64 O) (y1 := .int .i64 E) (y2 := .int .i64 M) (y3 := .slice a4 ps.length c4) (y4 := .slice a5 cs.length c5) hR4).five
   refine bodyPost_ret (v := .tuple #[.agg #[.int .i64 O, .int .i64 E, .int .i64 M, .slice a4 ps.length c4, .slice a5 cs.length c5], .bool false]) (by simp [results, Try.results94, go_sem, z0, z1, z2, z3, z4]) rfl ?_
   have hlt4 : w.heap.size + 2 < (World.setCell w2 ⟨gq, l, none⟩ (.string s)).heap.size + 1 := by have := hs1.res.lt; simpa using this
   have hbq : Below w.heap.size w w4 := ((below_drewN hs1.bel _)).trans (Below.mono hb4 hz4)
   exact doQ_none HN.out ⟨_, _, rfl, (ho4.result _ _ _ _ _ (by have := hs1.res.lt; simp at this ⊢; omega)).lower (by have := hs1.res.lt; simp at this ⊢; omega), five_below _ _ _ _ _ hbq (by omega)⟩
  ·
   have HN : Hid (doL E M ps cs 2 l s = some (ps.set l s, cs)) := by
    unfold Hid
    rw [HD.out, if_neg]
    rw [HPB.out]
    simp [HTS.out]
   go_wp2
   have hz := fun q => (five_set (y0 := .int .i64 O) (y1 := .int .i64 E) (y2 := .int .i64 M) (y3 := .slice (some ⟨gq, 0, none⟩) ps.length cq) (y4 := .slice ar cs.length cr) (hs1.drewN q).res).five
   have z0 := fun q => (hz q).1
   have z1 := fun q => (hz q).2.1
   have z2 := fun q => (hz q).2.2.1
   have z3 := fun q => (hz q).2.2.2.1
   have z4 := fun q => (hz q).2.2.2.2.1
   refine bodyPost_ret (v := .tuple #[.agg #[.int .i64 O, .int .i64 E, .int .i64 M, .slice (some ⟨gq, 0, none⟩) ps.length cq, .slice ar cs.length cr], .bool true]) (by simp [results, Try.results94, go_sem, z0, z1, z2, z3, z4]) rfl ?_
   exact doQ_some HN.out ((hs1.drewN _).back true)

end Go.Proofs.Ytedadhoneebfnaa
