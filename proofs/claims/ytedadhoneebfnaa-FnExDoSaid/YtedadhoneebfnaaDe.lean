/- Contracts of doCall, doDrop, doNumber (program). -/
import Derived.Test.YtedadhoneebfnaaJ9
import Derived.Test.YtedadhoneebfnaaJ3
import Derived.StillTailTactics
set_option linter.unusedSimpArgs false
set_option linter.unusedVariables false
namespace Go.Proofs.Ytedadhoneebfnaa
open Go.RowKit

/-- Where the doing of a deed stands: the exchange, the deed, the result, and what comes next. -/
structure DoSt (w W : World) (O E M : Int) (vp vc : Value) (k l : Int) (s : ByteArray) (nb : Nat) (vq vr : Value) (ps : List ByteArray) (cs : List Cl) : Prop where
 bel : Below w.heap.size w W
 box : Blk W w.heap.size #[.int .i64 O, .int .i64 E, .int .i64 M, vp, vc] 33
 dee : Blk W (w.heap.size + 1) #[.int .i64 k, .int .i64 l, .string s] 68
 res : Blk W (w.heap.size + 2) #[.int .i64 0, .int .i64 0, .int .i64 0, .slice none 0 0, .slice none 0 0] 33
 nxt : Blk W nb #[.int .i64 O, .int .i64 E, .int .i64 M, vq, vr] 33
 own : ExOwn W (w.heap.size + 3) vq vr ps cs
 ap1 : vq.ownBlock = none ∨ vq.ownBlock ≠ some nb
 ap2 : vr.ownBlock = none ∨ vr.ownBlock ≠ some nb
 big : w.heap.size + 3 ≤ nb
section
variable {w W W' : World} {O E M : Int} {vp vc : Value} {k l : Int} {s : ByteArray} {nb : Nat} {vq vr : Value} {ps : List ByteArray} {cs : List Cl}
theorem DoSt.belowAll (h : DoSt w W O E M vp vc k l s nb vq vr ps cs) (hb : Below W.heap.size W W') : DoSt w W' O E M vp vc k l s nb vq vr ps cs :=
 ⟨h.bel.trans (Below.mono hb h.bel.size), h.box.belowAll hb, h.dee.belowAll hb, h.res.belowAll hb, h.nxt.belowAll hb, h.own.below hb, h.ap1, h.ap2, h.big⟩
theorem DoSt.drew (h : DoSt w W O E M vp vc k l s nb vq vr ps cs) : DoSt w W.drew O E M vp vc k l s nb vq vr ps cs :=
 ⟨h.bel.drew, h.box.drew, h.dee.drew, h.res.drew, h.nxt.drew, h.own.drewN 1, h.ap1, h.ap2, h.big⟩
theorem DoSt.start {w2 : World} (hb : Below (((w.alloc (.cells #[.int .i64 O, .int .i64 E, .int .i64 M, vp, vc] 33)).alloc (.cells #[.int .i64 k, .int .i64 l, .string s] 68)).alloc (.cells #[.int .i64 0, .int .i64 0, .int .i64 0, .slice none 0 0, .slice none 0 0] 33)).heap.size (((w.alloc (.cells #[.int .i64 O, .int .i64 E, .int .i64 M, vp, vc] 33)).alloc (.cells #[.int .i64 k, .int .i64 l, .string s] 68)).alloc (.cells #[.int .i64 0, .int .i64 0, .int .i64 0, .slice none 0 0, .slice none 0 0] 33)) w2)
  (ho : ExOwn w2 (((w.alloc (.cells #[.int .i64 O, .int .i64 E, .int .i64 M, vp, vc] 33)).alloc (.cells #[.int .i64 k, .int .i64 l, .string s] 68)).alloc (.cells #[.int .i64 0, .int .i64 0, .int .i64 0, .slice none 0 0, .slice none 0 0] 33)).heap.size vq vr ps cs) :
  DoSt w (w2.alloc (.cells #[.int .i64 O, .int .i64 E, .int .i64 M, vq, vr] 33)) O E M vp vc k l s w2.heap.size vq vr ps cs := by
 have h3 : (((w.alloc (.cells #[.int .i64 O, .int .i64 E, .int .i64 M, vp, vc] 33)).alloc (.cells #[.int .i64 k, .int .i64 l, .string s] 68)).alloc (.cells #[.int .i64 0, .int .i64 0, .int .i64 0, .slice none 0 0, .slice none 0 0] 33)).heap.size = w.heap.size + 3 := by simp
 have hsz := hb.size
 rw [h3] at hsz ho
 have hb0 : Below w.heap.size w (((w.alloc (.cells #[.int .i64 O, .int .i64 E, .int .i64 M, vp, vc] 33)).alloc (.cells #[.int .i64 k, .int .i64 l, .string s] 68)).alloc (.cells #[.int .i64 0, .int .i64 0, .int .i64 0, .slice none 0 0, .slice none 0 0] 33)) := by (exact grownA)
 have hne : ∀ {v : Value} {n : Nat} {E : TypeId} {size : Nat} {xs : List Value}, w2.ownsRow (w.heap.size + 3) E size v n xs → v.ownBlock = none ∨ v.ownBlock ≠ some w2.heap.size := by
  intro v n E size xs h
  cases hv : v.ownBlock with
  | none => exact .inl rfl
  | some j => exact .inr (fun e => by have := own_lt h j hv; cases e; omega)
 refine ⟨(hb0.trans (Below.mono hb hb0.size)).alloc (by omega) _, ?_, ?_, ?_, Blk.new rfl, ho.below (by (exact grownA)), hne ho.plan, hne ho.calls, hsz⟩
 ·
  exact ((((Blk.new (w := w) rfl).alloc _).alloc _).belowAll hb).alloc _
 ·
  exact (((Blk.new (w := w.alloc (.cells #[.int .i64 O, .int .i64 E, .int .i64 M, vp, vc] 33)) (by simp)).alloc _).belowAll hb).alloc _
 ·
  exact ((Blk.new (w := (w.alloc (.cells #[.int .i64 O, .int .i64 E, .int .i64 M, vp, vc] 33)).alloc (.cells #[.int .i64 k, .int .i64 l, .string s] 68)) (by simp)).belowAll hb).alloc _
/-- Handed back as it is. -/
theorem DoSt.back (h : DoSt w W O E M vp vc k l s nb vq vr ps cs) (b : Bool) : ExNewB O E M ps cs b w (.returned (.tuple #[.agg #[.int .i64 O, .int .i64 E, .int .i64 M, vq, vr], .bool b])) (((((W.setCell ⟨w.heap.size + 2, 0, none⟩ (.int .i64 O)).setCell ⟨w.heap.size + 2, 1, none⟩ (.int .i64 E)).setCell ⟨w.heap.size + 2, 2, none⟩ (.int .i64 M)).setCell ⟨w.heap.size + 2, 3, none⟩ vq).setCell ⟨w.heap.size + 2, 4, none⟩ vr) :=
 ⟨_, _, rfl, (h.own.result _ _ _ _ _ (by omega)).lower (by omega), five_below _ _ _ _ _ h.bel (by omega)⟩
/-- Other calls come next. -/
theorem DoSt.calls {v' : Value} {cs' : List Cl} {B : Nat} (h : DoSt w W O E M vp vc k l s nb vq vr ps cs) (ho : W.ownsRow B 57 3 v' cs'.length (ccells cs')) (hB : nb < B) (hq : ∀ j, vq.ownBlock = some j → j < B) : DoSt w (W.setCell ⟨nb, 4, none⟩ v') O E M vp vc k l s nb vq v' ps cs' := by
 have hbg := h.big
 have hg : W.grownBy (W.setCell ⟨nb, 4, none⟩ v') (some nb) := gb_set (World.grownBy.refl _ _)
 have ha2 : v'.ownBlock = none ∨ v'.ownBlock ≠ some nb := by
  cases hv : v'.ownBlock with
  | none => exact .inl rfl
  | some j => exact .inr (fun e => by have := own_ge ho j hv; cases e; omega)
 refine ⟨h.bel.setCell (by show _ ≤ nb; omega) _, h.box.other (by show _ ≠ nb; omega), h.dee.other (by show _ ≠ nb; omega), h.res.other (by show _ ≠ nb; omega), h.nxt.set rfl, ⟨h.own.plan.kept hg h.ap1, owns_base (by omega) (ho.kept hg ha2), ?_⟩, h.ap1, ha2, hbg⟩
 cases hv : vq.ownBlock with
 | none => exact .inl rfl
 | some j => exact .inr (fun e => by have := own_ge ho j e.symm; have := hq j hv; omega)
theorem DoSt.planLt (h : DoSt w W O E M vp vc k l s nb vq vr ps cs) : ∀ j, vq.ownBlock = some j → j < W.heap.size := fun j hj => own_lt h.own.plan j hj
end

/-- What a deed leaves. -/
def doQ (O E M : Int) (ps : List ByteArray) (cs : List Cl) (r : Option (List ByteArray × List Cl)) : World → Ending → World → Prop := match r with
 | some y => ExNewB O E M y.1 y.2 true
 | none => ExNewB O E M ps cs false
theorem doQ_none {O E M : Int} {ps : List ByteArray} {cs : List Cl} {r : Option (List ByteArray × List Cl)} (h : r = none) {w : World} {e : Ending} {w' : World} (hh : ExNewB O E M ps cs false w e w') : doQ O E M ps cs r w e w' := by subst h; exact hh
theorem doQ_some {O E M : Int} {ps ps' : List ByteArray} {cs cs' : List Cl} {r : Option (List ByteArray × List Cl)} (h : r = some (ps', cs')) {w : World} {e : Ending} {w' : World} (hh : ExNewB O E M ps' cs' true w e w') : doQ O E M ps cs r w e w' := by subst h; exact hh

set_option maxRecDepth 100000 in
set_option maxHeartbeats 8000000 in
theorem doCall_any (O E M : Int) (vp vc : Value) (ps : List ByteArray) (cs : List Cl) (k l : Int) (s : ByteArray) (w : World) (hok : ExOk O E M ps cs) (hR : ExRd w vp vc ps cs) (hn : SomeV vp ps.length) (hL : StLen ps) (hl : 0 ≤ l ∧ l < ps.length) :
  Calls Try.prog 92 #[.agg #[.int .i64 O, .int .i64 E, .int .i64 M, vp, vc], .agg #[.int .i64 k, .int .i64 l, .string s]] w
   (doQ O E M ps cs (doL E M ps cs 0 l s) w) := by
 have HEX := Lib.hid ((exB_iff _ _ _ _ _).2 hok)
 have HOK := Lib.hid hok
 have HLX : Hid (lineX O E M ps cs s = lineL ps s) := by unfold Hid lineX; rw [HEX.out]; rfl
 have hcn := hok.calls.count (lines_le hok.calls.sh)
 have hpn := hok.lines.2
 have HPN := Lib.hid hpn
 have HLEN := Lib.hid hok.len
 have HR := Lib.hid hR
 have HNN := Lib.hid hn
 have HL := Lib.hid hL
 have HLI := Lib.hid hl
 have hM := hok.calls.sh.m
 have hEM := hok.en
 obtain ⟨m, rfl⟩ := Int.eq_ofNat_of_zero_le (show 0 ≤ M by omega)
 have HD : Hid (doL E m ps cs 0 l s = if lineL ps s < 0 ∨ lineL ps s = l ∨ 0 ≤ peerL cs l ∨ 0 ≤ peerL cs (lineL ps s) then none else some (ps, moveL E m cs l (lineL ps s))) := by
  unfold Hid doL
  rw [if_neg (by omega), if_pos rfl]
 obtain ⟨_, _, a1, c1, rfl, _⟩ := hR.plan
 obtain ⟨_, _, a2, c2, rfl, _⟩ := hR.calls
 have hbel0 : Below w.heap.size w (((w.alloc (.cells #[.int .i64 O, .int .i64 E, .int .i64 (m : Nat), .slice a1 ps.length c1, .slice a2 cs.length c2] 33)).alloc (.cells #[.int .i64 k, .int .i64 l, .string s] 68)).alloc (.cells #[.int .i64 0, .int .i64 0, .int .i64 0, .slice none 0 0, .slice none 0 0] 33)) := by (exact grownA)
 have hl0 := hl.1
 clear hok hR hn hL hl hM hEM
 go_enter Try.func92, Try.ntmps92
 go_wp2_with fail
 refine (copyExchange_any O E m _ _ ps cs _ (HR.out.below hbel0) HNN.out (by have := HPN.out; omega) (by omega)).mono ?_
 rintro e w2 ⟨vq, vr, rfl, ho2, hb2⟩
 have hst := DoSt.start hb2 ho2
 obtain ⟨aq, cq, rfl⟩ := own_len9 ho2.plan
 obtain ⟨ar, cr, rfl⟩ := own_len9 ho2.calls
 clear hb2 ho2 hbel0
 obtain ⟨b0, b1, b2, b3, b4, -, -, -, -, -, blt⟩ := hst.box.five
 obtain ⟨d0, d1, d2, -, -, -, dlt⟩ := hst.dee.three
 go_wp2_with fail
 refine (iLineOf_any O E m _ _ ps cs s _ (HR.out.below hst.bel) HL.out).mono ?_
 rintro e w3 ⟨rfl, hb3⟩
 rw [HLX.out]
 have hs3 := hst.belowAll hb3
 clear hst hb3 b0 b1 b2 b3 b4 blt d0 d1 d2 dlt
 obtain ⟨lx, hlx⟩ : ∃ z, lineL ps s = z := ⟨_, rfl⟩
 have HLL := Lib.hid hlx
 rw [hlx] at HD
 rw [hlx]
 clear hlx
 obtain ⟨b0, b1, b2, b3, b4, -, -, -, -, -, blt⟩ := hs3.box.five
 obtain ⟨d0, d1, d2, -, -, -, dlt⟩ := hs3.dee.three
 obtain ⟨r0, r1, r2, r3, r4, f0, f1, f2, f3, f4, rlt⟩ := hs3.res.five
 obtain ⟨n0, n1, n2, n3, n4, g0, g1, g2, g3, g4, nlt⟩ := hs3.nxt.five
 by_cases c0 : lx < 0
 ·
  have HN : Hid (doL E m ps cs 0 l s = none) := by unfold Hid; rw [HD.out, if_pos (.inl c0)]
  go_wp2
  obtain ⟨z0, z1, z2, z3, z4, -⟩ := (five_set (y0 := .int .i64 O) (y1 := .int .i64 E) (y2 := .int .i64 (m : Nat)) (y3 := .slice aq ps.length cq) (y4 := .slice ar cs.length cr) hs3.res).five
  refine bodyPost_ret (v := .tuple #[.agg #[.int .i64 O, .int .i64 E, .int .i64 (m : Nat), .slice aq ps.length cq, .slice ar cs.length cr], .bool false]) (by simp [results, Try.results92, go_sem, z0, z1, z2, z3, z4]) rfl ?_
  exact doQ_none HN.out (hs3.back false)
 by_cases c1' : lx = l
 ·
  have HN : Hid (doL E m ps cs 0 l s = none) := by unfold Hid; rw [HD.out, if_pos (.inr (.inl c1'))]
  have hq : ((lx : Int) == l) = true := by simpa using c1'
  clear c1'
  go_wp2
  obtain ⟨z0, z1, z2, z3, z4, -⟩ := (five_set (y0 := .int .i64 O) (y1 := .int .i64 E) (y2 := .int .i64 (m : Nat)) (y3 := .slice aq ps.length cq) (y4 := .slice ar cs.length cr) hs3.res).five
  refine bodyPost_ret (v := .tuple #[.agg #[.int .i64 O, .int .i64 E, .int .i64 (m : Nat), .slice aq ps.length cq, .slice ar cs.length cr], .bool false]) (by simp [results, Try.results92, go_sem, z0, z1, z2, z3, z4]) rfl ?_
  exact doQ_none HN.out (hs3.back false)
 have hq : ((lx : Int) == l) = false := by simpa using c1'
 have hlt : lx < ps.length := by have := line_lt (ps := ps) (s := s) (by rw [HLL.out]; omega); rw [HLL.out] at this; exact this
 have HC1 := Lib.hid c1'
 clear c1'
 go_wp2_with fail
 refine (callOf_any O E m _ _ cs l _ (HR.out.calls.below hs3.bel)).mono ?_
 rintro e w4 ⟨r, rfl, hat, hb4⟩
 have hs4 := hs3.belowAll hb4
 clear hs3 hb4 b0 b1 b2 b3 b4 blt d0 d1 d2 dlt r0 r1 r2 r3 r4 f0 f1 f2 f3 f4 rlt n0 n1 n2 n3 n4 g0 g1 g2 g3 g4 nlt
 obtain ⟨b0, b1, b2, b3, b4, -, -, -, -, -, blt⟩ := hs4.box.five
 obtain ⟨d0, d1, d2, -, -, -, dlt⟩ := hs4.dee.three
 obtain ⟨r0, r1, r2, r3, r4, f0, f1, f2, f3, f4, rlt⟩ := hs4.res.five
 obtain ⟨n0, n1, n2, n3, n4, g0, g1, g2, g3, g4, nlt⟩ := hs4.nxt.five
 rcases hat with ⟨rfl, hf1⟩ | ⟨k1, cc1, rfl, hk1, hf1, hm1⟩
 ·
  have hpl := peer_none hf1
  have HPL := Lib.hid hpl
  have HF1 := Lib.hid hf1
  clear hpl hf1
  go_wp2_with fail
  refine (callOf_any O E m _ _ cs lx _ (HR.out.calls.below hs4.bel)).mono ?_
  rintro e w5 ⟨r, rfl, hat, hb5⟩
  have hs5 := hs4.belowAll hb5
  clear hs4 hb5 b0 b1 b2 b3 b4 blt d0 d1 d2 dlt r0 r1 r2 r3 r4 f0 f1 f2 f3 f4 rlt n0 n1 n2 n3 n4 g0 g1 g2 g3 g4 nlt
  obtain ⟨b0, b1, b2, b3, b4, -, -, -, -, -, blt⟩ := hs5.box.five
  obtain ⟨d0, d1, d2, -, -, -, dlt⟩ := hs5.dee.three
  obtain ⟨r0, r1, r2, r3, r4, f0, f1, f2, f3, f4, rlt⟩ := hs5.res.five
  obtain ⟨n0, n1, n2, n3, n4, g0, g1, g2, g3, g4, nlt⟩ := hs5.nxt.five
  rcases hat with ⟨rfl, hf2⟩ | ⟨k2, cc2, rfl, hk2, hf2, hm2⟩
  ·
   have HPL2 := Lib.hid (peer_none hf2)
   have HF2 := Lib.hid hf2
   have HN : Hid (doL E m ps cs 0 l s = some (ps, moveL E m cs l lx)) := by
    unfold Hid
    rw [HD.out, if_neg]
    rw [HPL.out, HPL2.out]
    have := HC1.out
    simp only [not_or]
    exact ⟨by omega, this, by omega, by omega⟩
   have HFR : Hid (freeB cs l lx) := fun c hc => ⟨(find_free HF1.out c hc).1, (find_free HF2.out c hc).2⟩
   clear hf2
   go_wp2_with fail
   refine (iCallMove_any O E m _ cs l lx _ HOK.out.calls HOK.out.en (HR.out.calls.below hs5.bel) ⟨HLI.out.1, by have h1 := HLI.out.2; have h2 := HLEN.out; omega⟩ ⟨by omega, by have h2 := HLEN.out; omega⟩ HFR.out).mono ?_
   rintro e w6 ⟨v6, rfl, ho6, hb6⟩
   have hs6 := hs5.belowAll hb6
   have hs7 := hs6.calls ho6 hs5.nxt.lt hs5.planLt
   have hbg := hs6.big
   have ne1 : ¬ w.heap.size + 2 = w2.heap.size := by omega
   have ne2 : ¬ w2.heap.size = w.heap.size + 2 := by omega
   have ne3 : w.heap.size + 2 ≠ w2.heap.size := ne1
   have ne4 : w2.heap.size ≠ w.heap.size + 2 := ne2
   obtain ⟨a6, c6, rfl⟩ := own_len9 ho6
   clear hs5 hb6 ho6 b0 b1 b2 b3 b4 blt d0 d1 d2 dlt r0 r1 r2 r3 r4 f0 f1 f2 f3 f4 rlt n0 n1 n2 n3 n4 g0 g1 g2 g3 g4 nlt
   obtain ⟨b0, b1, b2, b3, b4, -, -, -, -, -, blt⟩ := hs6.box.five
   obtain ⟨d0, d1, d2, -, -, -, dlt⟩ := hs6.dee.three
   obtain ⟨r0, r1, r2, r3, r4, f0, f1, f2, f3, f4, rlt⟩ := hs6.res.five
   obtain ⟨n0, n1, n2, n3, n4, g0, g1, g2, g3, g4, nlt⟩ := hs6.nxt.five
   go_wp2
   obtain ⟨z0, z1, z2, z3, z4, -⟩ := (five_set (y0 := .int .i64 O) (y1 := .int .i64 E) (y2 := .int .i64 (m : Nat)) (y3 := .slice aq ps.length cq) (y4 := .slice a6 (moveL E m cs l lx).length c6) hs7.res).five
   refine bodyPost_ret (v := .tuple #[.agg #[.int .i64 O, .int .i64 E, .int .i64 (m : Nat), .slice aq ps.length cq, .slice a6 (moveL E m cs l lx).length c6], .bool true]) (by simp [results, Try.results92, go_sem, z0, z1, z2, z3, z4]) rfl ?_
   exact doQ_some HN.out (hs7.back true)
  ·
   have HN : Hid (doL E m ps cs 0 l s = none) := by
    unfold Hid
    rw [HD.out, if_pos]
    refine .inr (.inr (.inr ?_))
    rcases peer_neg HOK.out.calls lx with ⟨h1, h2⟩ | ⟨c, _, _, _, h3, _⟩
    ·
     rw [hf2] at h2; cases h2
    ·
     exact h3
   have hk0 : (0 : Int) ≤ (k2 : Int) := by omega
   clear hf2 hk2 hm2
   go_wp2
   obtain ⟨z0, z1, z2, z3, z4, -⟩ := (five_set (y0 := .int .i64 O) (y1 := .int .i64 E) (y2 := .int .i64 (m : Nat)) (y3 := .slice aq ps.length cq) (y4 := .slice ar cs.length cr) hs5.res).five
   refine bodyPost_ret (v := .tuple #[.agg #[.int .i64 O, .int .i64 E, .int .i64 (m : Nat), .slice aq ps.length cq, .slice ar cs.length cr], .bool false]) (by simp [results, Try.results92, go_sem, z0, z1, z2, z3, z4]) rfl ?_
   exact doQ_none HN.out (hs5.back false)
 ·
  have HN : Hid (doL E m ps cs 0 l s = none) := by
   unfold Hid
   rw [HD.out, if_pos]
   refine .inr (.inr (.inl ?_))
   rcases peer_neg HOK.out.calls l with ⟨h1, h2⟩ | ⟨c, _, _, _, h3, _⟩
   ·
    rw [hf1] at h2; cases h2
   ·
    exact h3
  have hk0 : (0 : Int) ≤ (k1 : Int) := by omega
  clear hf1 hk1 hm1
  go_wp2
  obtain ⟨z0, z1, z2, z3, z4, -⟩ := (five_set (y0 := .int .i64 O) (y1 := .int .i64 E) (y2 := .int .i64 (m : Nat)) (y3 := .slice aq ps.length cq) (y4 := .slice ar cs.length cr) hs4.res).five
  refine bodyPost_ret (v := .tuple #[.agg #[.int .i64 O, .int .i64 E, .int .i64 (m : Nat), .slice aq ps.length cq, .slice ar cs.length cr], .bool false]) (by simp [results, Try.results92, go_sem, z0, z1, z2, z3, z4]) rfl ?_
  exact doQ_none HN.out (hs4.back false)

theorem empty_of8 {s : ByteArray} (h : s.size = 0) : s = ByteArray.empty := by
 apply bytes_ext
 have : s.data.toList.length = 0 := by simpa using h
 rw [List.length_eq_zero_iff.1 this]; rfl

set_option maxRecDepth 100000 in
set_option maxHeartbeats 8000000 in
theorem doDrop_any (O E M : Int) (vp vc : Value) (ps : List ByteArray) (cs : List Cl) (k l : Int) (s : ByteArray) (w : World) (hok : ExOk O E M ps cs) (hR : ExRd w vp vc ps cs) (hn : SomeV vp ps.length) (hL : StLen ps) (hl : 0 ≤ l ∧ l < ps.length) :
  Calls Try.prog 93 #[.agg #[.int .i64 O, .int .i64 E, .int .i64 M, vp, vc], .agg #[.int .i64 k, .int .i64 l, .string s]] w
   (doQ O E M ps cs (doL E M ps cs 1 l s) w) := by
 have HOK := Lib.hid hok
 have hcn := hok.calls.count (lines_le hok.calls.sh)
 have hpn := hok.lines.2
 have HPN := Lib.hid hpn
 have HLEN := Lib.hid hok.len
 have HR := Lib.hid hR
 have HNN := Lib.hid hn
 have HL := Lib.hid hL
 have HLI := Lib.hid hl
 have HD : Hid (doL E M ps cs 1 l s = if s ≠ ByteArray.empty then none else match cs.find? (hasE l) with | none => none | some c => some (ps, dropL cs c.1)) := by
  unfold Hid doL
  rw [if_neg (by omega), if_neg (by omega), if_pos rfl]
  first | rfl | (split <;> first | rfl | (split <;> rfl))
 obtain ⟨_, _, a1, c1, rfl, _⟩ := hR.plan
 obtain ⟨_, _, a2, c2, rfl, hn2, hc2⟩ := hR.calls
 have HC2 := Lib.hid hc2
 have hbel0 : Below w.heap.size w (((w.alloc (.cells #[.int .i64 O, .int .i64 E, .int .i64 M, .slice a1 ps.length c1, .slice a2 cs.length c2] 33)).alloc (.cells #[.int .i64 k, .int .i64 l, .string s] 68)).alloc (.cells #[.int .i64 0, .int .i64 0, .int .i64 0, .slice none 0 0, .slice none 0 0] 33)) := by (exact grownA)
 have hl0 := hl.1
 clear hok hR hn hL hl hc2
 go_enter Try.func93, Try.ntmps93
 go_wp2_with fail
 refine (copyExchange_any O E M _ _ ps cs _ (HR.out.below hbel0) HNN.out (by have := HPN.out; omega) (by omega)).mono ?_
 rintro e w2 ⟨vq, vr, rfl, ho2, hb2⟩
 have hst := DoSt.start hb2 ho2
 obtain ⟨aq, cq, rfl⟩ := own_len9 ho2.plan
 obtain ⟨ar, cr, rfl⟩ := own_len9 ho2.calls
 clear hb2 ho2 hbel0
 obtain ⟨b0, b1, b2, b3, b4, -, -, -, -, -, blt⟩ := hst.box.five
 obtain ⟨d0, d1, d2, -, -, -, dlt⟩ := hst.dee.three
 go_wp2_with fail
 refine (callOf_any O E M _ _ cs l _ (HR.out.calls.below hst.bel)).mono ?_
 rintro e w3 ⟨r, rfl, hat, hb3⟩
 have hs3 := hst.belowAll hb3
 clear hst hb3 b0 b1 b2 b3 b4 blt d0 d1 d2 dlt
 obtain ⟨b0, b1, b2, b3, b4, -, -, -, -, -, blt⟩ := hs3.box.five
 obtain ⟨d0, d1, d2, -, -, -, dlt⟩ := hs3.dee.three
 obtain ⟨r0, r1, r2, r3, r4, f0, f1, f2, f3, f4, rlt⟩ := hs3.res.five
 obtain ⟨n0, n1, n2, n3, n4, g0, g1, g2, g3, g4, nlt⟩ := hs3.nxt.five
 by_cases hse : s.size = 0
 ·
  obtain rfl := empty_of8 hse
  rw [show (ByteArray.empty : ByteArray) = ⟨#[]⟩ from rfl] at *
  clear hse
  rcases hat with ⟨rfl, hf1⟩ | ⟨k1, cc1, rfl, hk1, hf1, hm1⟩
  ·
   have HN : Hid (doL E M ps cs 1 l ⟨#[]⟩ = none) := by
    unfold Hid
    rw [HD.out, if_neg (fun h => h rfl), hf1]
   clear hf1
   go_wp2
   obtain ⟨z0, z1, z2, z3, z4, -⟩ := (five_set (y0 := .int .i64 O) (y1 := .int .i64 E) (y2 := .int .i64 M) (y3 := .slice aq ps.length cq) (y4 := .slice ar cs.length cr) hs3.res).five
   refine bodyPost_ret (v := .tuple #[.agg #[.int .i64 O, .int .i64 E, .int .i64 M, .slice aq ps.length cq, .slice ar cs.length cr], .bool false]) (by simp [results, Try.results93, go_sem, z0, z1, z2, z3, z4]) rfl ?_
   exact doQ_none HN.out (hs3.back false)
  ·
   have HN : Hid (doL E M ps cs 1 l ⟨#[]⟩ = some (ps, dropL cs cc1.1)) := by
    unfold Hid
    rw [HD.out, if_neg (fun h => h rfl), hf1]
   have hk0 : (0 : Int) ≤ (k1 : Int) := by omega
   have hk9 : ¬ (k1 : Int) < 0 := by omega
   have hkl := (List.getElem?_eq_some_iff.1 hk1).1
   have hk2 : (k1 : Int) < (cs.length : Int) := by omega
   rcases HC2.out with hc2 | ⟨b, off, rfl, hb, hc2⟩
   ·
    omega
   obtain ⟨e1, e2, e3⟩ := cl_get (cl_below hs3.bel hb hc2) hk1 hkl
   have hbg := hs3.big
   have ne1 : ¬ w.heap.size + 2 = w2.heap.size := by omega
   have ne2 : ¬ w2.heap.size = w.heap.size + 2 := by omega
   have ne3 : w.heap.size + 2 ≠ w2.heap.size := ne1
   have ne4 : w2.heap.size ≠ w.heap.size + 2 := ne2
   have ne5 : w.heap.size ≠ w2.heap.size := by omega
   have ne6 : b ≠ w2.heap.size := by omega
   obtain ⟨xc, hxc⟩ : ∃ z, cc1.1 = z := ⟨_, rfl⟩
   rw [hxc] at e1 HN
   clear hf1 hk1 hm1 hc2 hxc
   go_wp2_with fail
   refine wp_region_held_drew (S := fun w' => w'.cell? ⟨w.heap.size, 0, none⟩ = some (.int .i64 O) ∧ w'.cell? ⟨w.heap.size, 1, none⟩ = some (.int .i64 E) ∧ w'.cell? ⟨w.heap.size, 2, none⟩ = some (.int .i64 M) ∧ w'.cell? ⟨w.heap.size, 4, none⟩ = some (.slice (some ⟨b, off, none⟩) cs.length c2) ∧ w'.cell? ⟨b, off + k1 * 3, none⟩ = some (.int .i64 xc)) (by kernel_rfl) (by (try dsimp only); (exact keepA)) (fun hHeld => ?_)
   refine take_y 0 23 (v := ?_) rfl ?_ ?_; rotate_left; focus (intro w hSw; (try dsimp only at hSw); go_simp; (try rw [if_neg (by omega)]); (try with_reducible rfl))
   try simp only [Act.put, zp1, zp2, zp3]
   refine take_y 1 24 (v := ?_) rfl ?_ ?_; rotate_left; focus (intro w hSw; (try dsimp only at hSw); go_simp; (try rw [if_neg (by omega)]); (try with_reducible rfl))
   try simp only [Act.put, zp1, zp2, zp3]
   refine take_y 2 25 (v := ?_) rfl ?_ ?_; rotate_left; focus (intro w hSw; (try dsimp only at hSw); go_simp; (try rw [if_neg (by omega)]); (try with_reducible rfl))
   try simp only [Act.put, zp1, zp2, zp3]
   refine take_y 3 26 (v := ?_) rfl ?_ ?_; rotate_left; focus (intro w hSw; (try dsimp only at hSw); go_simp; (try rw [if_neg (by omega)]); (try with_reducible rfl))
   try simp only [Act.put, zp1, zp2, zp3]
   refine take_y 4 27 (v := ?_) rfl ?_ ?_; rotate_left; focus (intro w hSw; (try dsimp only at hSw); go_simp; (try rw [if_neg (by omega)]); (try with_reducible rfl))
   try simp only [Act.put, zp1, zp2, zp3]
   refine take_y 5 28 (v := ?_) rfl ?_ ?_; rotate_left; focus (intro w hSw; (try dsimp only at hSw); go_simp; (try rw [if_neg (by omega)]); (try with_reducible rfl))
   try simp only [Act.put, zp1, zp2, zp3]
   refine take_y 6 29 (v := ?_) rfl ?_ ?_; rotate_left; focus (intro w hSw; (try dsimp only at hSw); go_simp; (try rw [if_neg (by omega)]); (try with_reducible rfl))
   try simp only [Act.put, zp1, zp2, zp3]
   refine take_y 7 30 (v := ?_) rfl ?_ ?_; rotate_left; focus (intro w hSw; (try dsimp only at hSw); go_simp; (try rw [if_neg (by omega)]); (try with_reducible rfl))
   try simp only [Act.put, zp1, zp2, zp3]
   refine take_y 8 31 (v := ?_) rfl ?_ ?_; rotate_left; focus (intro w hSw; (try dsimp only at hSw); go_simp; (try rw [if_neg (by omega)]); (try with_reducible rfl))
   try simp only [Act.put, zp1, zp2, zp3]
   refine take_y 9 32 (v := ?_) rfl ?_ ?_; rotate_left; focus (intro w hSw; (try dsimp only at hSw); go_simp; (try rw [if_neg (by omega)]); (try with_reducible rfl))
   try simp only [Act.put, zp1, zp2, zp3]
   refine wpAnyH_ready (rs := [10]) (by kernel_rfl) (by simp) ?_
   refine AllReadyH.cons rfl (fun K hK => ?_) AllReadyH.nil
   go_simp
   refine (iCallDrop_any O E M _ cs xc _ HOK.out.calls ((HR.out.calls.below hs3.bel).drewN 1)).mono ?_
   rintro e w4 ⟨v4, rfl, ho4, hb4⟩
   refine hK.out _ _ againA (fun hHeld2 => ?_); clear hHeld hK K; have hHeld := hHeld2; clear hHeld2; (try simp only [Act.put, zp1, zp2, zp3])
   have hs4 := hs3.drew.belowAll hb4
   have hs5 := hs4.calls ho4 hs3.nxt.lt hs3.planLt
   obtain ⟨a4, c4, rfl⟩ := own_len9 ho4
   clear hs3 hb4 ho4 b0 b1 b2 b3 b4 blt d0 d1 d2 dlt r0 r1 r2 r3 r4 f0 f1 f2 f3 f4 rlt n0 n1 n2 n3 n4 g0 g1 g2 g3 g4 nlt
   obtain ⟨b0, b1, b2, b3, b4, -, -, -, -, -, blt⟩ := hs4.box.five
   obtain ⟨d0, d1, d2, -, -, -, dlt⟩ := hs4.dee.three
   obtain ⟨r0, r1, r2, r3, r4, f0, f1, f2, f3, f4, rlt⟩ := hs4.res.five
   obtain ⟨n0, n1, n2, n3, n4, g0, g1, g2, g3, g4, nlt⟩ := hs4.nxt.five
   refine take_y 11 22 (v := ?_) rfl ?_ ?_; rotate_left; focus (intro w hSw; (try dsimp only at hSw); go_simp; (try rw [if_neg (by omega)]); (try with_reducible rfl))
   try simp only [Act.put, zp1, zp2, zp3]
   refine take_y 12 34 (v := ?_) rfl ?_ ?_; rotate_left; focus (intro w hSw; (try dsimp only at hSw); go_simp; (try rw [if_neg (by omega)]); (try with_reducible rfl))
   try simp only [Act.put, zp1, zp2, zp3]
   refine take_y 13 35 (v := ?_) rfl ?_ ?_; rotate_left; focus (intro w hSw; (try dsimp only at hSw); go_simp; (try rw [if_neg (by omega)]); (try with_reducible rfl))
   try simp only [Act.put, zp1, zp2, zp3]
   refine take_y 14 36 (v := ?_) rfl ?_ ?_; rotate_left; focus (intro w hSw; (try dsimp only at hSw); go_simp; (try rw [if_neg (by omega)]); (try with_reducible rfl))
   try simp only [Act.put, zp1, zp2, zp3]
   refine wpAnyH_ready (rs := [15]) (by kernel_rfl) (by simp) ?_
   refine AllReadyH.cons rfl (fun K hK => ?_) AllReadyH.nil
   go_simp
   refine hK.out _ _ againA (fun hHeld2 => ?_); clear hHeld hK K; have hHeld := hHeld2; clear hHeld2; (try simp only [Act.put, zp1, zp2, zp3])
   refine wpAnyH_done (by kernel_rfl) ?_ _
   clear hHeld
   go_wp2
   obtain ⟨z0, z1, z2, z3, z4, -⟩ := (five_set (y0 := .int .i64 O) (y1 := .int .i64 E) (y2 := .int .i64 M) (y3 := .slice aq ps.length cq) (y4 := .slice a4 (dropL cs xc).length c4) hs5.res).five
   refine bodyPost_ret (v := .tuple #[.agg #[.int .i64 O, .int .i64 E, .int .i64 M, .slice aq ps.length cq, .slice a4 (dropL cs xc).length c4], .bool true]) (by simp [results, Try.results93, go_sem, z0, z1, z2, z3, z4]) rfl ?_
   exact doQ_some HN.out (hs5.back true)
 ·
  have HN : Hid (doL E M ps cs 1 l s = none) := by
   unfold Hid
   rw [HD.out, if_pos (fun h => hse (by rw [h]; rfl))]
  have hs1 : s.toList ≠ [] := by
   intro e
   rw [ByteArray.toList_eq] at e
   exact hse (by have := congrArg List.length e; simpa using this)
  have hs2 : (s.toList != []) = true := by simpa using hs1
  clear hse hat
  go_wp2
  obtain ⟨z0, z1, z2, z3, z4, -⟩ := (five_set (y0 := .int .i64 O) (y1 := .int .i64 E) (y2 := .int .i64 M) (y3 := .slice aq ps.length cq) (y4 := .slice ar cs.length cr) hs3.res).five
  refine bodyPost_ret (v := .tuple #[.agg #[.int .i64 O, .int .i64 E, .int .i64 M, .slice aq ps.length cq, .slice ar cs.length cr], .bool false]) (by simp [results, Try.results93, go_sem, z0, z1, z2, z3, z4]) rfl ?_
  exact doQ_none HN.out (hs3.back false)


end Go.Proofs.Ytedadhoneebfnaa
