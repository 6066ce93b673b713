/- Contract of ExDo (reference). -/
import Derived.Test.YtedadhoneebfnaaDoorJ11
import Derived.Test.YtedadhoneebfnaaDoorCw
set_option linter.unusedSimpArgs false
set_option linter.unusedVariables false
namespace Go.Proofs.YtedadhoneebfnaaDoor
open Go.RowKit

theorem DoSt.start2 {w w1 w2 : World} {O E M : Int} {vp vc vq vr : Value} {k l : Int} {s : ByteArray} {ps : List ByteArray} {cs : List Cl} (hb1 : Below w.heap.size w w1)
  (hB : Blk w1 w.heap.size #[.int .i64 O, .int .i64 E, .int .i64 M, vp, vc] 74) (hD : Blk w1 (w.heap.size + 1) #[.int .i64 k, .int .i64 l, .string s] 26) (hZ : Blk w1 (w.heap.size + 2) #[.int .i64 0, .int .i64 0, .int .i64 0, .slice none 0 0, .slice none 0 0] 74)
  (hb : Below w1.heap.size w1 w2) (ho : ExOwn w2 w1.heap.size vq vr ps cs) :
  DoSt w (w2.alloc (.cells #[.int .i64 O, .int .i64 E, .int .i64 M, vq, vr] 74)) O E M vp vc k l s w2.heap.size vq vr ps cs := by
 have h3 : w.heap.size + 3 ≤ w1.heap.size := hZ.lt
 have hsz := hb.size
 have hne : ∀ {v : Value} {n : Nat} {E : TypeId} {size : Nat} {xs : List Value}, w2.ownsRow w1.heap.size E size v n xs → v.ownBlock = none ∨ v.ownBlock ≠ some w2.heap.size := by
  intro v n E size xs h
  cases hv : v.ownBlock with
  | none => exact .inl rfl
  | some j => exact .inr (fun e => by have := own_lt h j hv; cases e; omega)
 have hzb := hb1.size
 exact ⟨(hb1.trans (Below.mono hb hb1.size)).alloc (by omega) _, (hB.belowAll hb).alloc _, (hD.belowAll hb).alloc _, (hZ.belowAll hb).alloc _, Blk.new rfl, (ho.lower h3).below (by (exact grownA)), hne ho.plan, hne ho.calls, by omega⟩

set_option maxRecDepth 100000 in
set_option maxHeartbeats 40000000 in
theorem sExDo_any (O E M : Int) (vp vc : Value) (ps : List ByteArray) (cs : List Cl) (k l : Int) (s : ByteArray) (w : World) (hR : ExRd w vp vc ps cs) (hn : SomeV vp ps.length) (hL : StLen ps) (hs : s.size ≤ maxLen) :
  Calls Tryd.prog 59 #[.agg #[.int .i64 O, .int .i64 E, .int .i64 M, vp, vc], .agg #[.int .i64 k, .int .i64 l, .string s]] w (doXQ O E M ps cs k l s w) := by
 have hB := ((Blk.new (w := w) (cs := #[.int .i64 O, .int .i64 E, .int .i64 M, vp, vc]) (T := 74) rfl).alloc (.cells #[.int .i64 k, .int .i64 l, .string s] 26)).alloc (.cells #[.int .i64 0, .int .i64 0, .int .i64 0, .slice none 0 0, .slice none 0 0] 74)
 have hD := (Blk.new (w := w.alloc (.cells #[.int .i64 O, .int .i64 E, .int .i64 M, vp, vc] 74)) (cs := #[.int .i64 k, .int .i64 l, .string s]) (T := 26) (b := w.heap.size + 1) (by simp)).alloc (.cells #[.int .i64 0, .int .i64 0, .int .i64 0, .slice none 0 0, .slice none 0 0] 74)
 have hZ := Blk.new (w := (w.alloc (.cells #[.int .i64 O, .int .i64 E, .int .i64 M, vp, vc] 74)).alloc (.cells #[.int .i64 k, .int .i64 l, .string s] 26)) (cs := #[.int .i64 0, .int .i64 0, .int .i64 0, .slice none 0 0, .slice none 0 0]) (T := 74) (b := w.heap.size + 2) (by simp)
 have hbel0 : Below w.heap.size w (((w.alloc (.cells #[.int .i64 O, .int .i64 E, .int .i64 M, vp, vc] 74)).alloc (.cells #[.int .i64 k, .int .i64 l, .string s] 26)).alloc (.cells #[.int .i64 0, .int .i64 0, .int .i64 0, .slice none 0 0, .slice none 0 0] 74)) := by (exact grownA)
 have HR := Lib.hid hR
 have HNN := Lib.hid hn
 have HL := Lib.hid hL
 have HS := Lib.hid hs
 obtain ⟨hp1, hp2, a1, c1, rfl, _⟩ := hR.plan
 obtain ⟨_, _, a2, c2, rfl, _⟩ := hR.calls
 unfold maxLen at hp2
 obtain ⟨b0, b1, b2, b3, b4, -, -, -, -, -, blt⟩ := hB.five
 obtain ⟨d0, d1, d2, -, -, -, dlt⟩ := hD.three
 clear hR hn hL hs hp1
 go_enter Tryd.func59, Tryd.ntmps59
 go_wp2_with fail
 refine (sExchangeValid_any O E M _ _ ps cs _ (HR.out.below hbel0) HL.out).mono ?_
 rintro e w1 ⟨rfl, hb1⟩
 have hbel1 : Below w.heap.size w w1 := by (exact grownA)
 have hB1 := hB.belowAll hb1
 have hD1 := hD.belowAll hb1
 have hZ1 := hZ.belowAll hb1
 clear hB hD hZ hb1 hbel0 b0 b1 b2 b3 b4 blt d0 d1 d2 dlt
 obtain ⟨b0, b1, b2, b3, b4, -, -, -, -, -, blt⟩ := hB1.five
 obtain ⟨d0, d1, d2, -, -, -, dlt⟩ := hD1.three
 obtain ⟨r0, r1, r2, r3, r4, f0, f1, f2, f3, f4, rlt⟩ := hZ1.five
 obtain ⟨d, hd⟩ : ∃ d, exB O E M ps cs = d := ⟨_, rfl⟩
 have HD := Lib.hid hd
 rw [hd]
 clear hd
 cases d
 ·
  (try simp only []); repeat first | go_values | go_skip | go_guarded | go_step | go_upon
  obtain ⟨z0, z1, z2, z3, z4, -⟩ := (five_set (y0 := .int .i64 0) (y1 := .int .i64 0) (y2 := .int .i64 0) (y3 := .slice none 0 0) (y4 := .slice none 0 0) hZ1).five
  refine bodyPost_ret (v := .tuple #[.agg #[.int .i64 0, .int .i64 0, .int .i64 0, .slice none 0 0, .slice none 0 0], .bool false]) (by simp [results, Tryd.results59, go_sem, z0, z1, z2, z3, z4, r0, r1, r2, r3, r4]) rfl ?_
  exact doXQ_no HD.out ⟨_, _, rfl, ExOwn.nothing _ _, five_below _ _ _ _ _ hbel1 (by omega)⟩
 have HOK := Lib.hid ((exB_iff _ _ _ _ _).1 HD.out)
 have hcn := HOK.out.calls.count (lines_le HOK.out.calls.sh)
 have hpn := HOK.out.lines.2
 have hM := HOK.out.calls.sh.m
 have hEM := HOK.out.en
 have HLEN := Lib.hid HOK.out.len
 have HNX : Hid (∀ x, peerX O E M ps cs x = peerL cs x) := by intro x; unfold peerX; rw [HD.out]; rfl
 have HLX : Hid (lineX O E M ps cs s = lineL ps s) := by unfold Hid lineX; rw [HD.out]; rfl
 obtain ⟨m, rfl⟩ := Int.eq_ofNat_of_zero_le (show 0 ≤ M by omega)
 go_wp2_with fail
 refine (l8Copy_any O E m _ _ ps cs _ (HR.out.below hbel1) (by omega) (by omega)).mono ?_
 rintro e w2 ⟨vq, vr, rfl, ho2, hb2⟩
 have hst := DoSt.start2 hbel1 hB1 hD1 hZ1 hb2 ho2
 obtain ⟨aq, cq, rfl⟩ := own_len9 ho2.plan
 obtain ⟨ar, cr, rfl⟩ := own_len9 ho2.calls
 clear hb2 ho2 hB1 hD1 hZ1 r0 r1 r2 r3 r4 f0 f1 f2 f3 f4 rlt b0 b1 b2 b3 b4 blt d0 d1 d2 dlt
 obtain ⟨b0, b1, b2, b3, b4, -, -, -, -, -, blt⟩ := hst.box.five
 obtain ⟨d0, d1, d2, -, -, -, dlt⟩ := hst.dee.three
 obtain ⟨r0, r1, r2, r3, r4, f0, f1, f2, f3, f4, rlt⟩ := hst.res.five
 obtain ⟨n0, n1, n2, n3, n4, g0, g1, g2, g3, g4, nlt⟩ := hst.nxt.five
 go_wp2_with fail
 refine (sIn_any _ _ _ _).mono ?_
 rintro e w3 ⟨rfl, rfl⟩
 by_cases hl0 : l < 0 ∨ (ps.length : Int) ≤ l
 ·
  have HN : Hid (doL E m ps cs k l s = none) := by unfold Hid doL; rw [if_pos hl0]
  rw [show (decide ((0 : Int) ≤ l) && decide (l ≤ (ps.length : Int) - 1)) = false by simp; omega]
  clear hl0
  (try simp only []); repeat first | go_values | go_skip | go_guarded | go_step | go_upon
  obtain ⟨z0, z1, z2, z3, z4, -⟩ := (five_set (y0 := .int .i64 O) (y1 := .int .i64 E) (y2 := .int .i64 (m : Nat)) (y3 := .slice aq ps.length cq) (y4 := .slice ar cs.length cr) hst.res).five
  refine bodyPost_ret (v := .tuple #[.agg #[.int .i64 O, .int .i64 E, .int .i64 (m : Nat), .slice aq ps.length cq, .slice ar cs.length cr], .bool false]) (by simp [results, Tryd.results59, go_sem, z0, z1, z2, z3, z4]) rfl ?_
  exact doXQ_yes HD.out (doQ_none HN.out (hst.back false))
 rw [show (decide ((0 : Int) ≤ l) && decide (l ≤ (ps.length : Int) - 1)) = true by simp; omega]
 have hla : 0 ≤ l := by omega
 have hlb : l < ps.length := by omega
 clear hl0
 go_wp2_with fail
 refine (sPeerOf_any O E m _ _ ps cs l _ (HR.out.below hst.bel) HL.out).mono ?_
 rintro e w4 ⟨rfl, hb4⟩
 rw [HNX.out]
 have hs4 := hst.belowAll hb4
 obtain ⟨pl, hpl⟩ : ∃ z, peerL cs l = z := ⟨_, rfl⟩
 have HPL := Lib.hid hpl
 rw [hpl]
 clear hst hb4 hpl
 clear b0 b1 b2 b3 b4 blt d0 d1 d2 dlt r0 r1 r2 r3 r4 f0 f1 f2 f3 f4 rlt n0 n1 n2 n3 n4 g0 g1 g2 g3 g4 nlt
 obtain ⟨b0, b1, b2, b3, b4, -, -, -, -, -, blt⟩ := hs4.box.five
 obtain ⟨d0, d1, d2, -, -, -, dlt⟩ := hs4.dee.three
 obtain ⟨r0, r1, r2, r3, r4, f0, f1, f2, f3, f4, rlt⟩ := hs4.res.five
 obtain ⟨n0, n1, n2, n3, n4, g0, g1, g2, g3, g4, nlt⟩ := hs4.nxt.five
 by_cases hk0 : k = 0
 ·
  subst hk0
  have HD0 : Hid (doL E m ps cs 0 l s = if lineL ps s < 0 ∨ lineL ps s = l ∨ 0 ≤ peerL cs l ∨ 0 ≤ peerL cs (lineL ps s) then none else some (ps, moveL E m cs l (lineL ps s))) := by
   unfold Hid doL
   rw [if_neg (by omega), if_pos rfl]
  go_wp2_with fail
  refine (sLineOf_any O E m _ _ ps cs s _ (HR.out.below hs4.bel) HL.out).mono ?_
  rintro e w5 ⟨rfl, hb5⟩
  rw [HLX.out]
  have hs5 := hs4.belowAll hb5
  obtain ⟨lx, hlx⟩ : ∃ z, lineL ps s = z := ⟨_, rfl⟩
  have HLL := Lib.hid hlx
  rw [hlx] at HD0
  rw [hlx]
  clear hlx hs4 hb5
  clear b0 b1 b2 b3 b4 blt d0 d1 d2 dlt r0 r1 r2 r3 r4 f0 f1 f2 f3 f4 rlt n0 n1 n2 n3 n4 g0 g1 g2 g3 g4 nlt
  obtain ⟨b0, b1, b2, b3, b4, -, -, -, -, -, blt⟩ := hs5.box.five
  obtain ⟨d0, d1, d2, -, -, -, dlt⟩ := hs5.dee.three
  obtain ⟨r0, r1, r2, r3, r4, f0, f1, f2, f3, f4, rlt⟩ := hs5.res.five
  obtain ⟨n0, n1, n2, n3, n4, g0, g1, g2, g3, g4, nlt⟩ := hs5.nxt.five
  by_cases c0 : lx < 0
  ·
   have HN : Hid (doL E m ps cs 0 l s = none) := by unfold Hid; rw [HD0.out, if_pos (.inl c0)]
   (try simp only []); repeat first | go_values | go_skip | go_guarded | go_step | go_upon
   obtain ⟨z0, z1, z2, z3, z4, -⟩ := (five_set (y0 := .int .i64 O) (y1 := .int .i64 E) (y2 := .int .i64 (m : Nat)) (y3 := .slice aq ps.length cq) (y4 := .slice ar cs.length cr) hs5.res).five
   refine bodyPost_ret (v := .tuple #[.agg #[.int .i64 O, .int .i64 E, .int .i64 (m : Nat), .slice aq ps.length cq, .slice ar cs.length cr], .bool false]) (by simp [results, Tryd.results59, go_sem, z0, z1, z2, z3, z4]) rfl ?_
   exact doXQ_yes HD.out (doQ_none HN.out (hs5.back false))
  by_cases c1' : lx = l
  ·
   have HN : Hid (doL E m ps cs 0 l s = none) := by unfold Hid; rw [HD0.out, if_pos (.inr (.inl c1'))]
   have hq : ((lx : Int) == l) = true := by simpa using c1'
   clear c1'
   (try simp only []); repeat first | go_values | go_skip | go_guarded | go_step | go_upon
   obtain ⟨z0, z1, z2, z3, z4, -⟩ := (five_set (y0 := .int .i64 O) (y1 := .int .i64 E) (y2 := .int .i64 (m : Nat)) (y3 := .slice aq ps.length cq) (y4 := .slice ar cs.length cr) hs5.res).five
   refine bodyPost_ret (v := .tuple #[.agg #[.int .i64 O, .int .i64 E, .int .i64 (m : Nat), .slice aq ps.length cq, .slice ar cs.length cr], .bool false]) (by simp [results, Tryd.results59, go_sem, z0, z1, z2, z3, z4]) rfl ?_
   exact doXQ_yes HD.out (doQ_none HN.out (hs5.back false))
  have hq : ((lx : Int) == l) = false := by simpa using c1'
  have hlt : lx < ps.length := by have := line_lt (ps := ps) (s := s) (by rw [HLL.out]; omega); rw [HLL.out] at this; exact this
  have HC1 := Lib.hid c1'
  clear c1'
  by_cases c2' : 0 ≤ pl
  ·
   have HN : Hid (doL E m ps cs 0 l s = none) := by unfold Hid; rw [HD0.out, HPL.out, if_pos (.inr (.inr (.inl c2')))]
   (try simp only []); repeat first | go_values | go_skip | go_guarded | go_step | go_upon
   obtain ⟨z0, z1, z2, z3, z4, -⟩ := (five_set (y0 := .int .i64 O) (y1 := .int .i64 E) (y2 := .int .i64 (m : Nat)) (y3 := .slice aq ps.length cq) (y4 := .slice ar cs.length cr) hs5.res).five
   refine bodyPost_ret (v := .tuple #[.agg #[.int .i64 O, .int .i64 E, .int .i64 (m : Nat), .slice aq ps.length cq, .slice ar cs.length cr], .bool false]) (by simp [results, Tryd.results59, go_sem, z0, z1, z2, z3, z4]) rfl ?_
   exact doXQ_yes HD.out (doQ_none HN.out (hs5.back false))
  go_wp2_with fail
  refine (sPeerOf_any O E m _ _ ps cs lx _ (HR.out.below hs5.bel) HL.out).mono ?_
  rintro e w6 ⟨rfl, hb6⟩
  rw [HNX.out]
  have hs6 := hs5.belowAll hb6
  obtain ⟨pl2, hpl2⟩ : ∃ z, peerL cs lx = z := ⟨_, rfl⟩
  have HPL2 := Lib.hid hpl2
  rw [hpl2]
  clear hpl2 hs5 hb6
  clear b0 b1 b2 b3 b4 blt d0 d1 d2 dlt r0 r1 r2 r3 r4 f0 f1 f2 f3 f4 rlt n0 n1 n2 n3 n4 g0 g1 g2 g3 g4 nlt
  obtain ⟨b0, b1, b2, b3, b4, -, -, -, -, -, blt⟩ := hs6.box.five
  obtain ⟨d0, d1, d2, -, -, -, dlt⟩ := hs6.dee.three
  obtain ⟨r0, r1, r2, r3, r4, f0, f1, f2, f3, f4, rlt⟩ := hs6.res.five
  obtain ⟨n0, n1, n2, n3, n4, g0, g1, g2, g3, g4, nlt⟩ := hs6.nxt.five
  by_cases c3 : 0 ≤ pl2
  ·
   have HN : Hid (doL E m ps cs 0 l s = none) := by unfold Hid; rw [HD0.out, HPL2.out, if_pos (.inr (.inr (.inr c3)))]
   (try simp only []); repeat first | go_values | go_skip | go_guarded | go_step | go_upon
   obtain ⟨z0, z1, z2, z3, z4, -⟩ := (five_set (y0 := .int .i64 O) (y1 := .int .i64 E) (y2 := .int .i64 (m : Nat)) (y3 := .slice aq ps.length cq) (y4 := .slice ar cs.length cr) hs6.res).five
   refine bodyPost_ret (v := .tuple #[.agg #[.int .i64 O, .int .i64 E, .int .i64 (m : Nat), .slice aq ps.length cq, .slice ar cs.length cr], .bool false]) (by simp [results, Tryd.results59, go_sem, z0, z1, z2, z3, z4]) rfl ?_
   exact doXQ_yes HD.out (doQ_none HN.out (hs6.back false))
  have HN : Hid (doL E m ps cs 0 l s = some (ps, moveL E m cs l lx)) := by
   unfold Hid
   rw [HD0.out, if_neg]
   rw [HPL.out, HPL2.out]
   have := HC1.out
   simp only [not_or]
   exact ⟨by omega, this, by omega, by omega⟩
  have HFR : Hid (freeB cs l lx) := fun c hc => ⟨(find_free (free_of ⟨O, E, m, HOK.out.calls⟩ (by rw [HPL.out]; omega)) c hc).1, (find_free (free_of ⟨O, E, m, HOK.out.calls⟩ (by rw [HPL2.out]; omega)) c hc).2⟩
  go_wp2_with fail
  refine (sCallMove_any O E m _ cs l lx _ HOK.out.calls HOK.out.en (HR.out.calls.below hs6.bel) ⟨by omega, by have h2 := HLEN.out; omega⟩ ⟨by omega, by have h2 := HLEN.out; omega⟩ HFR.out).mono ?_
  rintro e w7 ⟨v7, rfl, ho7, hb7⟩
  have hs7 := hs6.belowAll hb7
  have hs8 := hs7.calls ho7 hs6.nxt.lt hs6.planLt
  have hbg := hs7.big
  have ne1 : ¬ w.heap.size + 2 = w2.heap.size := by omega
  have ne2 : ¬ w2.heap.size = w.heap.size + 2 := by omega
  have ne3 : w.heap.size + 2 ≠ w2.heap.size := ne1
  have ne4 : w2.heap.size ≠ w.heap.size + 2 := ne2
  obtain ⟨a7, c7, rfl⟩ := own_len9 ho7
  clear hs6 hb7 ho7
  clear b0 b1 b2 b3 b4 blt d0 d1 d2 dlt r0 r1 r2 r3 r4 f0 f1 f2 f3 f4 rlt n0 n1 n2 n3 n4 g0 g1 g2 g3 g4 nlt
  obtain ⟨b0, b1, b2, b3, b4, -, -, -, -, -, blt⟩ := hs7.box.five
  obtain ⟨d0, d1, d2, -, -, -, dlt⟩ := hs7.dee.three
  obtain ⟨r0, r1, r2, r3, r4, f0, f1, f2, f3, f4, rlt⟩ := hs7.res.five
  obtain ⟨n0, n1, n2, n3, n4, g0, g1, g2, g3, g4, nlt⟩ := hs7.nxt.five
  (try simp only []); repeat first | go_values | go_skip | go_guarded | go_step | go_upon
  obtain ⟨z0, z1, z2, z3, z4, -⟩ := (five_set (y0 := .int .i64 O) (y1 := .int .i64 E) (y2 := .int .i64 (m : Nat)) (y3 := .slice aq ps.length cq) (y4 := .slice a7 (moveL E m cs l lx).length c7) hs8.res).five
  refine bodyPost_ret (v := .tuple #[.agg #[.int .i64 O, .int .i64 E, .int .i64 (m : Nat), .slice aq ps.length cq, .slice a7 (moveL E m cs l lx).length c7], .bool true]) (by simp [results, Tryd.results59, go_sem, z0, z1, z2, z3, z4]) rfl ?_
  exact doXQ_yes HD.out (doQ_some HN.out (hs8.back true))
 have hq0 : ((k : Int) == 0) = false := by simpa using hk0
 by_cases hk1 : k = 1
 ·
  subst hk1
  have HD1 : Hid (doL E m ps cs 1 l s = if s ≠ ByteArray.empty then none else match cs.find? (hasE l) with | none => none | some c => some (ps, dropL cs c.1)) := by
   unfold Hid doL
   rw [if_neg (by omega), if_neg (by omega), if_pos rfl]
   first | rfl | (split <;> first | rfl | (split <;> rfl))
  rcases peer_neg HOK.out.calls l with ⟨e1, hf1⟩ | ⟨c, hf1, hm1, hc1, hp0, hp1⟩
  ·
   have HN : Hid (doL E m ps cs 1 l s = none) := by
    unfold Hid; rw [HD1.out, hf1]; split <;> rfl
   have hplz : pl < 0 := by rw [← HPL.out, e1]; omega
   clear hf1 e1
   (try simp only []); repeat first | go_values | go_skip | go_guarded | go_step | go_upon
   obtain ⟨z0, z1, z2, z3, z4, -⟩ := (five_set (y0 := .int .i64 O) (y1 := .int .i64 E) (y2 := .int .i64 (m : Nat)) (y3 := .slice aq ps.length cq) (y4 := .slice ar cs.length cr) hs4.res).five
   refine bodyPost_ret (v := .tuple #[.agg #[.int .i64 O, .int .i64 E, .int .i64 (m : Nat), .slice aq ps.length cq, .slice ar cs.length cr], .bool false]) (by simp [results, Tryd.results59, go_sem, z0, z1, z2, z3, z4]) rfl ?_
   exact doXQ_yes HD.out (doQ_none HN.out (hs4.back false))
  ·
   rw [HPL.out] at hc1 hp0 hp1
   have hplz : ¬ pl < 0 := by omega
   by_cases hse : s.size = 0
   ·
    obtain rfl := empty_of8 hse
    rw [show (ByteArray.empty : ByteArray) = ⟨#[]⟩ from rfl] at *
    clear hse
    have HN : Hid (doL E m ps cs 1 l ⟨#[]⟩ = some (ps, dropL cs c.1)) := by
     unfold Hid
     rw [HD1.out, if_neg (fun h => h rfl), hf1]
    by_cases hcl : c.1 = l
    ·
     have HLT : Hid (decide ((dropL cs l).length < cs.length) = true) := by
      unfold Hid; rw [← hcl]; exact decide_eq_true (dropL_lt hm1)
     rw [hcl] at HN
     clear hcl hc1 hf1 hm1
     go_wp2_with fail
     refine (sCallDrop_any O E m _ cs l _ HOK.out.calls (HR.out.calls.below hs4.bel)).mono ?_
     rintro e w5 ⟨v5, rfl, ho5, hb5⟩
     rw [HLT.out]
     have hs5 := hs4.belowAll hb5
     have hs6 := hs5.calls ho5 hs4.nxt.lt hs4.planLt
     have hbg := hs5.big
     have ne1 : ¬ w.heap.size + 2 = w2.heap.size := by omega
     have ne2 : ¬ w2.heap.size = w.heap.size + 2 := by omega
     have ne3 : w.heap.size + 2 ≠ w2.heap.size := ne1
     have ne4 : w2.heap.size ≠ w.heap.size + 2 := ne2
     obtain ⟨a5, c5, rfl⟩ := own_len9 ho5
     clear hs4 hb5 ho5
     clear b0 b1 b2 b3 b4 blt d0 d1 d2 dlt r0 r1 r2 r3 r4 f0 f1 f2 f3 f4 rlt n0 n1 n2 n3 n4 g0 g1 g2 g3 g4 nlt
     obtain ⟨b0, b1, b2, b3, b4, -, -, -, -, -, blt⟩ := hs5.box.five
     obtain ⟨d0, d1, d2, -, -, -, dlt⟩ := hs5.dee.three
     obtain ⟨r0, r1, r2, r3, r4, f0, f1, f2, f3, f4, rlt⟩ := hs5.res.five
     obtain ⟨n0, n1, n2, n3, n4, g0, g1, g2, g3, g4, nlt⟩ := hs5.nxt.five
     (try simp only []); repeat first | go_values | go_skip | go_guarded | go_step | go_upon
     obtain ⟨z0, z1, z2, z3, z4, -⟩ := (five_set (y0 := .int .i64 O) (y1 := .int .i64 E) (y2 := .int .i64 (m : Nat)) (y3 := .slice aq ps.length cq) (y4 := .slice a5 (dropL cs l).length c5) hs6.res).five
     refine bodyPost_ret (v := .tuple #[.agg #[.int .i64 O, .int .i64 E, .int .i64 (m : Nat), .slice aq ps.length cq, .slice a5 (dropL cs l).length c5], .bool true]) (by simp [results, Tryd.results59, go_sem, z0, z1, z2, z3, z4]) rfl ?_
     exact doXQ_yes HD.out (doQ_some HN.out (hs6.back true))
    ·
     have hpe : pl = c.1 := by
      rcases hc1 with ⟨h, _⟩ | ⟨_, h⟩
      ·
       exact absurd h hcl
      ·
       exact h
     have hol : c.2.1 = l := by
      rcases hc1 with ⟨h, _⟩ | ⟨h, _⟩
      ·
       exact absurd h hcl
      ·
       exact h
     have hsame : dropL cs l = cs := by
      unfold dropL
      rw [List.filter_eq_self]
      intro d hd
      simp only [Bool.not_eq_eq_eq_not, Bool.not_true, decide_eq_false_iff_not]
      exact fun e => HOK.out.part d hd c hm1 (by rw [e, hol])
     have HLT : Hid (decide ((dropL cs l).length < cs.length) = false) := by
      unfold Hid; rw [hsame]; simp
     rw [← hpe] at HN
     clear hcl hc1 hf1 hm1 hpe hol hsame
     go_wp2_with fail
     refine (sCallDrop_any O E m _ cs l _ HOK.out.calls (HR.out.calls.below hs4.bel)).mono ?_
     rintro e w5 ⟨v5, rfl, ho5, hb5⟩
     rw [HLT.out]
     have hs5 := hs4.belowAll hb5
     clear hs4 hb5 ho5
     clear b0 b1 b2 b3 b4 blt d0 d1 d2 dlt r0 r1 r2 r3 r4 f0 f1 f2 f3 f4 rlt n0 n1 n2 n3 n4 g0 g1 g2 g3 g4 nlt
     obtain ⟨b0, b1, b2, b3, b4, -, -, -, -, -, blt⟩ := hs5.box.five
     obtain ⟨d0, d1, d2, -, -, -, dlt⟩ := hs5.dee.three
     obtain ⟨r0, r1, r2, r3, r4, f0, f1, f2, f3, f4, rlt⟩ := hs5.res.five
     obtain ⟨n0, n1, n2, n3, n4, g0, g1, g2, g3, g4, nlt⟩ := hs5.nxt.five
     go_wp2_with fail
     refine (sCallDrop_any O E m _ cs pl _ HOK.out.calls (HR.out.calls.below hs5.bel)).mono ?_
     rintro e w6 ⟨v6, rfl, ho6, hb6⟩
     have hs7 := hs5.belowAll hb6
     have hs6 := hs7.calls ho6 hs5.nxt.lt hs5.planLt
     have hbg := hs7.big
     have ne1 : ¬ w.heap.size + 2 = w2.heap.size := by omega
     have ne2 : ¬ w2.heap.size = w.heap.size + 2 := by omega
     have ne3 : w.heap.size + 2 ≠ w2.heap.size := ne1
     have ne4 : w2.heap.size ≠ w.heap.size + 2 := ne2
     obtain ⟨a5, c5, rfl⟩ := own_len9 ho6
     clear hs5 hb6 ho6
     clear b0 b1 b2 b3 b4 blt d0 d1 d2 dlt r0 r1 r2 r3 r4 f0 f1 f2 f3 f4 rlt n0 n1 n2 n3 n4 g0 g1 g2 g3 g4 nlt
     obtain ⟨b0, b1, b2, b3, b4, -, -, -, -, -, blt⟩ := hs7.box.five
     obtain ⟨d0, d1, d2, -, -, -, dlt⟩ := hs7.dee.three
     obtain ⟨r0, r1, r2, r3, r4, f0, f1, f2, f3, f4, rlt⟩ := hs7.res.five
     obtain ⟨n0, n1, n2, n3, n4, g0, g1, g2, g3, g4, nlt⟩ := hs7.nxt.five
     (try simp only []); repeat first | go_values | go_skip | go_guarded | go_step | go_upon
     obtain ⟨z0, z1, z2, z3, z4, -⟩ := (five_set (y0 := .int .i64 O) (y1 := .int .i64 E) (y2 := .int .i64 (m : Nat)) (y3 := .slice aq ps.length cq) (y4 := .slice a5 (dropL cs pl).length c5) hs6.res).five
     refine bodyPost_ret (v := .tuple #[.agg #[.int .i64 O, .int .i64 E, .int .i64 (m : Nat), .slice aq ps.length cq, .slice a5 (dropL cs pl).length c5], .bool true]) (by simp [results, Tryd.results59, go_sem, z0, z1, z2, z3, z4]) rfl ?_
     exact doXQ_yes HD.out (doQ_some HN.out (hs6.back true))
   ·
    have HN : Hid (doL E m ps cs 1 l s = none) := by
     unfold Hid
     rw [HD1.out, if_pos (fun h => hse (by rw [h]; rfl))]
    have hs1 : s.toList ≠ [] := by
     intro e
     rw [ByteArray.toList_eq] at e
     exact hse (by have := congrArg List.length e; simpa using this)
    have hs2 : (s.toList != []) = true := by simpa using hs1
    have hs3 : s.toList.isEmpty = false := by cases hh : s.toList with | nil => exact absurd hh hs1 | cons => rfl
    have hs4' : (s.toList == []) = false := by simpa using hs1
    have hs5' : decide (pl < 0) = false := by simpa using hplz
    clear hse hf1 hm1 hc1
    (try simp only []); repeat first | go_values | go_skip | go_guarded | go_step | go_upon
    obtain ⟨z0, z1, z2, z3, z4, -⟩ := (five_set (y0 := .int .i64 O) (y1 := .int .i64 E) (y2 := .int .i64 (m : Nat)) (y3 := .slice aq ps.length cq) (y4 := .slice ar cs.length cr) hs4.res).five
    refine bodyPost_ret (v := .tuple #[.agg #[.int .i64 O, .int .i64 E, .int .i64 (m : Nat), .slice aq ps.length cq, .slice ar cs.length cr], .bool false]) (by simp [results, Tryd.results59, go_sem, z0, z1, z2, z3, z4]) rfl ?_
    exact doXQ_yes HD.out (doQ_none HN.out (hs4.back false))
 have hq1 : ((k : Int) == 1) = false := by simpa using hk1
 by_cases hk2 : k = 2
 ·
  subst hk2
  obtain ⟨ln, rfl⟩ := Int.eq_ofNat_of_zero_le hla
  have hlnl : ln < ps.length := by omega
  obtain ⟨t, ht⟩ : ∃ t, ps[ln]? = some t := ⟨_, List.getElem?_eq_getElem hlnl⟩
  have HT := Lib.hid ht
  have HLS : Hid (StLen (ps.set ln s)) := HL.out.set ln HS.out
  have HD2 : Hid (doL E m ps cs 2 ln s = if t = s ∨ planB (ps.set ln s) = false then none else some (ps.set ln s, cs)) := by
   unfold Hid doL
   rw [if_neg (by omega), if_neg (by omega), if_neg (by omega), if_pos rfl, Int.toNat_natCast, ht]
   simp only [Option.some.injEq]
  clear ht
  obtain ⟨gq, rfl⟩ : ∃ g, aq = some ⟨g, 0, none⟩ := by
   rcases hs4.own.plan.2 with ⟨h, h0⟩ | ⟨g, cap, cur, hv, _⟩
   ·
    omega
   ·
    injection hv with h1 h2 h3
    exact ⟨g, h1⟩
  have hoq := (Own.of hs4.own.plan).1
  have x1 := (hoq.cell ln (by omega)).trans (strs_at ps ln t HT.out)
  have x2 := hoq.free ln
  have x3 := hoq.lt
  have hs5 := hs4.number rfl s ln
  clear hoq hs4
  obtain ⟨_, _, a', c', hv', _, hc1⟩ := HR.out.plan
  cases hv'
  rcases hc1 with hc1 | ⟨b, off, rfl, hb, hc1⟩
  ·
   omega
  have q1 := hc1 ln (by omega)
  rw [strs_at ps ln t HT.out] at q1
  have hq1 := (hs5.bel.cell (p := ⟨b, off + ln, none⟩) hb).trans q1
  have i1 : (0 : Int) ≤ (ln : Int) := by omega
  have i2 : (ln : Int) < (ps.length : Int) := by omega
  clear hc1 q1
  obtain ⟨B0, B1, B2, B3, B4, -, -, -, -, -, Blt⟩ := hs5.box.five
  obtain ⟨D0, D1, D2, -, -, -, Dlt⟩ := hs5.dee.three
  obtain ⟨R0, R1, R2, R3, R4, F0, F1, F2, F3, F4, Rlt⟩ := hs5.res.five
  obtain ⟨N0, N1, N2, N3, N4, G0, G1, G2, G3, G4, Nlt⟩ := hs5.nxt.five
  by_cases hts : t = s
  ·
   have HN : Hid (doL E m ps cs 2 ln s = none) := by unfold Hid; rw [HD2.out, if_pos (.inl hts)]
   have hq := str_eq hts.symm
   have hqd : decide (s = t) = true := by simpa using hts.symm
   clear hts
   go_wp2_with fail
   go_quiet (fail)
   go_wp2_with fail
   refine (l8Copy_any O E m _ _ ps cs _ ((HR.out.below hs5.bel).drewN _) (by omega) (by omega)).mono ?_
   rintro e w6 ⟨vq, vr, rfl, ho6, hb6⟩
   have hR6 := (hs5.res.drewN _).belowAll hb6
   have hbq : Below w.heap.size w w6 := (below_drewN hs5.bel _).trans (Below.mono hb6 hs5.bel.size)
   obtain ⟨a4, c4, rfl⟩ := own_len9 ho6.plan
   obtain ⟨a5, c5, rfl⟩ := own_len9 ho6.calls
   obtain ⟨R0, R1, R2, R3, R4, F0, F1, F2, F3, F4, Rlt⟩ := hR6.five
   (try simp only []); repeat first | go_values | go_skip | go_guarded | go_step | go_upon
   obtain ⟨z0, z1, z2, z3, z4, -⟩ := (five_set (y0 := .int .i64 O) (y1 := .int .i64 E) (y2 := .int .i64 (m : Nat)) (y3 := .slice a4 ps.length c4) (y4 := .slice a5 cs.length c5) hR6).five
   refine bodyPost_ret (v := .tuple #[.agg #[.int .i64 O, .int .i64 E, .int .i64 (m : Nat), .slice a4 ps.length c4, .slice a5 cs.length c5], .bool false]) (by simp [results, Tryd.results59, go_sem, z0, z1, z2, z3, z4]) rfl ?_
   exact doXQ_yes HD.out (doQ_none HN.out ⟨_, _, rfl, (ho6.result _ _ _ _ _ hs5.res.lt).lower hs5.bel.size, five_below _ _ _ _ _ hbq (by omega)⟩)
  ·
   have hq := str_ne (fun e => hts e.symm : ¬ s = t)
   have hqd : decide (s = t) = false := by simpa using (fun e => hts e.symm : ¬ s = t)
   have HTS := Lib.hid hts
   clear hts
   obtain ⟨pb, hpb⟩ : ∃ b, planB (ps.set ln s) = b := ⟨_, rfl⟩
   have HPB := Lib.hid hpb
   have kc := Lib.hid (fun n => (sPlanValid_any _ (ps.set ln s) (World.drewN (w4.setCell ⟨gq, ln, none⟩ (.string s)) n) ((Rds.ofOwns hs5.own.plan).drewN n) HLS.out).mono (fun e w' h => (⟨by rw [h.1, HPB.out], h.2⟩ : e = .returned (.bool pb) ∧ ∃ q, w' = (World.drewN (w4.setCell ⟨gq, ln, none⟩ (.string s)) n).drewN q)))
   clear hpb
   go_wp2_with fail
   go_quiet ((go_at_call 75; exact Calls.quiet_of (kc.out _)))
   clear kc
   cases pb
   ·
    have HN : Hid (doL E m ps cs 2 ln s = none) := by unfold Hid; rw [HD2.out, if_pos (.inr HPB.out)]
    go_wp2_with fail
    refine (l8Copy_any O E m _ _ ps cs _ ((HR.out.below hs5.bel).drewN _) (by omega) (by omega)).mono ?_
    rintro e w6 ⟨vq, vr, rfl, ho6, hb6⟩
    have hR6 := (hs5.res.drewN _).belowAll hb6
    have hbq : Below w.heap.size w w6 := (below_drewN hs5.bel _).trans (Below.mono hb6 hs5.bel.size)
    obtain ⟨a4, c4, rfl⟩ := own_len9 ho6.plan
    obtain ⟨a5, c5, rfl⟩ := own_len9 ho6.calls
    obtain ⟨R0, R1, R2, R3, R4, F0, F1, F2, F3, F4, Rlt⟩ := hR6.five
    (try simp only []); repeat first | go_values | go_skip | go_guarded | go_step | go_upon
    obtain ⟨z0, z1, z2, z3, z4, -⟩ := (five_set (y0 := .int .i64 O) (y1 := .int .i64 E) (y2 := .int .i64 (m : Nat)) (y3 := .slice a4 ps.length c4) (y4 := .slice a5 cs.length c5) hR6).five
    refine bodyPost_ret (v := .tuple #[.agg #[.int .i64 O, .int .i64 E, .int .i64 (m : Nat), .slice a4 ps.length c4, .slice a5 cs.length c5], .bool false]) (by simp [results, Tryd.results59, go_sem, z0, z1, z2, z3, z4]) rfl ?_
    exact doXQ_yes HD.out (doQ_none HN.out ⟨_, _, rfl, (ho6.result _ _ _ _ _ hs5.res.lt).lower hs5.bel.size, five_below _ _ _ _ _ hbq (by omega)⟩)
   ·
    have HN : Hid (doL E m ps cs 2 ln s = some (ps.set ln s, cs)) := by
     unfold Hid
     rw [HD2.out, if_neg]
     rw [HPB.out]
     simp [HTS.out]
    (try simp only []); repeat first | go_values | go_skip | go_guarded | go_step | go_upon
    have hz := fun q => (five_set (y0 := .int .i64 O) (y1 := .int .i64 E) (y2 := .int .i64 (m : Nat)) (y3 := .slice (some ⟨gq, 0, none⟩) ps.length cq) (y4 := .slice ar cs.length cr) (hs5.drewN q).res).five
    have z0 := fun q => (hz q).1
    have z1 := fun q => (hz q).2.1
    have z2 := fun q => (hz q).2.2.1
    have z3 := fun q => (hz q).2.2.2.1
    have z4 := fun q => (hz q).2.2.2.2.1
    refine bodyPost_ret (v := .tuple #[.agg #[.int .i64 O, .int .i64 E, .int .i64 (m : Nat), .slice (some ⟨gq, 0, none⟩) ps.length cq, .slice ar cs.length cr], .bool true]) (by simp [results, Tryd.results59, go_sem, z0, z1, z2, z3, z4]) rfl ?_
    exact doXQ_yes HD.out (doQ_some HN.out ((hs5.drewN _).back true))
 have hq2 : ((k : Int) == 2) = false := by simpa using hk2
 have HN : Hid (doL E m ps cs k l s = none) := by unfold Hid doL; rw [if_neg (by omega), if_neg hk0, if_neg hk1, if_neg hk2]
 clear hk0 hk1 hk2
 (try simp only []); repeat first | go_values | go_skip | go_guarded | go_step | go_upon
 obtain ⟨z0, z1, z2, z3, z4, -⟩ := (five_set (y0 := .int .i64 O) (y1 := .int .i64 E) (y2 := .int .i64 (m : Nat)) (y3 := .slice aq ps.length cq) (y4 := .slice ar cs.length cr) hs4.res).five
 refine bodyPost_ret (v := .tuple #[.agg #[.int .i64 O, .int .i64 E, .int .i64 (m : Nat), .slice aq ps.length cq, .slice ar cs.length cr], .bool false]) (by simp [results, Tryd.results59, go_sem, z0, z1, z2, z3, z4]) rfl ?_
 exact doXQ_yes HD.out (doQ_none HN.out (hs4.back false))

end Go.Proofs.YtedadhoneebfnaaDoor
