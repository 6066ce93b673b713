/- The draw of an exchange: l20Exchange. Of what is drawn only the bounds are said. -/
import Derived.Test.YtedadhoneebfnaaXd
import Derived.Test.YtedadhoneebfnaaJ10
import Derived.Test.YtedadhoneebfnaaEs
import Derived.Test.YtedadhoneebfnaaDj
import Derived.Deep.DeepCutAuto
set_option linter.unusedSimpArgs false
set_option linter.unusedVariables false
namespace Go.Proofs.Ytedadhoneebfnaa
open Go.RowKit

/-- Where the drawing of an exchange stands: the reader, the result's block, the network's block. -/
structure XeB (w W : World) (rb q nb : Nat) (o e m : Int) : Prop where
 gb : w.grownBy W (some rb)
 rdr : Rdr W rb q
 res : Blk W w.heap.size #[.int .i64 0, .int .i64 0, .int .i64 0, .slice none 0 0, .slice none 0 0] 33
 net : Blk W nb #[.int .i64 o, .int .i64 e, .int .i64 m] 30
 old : rb < w.heap.size
 big : w.heap.size + 1 ≤ nb
section
variable {w W W' : World} {rb q q' nb : Nat} {o e m : Int}
theorem XeB.pick (h : XeB w W rb q nb o e m) (hr : Rdr W' rb q') (hg : W.grownBy W' (some rb)) : XeB w W' rb q' nb o e m := by
 have := h.old
 have := h.big
 exact ⟨gb_trans h.gb hg, hr, h.res.gb hg (by omega), h.net.gb hg (by omega), h.old, h.big⟩
theorem XeB.alloc (h : XeB w W rb q nb o e m) (ob : Obj) : XeB w (W.alloc ob) rb q nb o e m := ⟨gb_alloc h.gb, h.rdr.alloc, h.res.alloc _, h.net.alloc _, h.old, h.big⟩
theorem XeB.drew (h : XeB w W rb q nb o e m) : XeB w W.drew rb q nb o e m := ⟨gb_drew h.gb, h.rdr.drew, h.res.drew, h.net.drew, h.old, h.big⟩
theorem XeB.kept {r : Option Nat} (h : XeB w W rb q nb o e m) (hg : W.grownBy W' r) (hr : ∀ b, r = some b → nb < b) : XeB w W' rb q nb o e m := by
 have h1 := h.old
 have h2 := h.big
 exact ⟨gb_low h.gb hg (fun b hb => by have := hr b hb; omega), h.rdr.kept hg (fun b hb => by have := hr b hb; omega), Blk.gbr hg (fun e => by have := hr _ e.symm; omega) h.res, Blk.gbr hg (fun e => by have := hr _ e.symm; omega) h.net, h1, h2⟩
theorem XeB.below (h : XeB w W rb q nb o e m) (hb : Below W.heap.size W W') : XeB w W' rb q nb o e m :=
 ⟨gb_below hb h.gb.size h.gb, h.rdr.below hb h.rdr.lt, h.res.belowAll hb, h.net.belowAll hb, h.old, h.big⟩
end
/-- .. and the exchange in its box. -/
structure XeL (w W : World) (rb q nb eb : Nat) (o e m O2 E2 M2 : Int) (vq vr : Value) (qs : List ByteArray) (cs : List Cl) : Prop where
 b : XeB w W rb q nb o e m
 box : Blk W eb #[.int .i64 O2, .int .i64 E2, .int .i64 M2, vq, vr] 33
 own : ExOwn W (nb + 1) vq vr qs cs
 ap1 : vq.ownBlock = none ∨ vq.ownBlock ≠ some eb
 ap2 : vr.ownBlock = none ∨ vr.ownBlock ≠ some eb
 st : StSmall qs
 ln : qs.length ≤ 10
 cn : cs.length ≤ 12
 far : nb < eb
section
variable {w W W' : World} {rb q q' nb eb B : Nat} {o e m O2 E2 M2 O3 E3 M3 : Int} {vq vr vp' vc' : Value} {qs ps' : List ByteArray} {cs cs' : List Cl}
theorem XeL.pick (h : XeL w W rb q nb eb o e m O2 E2 M2 vq vr qs cs) (hr : Rdr W' rb q') (hg : W.grownBy W' (some rb)) : XeL w W' rb q' nb eb o e m O2 E2 M2 vq vr qs cs := by
 have h1 := h.b.old
 have h2 := h.b.big
 have h3 := h.far
 exact ⟨h.b.pick hr hg, h.box.gb hg (by omega), h.own.kept hg (far_of h.own.plan (by omega)) (far_of h.own.calls (by omega)), h.ap1, h.ap2, h.st, h.ln, h.cn, h.far⟩
theorem XeL.below (h : XeL w W rb q nb eb o e m O2 E2 M2 vq vr qs cs) (hb : Below W.heap.size W W') : XeL w W' rb q nb eb o e m O2 E2 M2 vq vr qs cs :=
 ⟨h.b.below hb, h.box.belowAll hb, h.own.below hb, h.ap1, h.ap2, h.st, h.ln, h.cn, h.far⟩
theorem XeL.alloc (h : XeL w W rb q nb eb o e m O2 E2 M2 vq vr qs cs) (ob : Obj) : XeL w (W.alloc ob) rb q nb eb o e m O2 E2 M2 vq vr qs cs :=
 h.below ((Below.refl _ _).alloc (Nat.le_refl _) _)
theorem XeL.drew (h : XeL w W rb q nb eb o e m O2 E2 M2 vq vr qs cs) : XeL w W.drew rb q nb eb o e m O2 E2 M2 vq vr qs cs :=
 ⟨h.b.drew, h.box.drew, h.own.drewN 1, h.ap1, h.ap2, h.st, h.ln, h.cn, h.far⟩
theorem XeL.next (h : XeL w W rb q nb eb o e m O2 E2 M2 vq vr qs cs) (ho : ExOwn W B vp' vc' ps' cs') (hB : eb < B) (hs : StSmall ps') (hl : ps'.length ≤ 10) (hc : cs'.length ≤ 12) :
  XeL w (((((W.setCell ⟨eb, 0, none⟩ (.int .i64 O3)).setCell ⟨eb, 1, none⟩ (.int .i64 E3)).setCell ⟨eb, 2, none⟩ (.int .i64 M3)).setCell ⟨eb, 3, none⟩ vp').setCell ⟨eb, 4, none⟩ vc') rb q nb eb o e m O3 E3 M3 vp' vc' ps' cs' := by
 have hf := h.far
 exact ⟨h.b.kept (five_gb _ _ _ _ _ _ _) (fun b hb => by cases hb; exact hf), five_set h.box, (ho.result _ _ _ _ _ hB).lower (by omega), far_of ho.plan hB, far_of ho.calls hB, hs, hl, hc, hf⟩
end
theorem XeL.put {w W : World} {rb q nb eb xb : Nat} {o e m O2 E2 M2 : Int} {vq vr y0 y1 y2 y3 y4 : Value} {qs : List ByteArray} {cs : List Cl} (h : XeL w W rb q nb eb o e m O2 E2 M2 vq vr qs cs) (hx : eb < xb) (h1 : vq.ownBlock = none ∨ vq.ownBlock ≠ some xb) (h2 : vr.ownBlock = none ∨ vr.ownBlock ≠ some xb) :
  XeL w (((((W.setCell ⟨xb, 0, none⟩ y0).setCell ⟨xb, 1, none⟩ y1).setCell ⟨xb, 2, none⟩ y2).setCell ⟨xb, 3, none⟩ y3).setCell ⟨xb, 4, none⟩ y4) rb q nb eb o e m O2 E2 M2 vq vr qs cs := by
 have hf := h.far
 exact ⟨h.b.kept (five_gb _ _ _ _ _ _ _) (fun b hb => by cases hb; omega), Blk.gbr (five_gb _ _ _ _ _ _ _) (fun e => by cases e; omega) h.box, h.own.kept (five_gb _ _ _ _ _ _ _) h1 h2, h.ap1, h.ap2, h.st, h.ln, h.cn, h.far⟩
theorem doR_draw (O E M : Int) (ps : List ByteArray) (cs : List Cl) (k l : Int) (s : ByteArray) : StSmall (doR O E M ps cs k l s).2.1.1 ∧ (doR O E M ps cs k l s).2.1.1.length ≤ 10 ∧ (doR O E M ps cs k l s).2.1.2.length ≤ 12 := by
 have hok : ∀ {ps : List ByteArray} {cs : List Cl}, ExOk O E M ps cs → StSmall ps ∧ ps.length ≤ 10 ∧ cs.length ≤ 12 := by
  intro ps cs h
  refine ⟨fun s hs => ?_, h.lines.2, h.calls.count (lines_le h.calls.sh)⟩
  obtain ⟨j, hj⟩ := List.mem_iff_getElem?.1 hs
  have := numB_size (h.plan.at j s hj)
  omega
 unfold doR
 split
 ·
  rename_i hx
  have h1 := (exB_iff _ _ _ _ _).1 hx
  split
  ·
   rename_i y hy
   exact hok (do_ok h1 hy)
  ·
   exact hok h1
 ·
  exact ⟨fun s hs => (by cases hs), by simp, by simp⟩
/-- What l20Exchange leaves. -/
def DrawEx (rb p : Nat) (w : World) (e : Ending) (w' : World) : Prop :=
 ∃ (O E M : Int) (vp vc : Value) (ps : List ByteArray) (cs : List Cl) (q : Nat), e = .returned (.agg #[.int .i64 O, .int .i64 E, .int .i64 M, vp, vc]) ∧ ExOwn w' w.heap.size vp vc ps cs ∧ ps.length ≤ 12 ∧ cs.length ≤ 14 ∧ StSmall ps ∧ p ≤ q ∧ q ≤ p + 900 ∧ Rdr w' rb q ∧ w.grownBy w' (some rb)

theorem ex_done {w W : World} {rb p q nb : Nat} {o e m O E M : Int} {vp vc : Value} {ps : List ByteArray} {cs : List Cl} (hb : XeB w W rb q nb o e m) (ho : ExOwn W (nb + 1) vp vc ps cs) (hl : ps.length ≤ 12) (hc : cs.length ≤ 14) (hs : StSmall ps) (h1 : p ≤ q) (h2 : q ≤ p + 900) :
  DrawEx rb p w (.returned (.agg #[.int .i64 O, .int .i64 E, .int .i64 M, vp, vc])) (((((W.setCell ⟨w.heap.size, 0, none⟩ (.int .i64 O)).setCell ⟨w.heap.size, 1, none⟩ (.int .i64 E)).setCell ⟨w.heap.size, 2, none⟩ (.int .i64 M)).setCell ⟨w.heap.size, 3, none⟩ vp).setCell ⟨w.heap.size, 4, none⟩ vc) := by
 have hg := hb.big
 have hd := hb.old
 exact ⟨O, E, M, vp, vc, ps, cs, q, rfl, (ho.result _ _ _ _ _ (by omega)).lower (by omega), hl, hc, hs, h1, h2, hb.rdr.kept (five_gb _ _ _ _ _ _ _) (fun b hb' => by cases hb'; omega), gb_low hb.gb (five_gb _ _ _ _ _ _ _) (fun b hb' => by cases hb'; omega)⟩
/-- Rows of elements of two types lie apart. -/
theorem own_two {w : World} {base base' n m : Nat} {E E' : TypeId} {size size' : Nat} {v u : Value} {xs ys : List Value} (h : w.ownsRow base E size v n xs) (h' : w.ownsRow base' E' size' u m ys) (hE : E ≠ E') : v.ownBlock = none ∨ v.ownBlock ≠ u.ownBlock := by
 rcases h.2 with ⟨rfl, _⟩ | ⟨g, cap, cur, rfl, _, hg, _⟩
 ·
  exact .inl rfl
 ·
  refine .inr fun e => ?_
  rcases h'.2 with ⟨rfl, _⟩ | ⟨g', cap', cur', rfl, _, hg', _⟩
  ·
   simp [Value.ownBlock] at e
  ·
   simp [Value.ownBlock] at e
   subst e
   rw [hg] at hg'
   simp at hg'
   exact hE hg'.2
theorem own_typed {w : World} {base n b : Nat} {E T : TypeId} {size : Nat} {v : Value} {xs : List Value} {cs : Array Value} (h : w.ownsRow base E size v n xs) (hb : Blk w b cs T) (hT : T ≠ E) : v.ownBlock = none ∨ v.ownBlock ≠ some b := by
 rcases h.2 with ⟨rfl, _⟩ | ⟨g, cap, cur, rfl, _, hg, _⟩
 ·
  exact .inl rfl
 ·
  refine .inr fun e => ?_
  simp [Value.ownBlock] at e
  subst e
  unfold Blk at hb
  rw [hg] at hb
  simp at hb
  exact hT hb.2.symm

set_option maxRecDepth 100000 in
set_option maxHeartbeats 16000000 in
theorem l20Exchange_any (rb p : Nat) (n : Int) (w : World) (h : Rdr w rb p) (hp : p ≤ 100000) (hn : n ≤ 1000000000) :
  Calls Try.prog 81 #[.pointer (some ⟨rb, 0, none⟩), .int .i64 n] w (DrawEx rb p w) := by
 have hold := h.lt
 have hZ := Blk.new (w := w) (cs := #[.int .i64 0, .int .i64 0, .int .i64 0, .slice none 0 0, .slice none 0 0]) (T := 33) rfl
 have hr0 := h.alloc (o := .cells #[.int .i64 0, .int .i64 0, .int .i64 0, .slice none 0 0, .slice none 0 0] 33)
 go_enter Try.func81, Try.ntmps81
 go_upto_region 1 with fail
 go_cut [5] (fun t5 wc => ∃ (nb : Nat) (o e : Int), t5 = .pointer (some ⟨nb, 0, none⟩) ∧ 1 ≤ o ∧ o ≤ 4 ∧ 1 ≤ e ∧ e ≤ 3 ∧ XeB w wc rb (p + 2) nb o e 0)
 case first =>
  go_wp2_with fail
  refine (pick_any rb p _ _ hr0 (by omega) (by omega)).mono ?_
  rintro e w1 ⟨y1, rfl, hy1a, hy1b, hr1, hg1⟩
  have hZ1 := hZ.gb hg1 (by omega)
  have hgA : w.grownBy w1 (some rb) := gb_trans (gb_alloc (World.grownBy.refl _ _)) hg1
  go_wp2_with fail
  refine (pick_any rb (p + 1) _ _ hr1 (by omega) (by omega)).mono ?_
  rintro e w2 ⟨y2, rfl, hy2a, hy2b, hr2, hg2⟩
  have hZ2 := hZ1.gb hg2 (by omega)
  have hgB : w.grownBy w2 (some rb) := gb_trans hgA hg2
  have hz2 := hZ2.lt
  go_wp2_with fail
  go_meet
  exact ⟨_, _, _, rfl, by omega, by omega, by omega, by omega, gb_alloc hgB, hr2.alloc, hZ2.alloc _, Blk.new rfl, hold, hz2⟩
 case rest =>
 obtain ⟨w2, rfl⟩ : ∃ wo : World, wo = wc := ⟨_, rfl⟩
 obtain ⟨nb, o, e, rfl, ho1, ho2, he1, he2, hX⟩ := hcut
 clear h hZ hr0
 obtain ⟨t1, t2, t3, f1, f2, f3, tlt⟩ := hX.net.three
 obtain ⟨m, hm, hm1, hm2, hm3⟩ : ∃ m : Int, o * e = m ∧ 1 ≤ m ∧ m ≤ 12 ∧ (m ≤ 10 ∨ o = 4 ∧ e = 3) := by
  have hcase : (o = 1 ∨ o = 2 ∨ o = 3 ∨ o = 4) ∧ (e = 1 ∨ e = 2 ∨ e = 3) := by omega
  rcases hcase with ⟨rfl | rfl | rfl | rfl, rfl | rfl | rfl⟩ <;> exact ⟨_, rfl, by omega, by omega, by omega⟩
 have HM := Lib.hid hm
 have hmw : IntKind.i64.wrap m = m := IntWalk.i64_in _ (by omega)
 go_upto_if 29 with fail
 go_cut [] (fun wc => ∃ (o e : Int), 1 ≤ o ∧ o ≤ 4 ∧ 1 ≤ e ∧ e ≤ 3 ∧ o * e ≤ 10 ∧ XeB w wc rb (p + 2) nb o e 0)
 case first =>
  have hbg := hX.big
  by_cases h12 : 10 < m
  ·
   obtain ⟨rfl, rfl⟩ : o = 4 ∧ e = 3 := by omega
   go_wp2_with fail
   go_meet
   exact ⟨3, 3, by omega, by omega, by omega, by omega, by omega, gb_new (by show _ ≤ nb; omega) hX.gb, hX.rdr.other (by show rb < nb; omega), hX.res.other (by show _ ≠ nb; omega), hX.net.set rfl, hold, hbg⟩
  ·
   go_wp2_with fail
   go_meet
   exact ⟨o, e, ho1, ho2, he1, he2, by rw [HM.out]; omega, hX⟩
 case rest =>
 obtain ⟨w3, rfl⟩ : ∃ wo : World, wo = wc := ⟨_, rfl⟩
 clear hX ho1 ho2 he1 he2 hm hm1 hm2 hm3 hmw HM t1 t2 t3 f1 f2 f3 tlt
 obtain ⟨o, e, ho1, ho2, he1, he2, hoe, hX⟩ := hcut
 -- the middle switches
 go_upto_region 4 with fail
 go_cut [] (fun wc => ∃ (m : Int) (q : Nat), q = p + 3 ∧ XeB w wc rb q nb o e m)
 case first =>
  have hbg := hX.big
  obtain ⟨t1, t2, t3, f1, f2, f3, tlt⟩ := hX.net.three
  go_wp2_with fail
  refine wp_region_held_drew (S := fun w' => w'.cell? ⟨nb, 1, none⟩ = some (.int .i64 e)) (by kernel_rfl) t2 (fun hHeld => ?_)
  refine take_y 0 31 (v := ?_) rfl ?_ ?_; rotate_left; focus (intro w hSw; (try dsimp only at hSw); go_simp; (try rw [if_neg (by omega)]); (try with_reducible rfl))
  try simp only [Act.put, zp1, zp2, zp3]
  refine take_y 1 32 (v := ?_) rfl ?_ ?_; rotate_left; focus (intro w hSw; (try dsimp only at hSw); go_simp; (try rw [if_neg (by omega)]); (try with_reducible rfl))
  try simp only [Act.put, zp1, zp2, zp3]
  refine take_y 2 33 (v := ?_) rfl ?_ ?_; rotate_left; focus (intro w hSw; (try dsimp only at hSw); go_simp; (try rw [if_neg (by omega)]); (try with_reducible rfl))
  try simp only [Act.put, zp1, zp2, zp3]
  refine wpAnyH_ready (rs := [3]) (by kernel_rfl) (by simp) ?_
  refine AllReadyH.cons rfl (fun K hK => ?_) AllReadyH.nil
  go_simp
  refine (pick_any rb (p + 2) _ _ hX.rdr.drew (by omega) (by omega)).mono ?_
  rintro en w4 ⟨y, rfl, hya, hyb, hr4, hg4⟩
  have hX4 := hX.drew.pick hr4 hg4
  clear t1 t2 t3 f1 f2 f3 tlt
  obtain ⟨t1, t2, t3, f1, f2, f3, tlt⟩ := hX4.net.three
  refine hK.out _ _ t2 (fun hHeld2 => ?_)
  clear hHeld hK K; have hHeld := hHeld2; clear hHeld2; try simp only [Act.put, zp1, zp2, zp3]
  refine take_y 4 35 (v := ?_) rfl ?_ ?_; rotate_left; focus (intro w hSw; (try dsimp only at hSw); go_simp; (try rw [if_neg (by omega)]); (try with_reducible rfl))
  try simp only [Act.put, zp1, zp2, zp3]
  refine take_y 5 36 (v := ?_) rfl ?_ ?_; rotate_left; focus (intro w hSw; (try dsimp only at hSw); go_simp; (try rw [if_neg (by omega)]); (try with_reducible rfl))
  try simp only [Act.put, zp1, zp2, zp3]
  refine wpAnyH_ready (rs := [6]) (by kernel_rfl) (by simp) ?_
  refine AllReadyH.cons rfl (fun K hK => ?_) AllReadyH.nil
  go_simp
  refine hK.out _ _ ((hX4.net.set (i := 2) (u := .int .i64 (IntKind.i64.wrap (e + y))) rfl).three).2.1 (fun hHeld2 => ?_)
  clear hHeld hK K; have hHeld := hHeld2; clear hHeld2; try simp only [Act.put, zp1, zp2, zp3]
  refine wpAnyH_done (by kernel_rfl) ?_ _
  clear hHeld
  go_wp2_with fail
  go_meet
  exact ⟨_, p + 3, rfl, gb_new (by show _ ≤ nb; omega) hX4.gb, hX4.rdr.other (by show rb < nb; omega), hX4.res.other (by show _ ≠ nb; omega), hX4.net.set rfl, hold, hbg⟩
 case rest =>
 obtain ⟨w4, rfl⟩ : ∃ wo : World, wo = wc := ⟨_, rfl⟩
 clear hX
 obtain ⟨m, q, rfl, hX⟩ := hcut
 obtain ⟨i0, hi, hz0, hz1, hz2⟩ := info_parts infoIz
 obtain ⟨s0, hsi, hy0, hy1, hy2⟩ := info_parts infoSz
 obtain ⟨k0, hci, hx0, hx1, hx2⟩ := info_parts infoC
 obtain ⟨mm, hmm, hm1, hm2⟩ : ∃ mm : Nat, o * e = (mm : Int) ∧ 1 ≤ mm ∧ mm ≤ 10 := by
  have h0 : 1 * 1 ≤ o * e := Int.le_trans (Int.mul_le_mul_of_nonneg_right ho1 (by omega)) (Int.mul_le_mul_of_nonneg_left he1 (by omega))
  exact ⟨(o * e).toNat, by omega, by omega, by omega⟩
 have hmw : IntKind.i64.wrap (mm : Int) = (mm : Int) := IntWalk.i64_in _ (by omega)
 have hbg := hX.big
 have hnlt := hX.net.lt
 have hO0 : (w4.alloc (.cells #[] 3)).ownsRow (nb + 1) 3 1 (.slice (some ⟨w4.heap.size, 0, none⟩) 0 0) 0 (ints []) := by
  have := World.ownsRow_lit (base := nb + 1) (e := 3) (size := 1) w4 #[] 0 hnlt (by unfold maxLen; omega) rfl
  simpa [ints] using this
 have hX0 := hX.alloc (.cells #[] 3)
 clear hX
 go_wp2_with fail
 go_loopw [6, 7] (fun v i wr => ∃ (k : Nat) (zs : List Int), i = .int .i64 k ∧ k ≤ mm ∧ Hid (zs.length = k) ∧ wr.ownsRow (nb + 1) 3 1 v k (ints zs) ∧ XeB w wr rb (p + 3 + k) nb o e m) (fun _ i _ => mm - (intOf i).toNat)
 case atStart => exact ⟨0, [], rfl, Nat.zero_le _, rfl, hO0, hX0⟩
 case round =>
  clear hO0 hX0
  obtain ⟨k, zs, rfl, hk, HZL, hown, hX⟩ := hrel
  obtain ⟨t1, t2, t3, f1, f2, f3, tlt⟩ := hX.net.three
  by_cases hkm : k < mm
  ·
   go_wp2_with fail
   refine (pick_any rb (p + 3 + k) _ _ hX.rdr (by omega) (by omega)).mono ?_
   rintro en w5 ⟨y, rfl, hya, hyb, hr5, hg5⟩
   have hX5 := hX.pick hr5 hg5
   have hown5 := hown.kept hg5 (far_of hown (by omega))
   have hs5 := hX5.net.lt
   clear hX hown hr5 hg5 t1 t2 t3 f1 f2 f3 tlt
   go_wp2_with (at_builtin; refine wpList_append_own _ rfl _ _ 54 rfl (nb + 1) 3 i0 _ 1 8 Try.underlying54 hi hz0 hz1 hz2 rfl (by decide) _ _ _ rfl (hown5.alloc _) ⟨w5.heap.size, 0, none⟩ 1 1 [.int .i64 (2 + y / 2)] rfl rfl (by intro j u hj; rw [Addr.add_spot]; exact keep_newz (by simp) (by simpa using hj)) (by intro u hu; simp at hu; subst hu; rfl) (by unfold maxLen; omega) (by omega) (by simp; omega) ?_; intro v' w6 hown' hgrow _)
   have hX6 := (hX5.alloc (.cells #[.int .i64 (2 + y / 2)] 3)).kept hgrow (fun b hb => own_ge hown5 b hb)
   clear hgrow hX5 hown5
   go_roundw
   case rel =>
    refine ⟨k + 1, zs ++ [2 + y / 2], by go_num, by omega, by unfold Hid; rw [List.length_append, HZL.out]; rfl, ?_, hX6⟩
    have e9 : ints (zs ++ [2 + y / 2]) = ints zs ++ [.int .i64 (2 + y / 2)] := by simp [ints]
    rw [e9]; exact hown'
   case measure => simp [intOf]; omega
  ·
   obtain rfl : k = mm := by omega
   have hxs : zs.length ≤ 10 := by rw [HZL.out]; exact hm2
   go_wp2_with fail
   refine (sPlanFor_any _ zs _ (by rw [← HZL.out] at hown; exact Rds.ofOwns hown)).mono ?_
   rintro en w5 ⟨v1, rfl, ho5, hb5⟩
   obtain ⟨hsm5, hln5⟩ := planR_small zs
   obtain ⟨ps, hps⟩ : ∃ ps, planR zs = ps := ⟨_, rfl⟩
   rw [hps] at ho5 hsm5 hln5
   have HSM := Lib.hid hsm5
   have hX5 := hX.below hb5
   have hb9 := hb5.size
   have hnl := hX.net.lt
   clear hps hsm5 hX hown hb5 t1 t2 t3 f1 f2 f3 tlt hxs
   obtain ⟨a5, c5, rfl⟩ := own_len9 ho5
   obtain ⟨pn, hpn⟩ : ∃ pn, ps.length = pn := ⟨_, rfl⟩
   have HPN := Lib.hid hpn
   rw [hpn] at ho5 hln5 ⊢
   clear hpn
   go_wp2_with fail
   refine (l20Perm_any rb (p + 3 + k) pn _ hX5.rdr (by omega) (by omega)).mono ?_
   rintro en w6 ⟨g6, c6, os, rfl, hol, hob, hg6, hO6, hr6, hgb6⟩
   have hX6 := hX5.pick hr6 hgb6
   have hpl := ho5.kept hgb6 (far_of ho5 (by omega))
   have HOL := Lib.hid hol
   have HOB := Lib.hid hob
   have hz6 := hgb6.size
   have hX6b := hX6.alloc (.cells #[] 9)
   have HPL := Lib.hid hpl
   have HO6 := Lib.hid hO6
   have HX6 := Lib.hid hX6
   have hg6l := hO6.lt
   have hO7 : (w6.alloc (.cells #[] 9)).ownsRow w6.heap.size 9 1 (.slice (some ⟨w6.heap.size, 0, none⟩) 0 0) 0 (strs []) := by
    have := World.ownsRow_lit (base := w6.heap.size) (e := 9) (size := 1) w6 #[] 0 (Nat.le_refl _) (by unfold maxLen; omega) rfl
    simpa [strs] using this
   clear hX5 ho5 hr6 hgb6 hol hob hX6 hpl hO6
   go_wp2_with fail
   go_loopw [11, 12] (fun v i wr => ∃ (j : Nat) (ms : List ByteArray), i = .int .i64 j ∧ j ≤ pn ∧ Hid (ms.length = j) ∧ Hid (StSmall ms) ∧ wr.ownsRow w6.heap.size 9 1 v j (strs ms) ∧ Below w6.heap.size w6 wr) (fun _ i _ => pn - (intOf i).toNat)
   case atStart => exact ⟨0, [], rfl, Nat.zero_le _, rfl, (fun s hs => by cases hs), hO7, by (exact grownA)⟩
   case round =>
    clear hO7 hX6b
    obtain ⟨j, ms, rfl, hj, HML, HMS, hown, hbel⟩ := hrel
    have hzr := hbel.size
    by_cases hjm : j < pn
    ·
     obtain ⟨gp, cp, hsl, hgp, hOP⟩ := own_head HPL.out (show 0 < pn by omega)
     simp only [Value.slice.injEq, true_and] at hsl
     obtain ⟨rfl, rfl⟩ := hsl
     obtain ⟨z, hz⟩ : ∃ z, os[j]? = some z := ⟨_, List.getElem?_eq_getElem (by rw [HOL.out]; exact hjm)⟩
     have hzb := HOB.out z (List.mem_of_getElem? hz)
     obtain ⟨z, rfl⟩ := Int.eq_ofNat_of_zero_le hzb.1
     obtain ⟨s, hs⟩ : ∃ s, ps[z]? = some s := ⟨_, List.getElem?_eq_getElem (by rw [HPN.out]; omega)⟩
     have x1 : wr.cell? ⟨g6, j, none⟩ = some (.int .i64 (z : Nat)) := by rw [hbel.cell (p := ⟨g6, j, none⟩) HO6.out.lt, HO6.out.cell j (by omega), ints_at _ _ _ hz]
     have x2 : wr.cell? ⟨gp, z, none⟩ = some (.string s) := by rw [hbel.cell (p := ⟨gp, z, none⟩) hOP.lt, hOP.cell z (by omega), strs_at _ _ _ hs]
     have hs8 := HSM.out s (List.mem_of_getElem? hs)
     have i1 : (0 : Int) ≤ (j : Int) := by omega
     have i2 : (j : Int) < (pn : Int) := by omega
     have i3 : (0 : Int) ≤ (z : Int) := by omega
     have i4 : (z : Int) < (pn : Int) := by omega
     clear hz hs hzb hOP
     go_wp2_with (at_builtin; refine wpList_append_own _ rfl _ _ 24 rfl w6.heap.size 9 s0 _ 1 16 Try.underlying24 hsi hy0 hy1 hy2 rfl (by decide) _ _ _ rfl (hown.alloc _) ⟨wr.heap.size, 0, none⟩ 1 1 [.string s] rfl rfl (by intro j u hj; rw [Addr.add_spot]; exact keep_newz (by simp) (by simpa using hj)) (by intro u hu; simp at hu; subst hu; rfl) (by unfold maxLen; omega) (by omega) (by simp; omega) ?_; intro v' w7 hown' hgrow _)
     have hbel7 : Below w6.heap.size w6 w7 := Below.grown (by (exact grownA)) hgrow (by simp; omega) (own_ge hown)
     clear hgrow hown
     go_roundw
     case rel =>
      refine ⟨j + 1, ms ++ [s], by go_num, by omega, by unfold Hid; rw [List.length_append, HML.out]; rfl, StSmall.snoc HMS.out hs8, ?_, hbel7⟩
      have e9 : strs (ms ++ [s]) = strs ms ++ [.string s] := by simp [strs]
      rw [e9]; exact hown'
     case measure => simp [intOf]; omega
    ·
     obtain rfl : j = pn := by omega
     have hX7 := HX6.out.below hbel
     obtain ⟨t1, t2, t3, f1, f2, f3, tlt⟩ := hX7.net.three
     have hml := HML.out
     have hrd : Rds wr u11 ms.length 1 (strs ms) := by rw [hml]; exact Rds.ofOwns hown
     have HRD := Lib.hid hrd
     have hmsl : ms.length ≤ 2000000 := by omega
     have hnew : Hid (StSmall (newE o e m ms).2.2.2 ∧ (newE o e m ms).2.2.2.length ≤ 10) := by
      unfold Hid newE
      split
      ·
       exact ⟨HMS.out, by show ms.length ≤ 10; omega⟩
      ·
       exact ⟨(fun s hs => by cases hs), by simp⟩
     clear hrd hml hown
     go_wp2_with fail
     refine (sExchangeNew_any o e m _ ms _ HRD.out hmsl HMS.out.len).mono ?_
     rintro en w8 ⟨vq, vr, rfl, ho8, hb8⟩
     have hX8 := hX7.below hb8
     obtain ⟨⟨O2, E2, M2, qs⟩, hne⟩ : ∃ z, newE o e m ms = z := ⟨_, rfl⟩
     have hnn := hnew.out
     rw [hne] at ho8 hnn ⊢
     obtain ⟨hqs, hql⟩ := hnn
     have HQS := Lib.hid hqs
     simp only at ho8 hql
     have hz8 := hb8.size
     have hn8 := hX7.net.lt
     have ho8b := ho8.lower (base' := nb + 1) (by omega)
     have hEB := Blk.new (w := w8) (cs := #[.int .i64 O2, .int .i64 E2, .int .i64 M2, vq, vr]) (T := 33) rfl
     have ap1 := own_new8 ho8.plan
     have ap2 := own_new8 ho8.calls
     have hX9 := hX8.alloc (.cells #[.int .i64 O2, .int .i64 E2, .int .i64 M2, vq, vr] 33)
     have ho9 : ExOwn (w8.alloc (.cells #[.int .i64 O2, .int .i64 E2, .int .i64 M2, vq, vr] 33)) (nb + 1) vq vr qs [] := ho8b.below (by (exact grownA))
     obtain ⟨aq, cq, ar, cr, rfl, rfl⟩ := agg_parts ho8
     have hnb8 : nb < w8.heap.size := by omega
     clear hX7 hX8 ho8 ho8b hb8 hne hnew hqs t1 t2 t3 f1 f2 f3 tlt
     go_wp2_with fail
     refine (pick_any rb (p + 3 + k + j) _ _ hX9.rdr (by omega) (by omega)).mono ?_
     rintro en w9 ⟨y, rfl, hya, hyb, hr10, hg10⟩
     have hX10 := hX9.pick hr10 hg10
     have ho10 : ExOwn w9 (nb + 1) (.slice aq qs.length cq) (.slice ar ([] : List Cl).length cr) qs [] := ho9.kept hg10 (far_of ho9.plan (by omega)) (far_of ho9.calls (by omega))
     have hE10 := hEB.gb hg10 (by omega)
     obtain ⟨yn, rfl⟩ := Int.eq_ofNat_of_zero_le hya
     have hyn : yn ≤ 23 := by omega
     obtain ⟨eb, heb⟩ : ∃ eb, w8.heap.size = eb := ⟨_, rfl⟩
     rw [heb] at hE10 ap1 ap2 hnb8 hz8
     have hq0 : p + 3 + k + j + 1 ≤ p + 24 := by omega
     clear hX9 ho9 hEB hr10 hg10 hya hyb
     go_wp2_with fail
     try rw [heb]
     -- LOOP3
     have hL0 : XeL w w9 rb (p + 3 + k + j + 1) nb eb o e m O2 E2 M2 (.slice aq qs.length cq) (.slice ar ([] : List Cl).length cr) qs [] := ⟨hX10, hE10, ho10, ap1, ap2, HQS.out, hql, by simp, hnb8⟩
     clear hX10 hE10 ho10 ap1 ap2 HQS hql
     go_loopw [14] (fun t wr => ∃ (c q : Nat) (O2 E2 M2 : Int) (vq vr : Value) (qs : List ByteArray) (cs : List Cl), t = .int .i64 c ∧ c ≤ 23 ∧ q + 31 * c ≤ p + 24 + 31 * 23 ∧ p ≤ q ∧ XeL w wr rb q nb eb o e m O2 E2 M2 vq vr qs cs) (fun t _ => (intOf t).toNat)
     case atStart => exact ⟨yn, _, _, _, _, _, _, _, _, rfl, hyn, by omega, by omega, hL0⟩
     case round =>
      clear hL0
      obtain ⟨c, q, O2, E2, M2, vq, vr, qs, cs, rfl, hc, hq1, hq2, hL⟩ := hrel
      obtain ⟨aq, cq, ar, cr, rfl, rfl⟩ := agg_parts hL.own
      have hf := hL.far
      have hlt := hL.box.lt
      by_cases hc0 : 0 < c
      ·
       go_upto_region 21 with fail
       go_cut [15, 16] (fun t15 t16 wc => ∃ (xb q2 : Nat) (b' : Bool) (O3 E3 M3 : Int) (vp' vc' : Value) (ps' : List ByteArray) (cs' : List Cl), t15 = .pointer (some ⟨xb, 0, none⟩) ∧ t16 = .bool b' ∧ q ≤ q2 ∧ q2 ≤ q + 30 ∧ XeL w wc rb q2 nb eb o e m O2 E2 M2 (.slice aq qs.length cq) (.slice ar cs.length cr) qs cs ∧ Blk wc xb #[.int .i64 O3, .int .i64 E3, .int .i64 M3, vp', vc'] 33 ∧ ExOwn wc (eb + 1) vp' vc' ps' cs' ∧ Hid (StSmall ps') ∧ ps'.length ≤ 10 ∧ cs'.length ≤ 12)
       case first =>
         obtain ⟨e0, e1, e2, e3, e4, -, -, -, -, -, elt⟩ := hL.box.five
         go_wp2_with fail
         refine wp_region_held_drew (S := fun w' => w'.cell? ⟨eb, 0, none⟩ = some (.int .i64 O2) ∧ w'.cell? ⟨eb, 1, none⟩ = some (.int .i64 E2) ∧ w'.cell? ⟨eb, 2, none⟩ = some (.int .i64 M2) ∧ w'.cell? ⟨eb, 3, none⟩ = some (.slice aq qs.length cq) ∧ w'.cell? ⟨eb, 4, none⟩ = some (.slice ar cs.length cr)) (by kernel_rfl) ⟨e0, e1, e2, e3, e4⟩ (fun hHeld => ?_)
         refine take_y 0 90 (v := ?_) rfl ?_ ?_; rotate_left; focus (intro w hSw; (try dsimp only at hSw); go_simp; (try rw [if_neg (by omega)]); (try with_reducible rfl))
         try simp only [Act.put, zp1, zp2, zp3]
         refine take_y 1 91 (v := ?_) rfl ?_ ?_; rotate_left; focus (intro w hSw; (try dsimp only at hSw); go_simp; (try rw [if_neg (by omega)]); (try with_reducible rfl))
         try simp only [Act.put, zp1, zp2, zp3]
         refine take_y 2 92 (v := ?_) rfl ?_ ?_; rotate_left; focus (intro w hSw; (try dsimp only at hSw); go_simp; (try rw [if_neg (by omega)]); (try with_reducible rfl))
         try simp only [Act.put, zp1, zp2, zp3]
         clear e0 e1 e2 e3 e4 elt
         have hLs := hL.drew
         have HLS := Lib.hid hLs
         clear hLs
         refine wpAnyH_ready (rs := [3, 8]) (by kernel_rfl) (by simp) ?_
         refine AllReadyH.cons rfl (fun K hK => ?_) (AllReadyH.cons rfl (fun K hK => ?_) AllReadyH.nil)
         focus
          go_simp
          refine (l20ExDeed_any rb q O2 E2 M2 _ _ qs _ HLS.out.b.rdr (by omega) (Rds.ofOwns HLS.out.own.plan) ⟨_, _, _, rfl⟩ (by have := HLS.out.ln; omega) HLS.out.st (fun a n' c h e => by have h1 := own_ge HLS.out.own.plan a.block (by rw [h]; rfl); have h2 := HLS.out.b.old; have h3 := HLS.out.b.big; cases e; omega)).mono ?_
          rintro en w1 ⟨kd, ld, sd, qd, rfl, hsd, hqa, hqb, hrd, hgd⟩
          have hLn := HLS.out.pick hrd hgd
          refine hK.out _ _ (by obtain ⟨e0, e1, e2, e3, e4, -⟩ := hLn.box.five; exact ⟨e0, e1, e2, e3, e4⟩) (fun hHeld2 => ?_)
          clear hHeld hK K; have hHeld := hHeld2; clear hHeld2; try simp only [Act.put, zp1, zp2, zp3]
          have HLN := Lib.hid hLn
          clear HLS hLn hrd hgd
          have HLS := HLN
          clear HLN
          refine wpAnyH_ready (rs := [4, 8]) (by kernel_rfl) (by simp) ?_
          refine AllReadyH.cons rfl (fun K hK => ?_) (AllReadyH.cons rfl (fun K hK => ?_) AllReadyH.nil)
          focus
           go_simp
           have hbx := HLS.out.box.lt
           refine (sExDo_any O2 E2 M2 _ _ qs cs kd ld sd _ HLS.out.own.rd (own_somev HLS.out.own.plan) HLS.out.st.len (by unfold maxLen; omega)).mono ?_
           intro en w2 hq3
           obtain ⟨hd1, hd2, hd3⟩ := doR_draw O2 E2 M2 qs cs kd ld sd
           have hq4 := doXQ_res hq3
           obtain ⟨⟨⟨O3, E3, M3⟩, ⟨ps3, cs3⟩, b3⟩, hr3⟩ : ∃ r, doR O2 E2 M2 qs cs kd ld sd = r := ⟨_, rfl⟩
           rw [hr3] at hd1 hd2 hd3 hq4
           obtain ⟨vp3, vc3, rfl, ho3, hb3⟩ := hq4
           simp only at hd1 hd2 hd3 ho3
           have HS3 := Lib.hid hd1
           have hl3 := hd2
           have hc3 := hd3
           obtain ⟨ap, cp, ac, cc, rfl, rfl⟩ := agg_parts ho3
           have hLn := HLS.out.below hb3
           have hB3 := hbx
           refine hK.out _ _ (by obtain ⟨e0, e1, e2, e3, e4, -⟩ := hLn.box.five; exact ⟨e0, e1, e2, e3, e4⟩) (fun hHeld2 => ?_)
           clear hHeld hK K; have hHeld := hHeld2; clear hHeld2; try simp only [Act.put, zp1, zp2, zp3]
           have HLN := Lib.hid hLn
           clear HLS hLn hb3 hq3 hr3 hd1 hd2 hd3 hbx
           have HLS := HLN
           clear HLN
           refine take_y 5 89 (v := ?_) rfl ?_ ?_; rotate_left; focus (intro w hSw; (try dsimp only at hSw); go_simp; (try rw [if_neg (by omega)]); (try with_reducible rfl))
           try simp only [Act.put, zp1, zp2, zp3]
           refine take_y 6 95 (v := ?_) rfl ?_ ?_; rotate_left; focus (intro w hSw; (try dsimp only at hSw); go_simp; (try rw [if_neg (by omega)]); (try with_reducible rfl))
           try simp only [Act.put, zp1, zp2, zp3]
           refine take_y 7 96 (v := ?_) rfl ?_ ?_; rotate_left; focus (intro w hSw; (try dsimp only at hSw); go_simp; (try rw [if_neg (by omega)]); (try with_reducible rfl))
           try simp only [Act.put, zp1, zp2, zp3]
           refine wpAnyH_ready (rs := [8]) (by kernel_rfl) (by simp) ?_
           refine AllReadyH.cons rfl (fun K hK => ?_) AllReadyH.nil
           go_simp
           refine hK.out _ _ (by obtain ⟨e0, e1, e2, e3, e4, -⟩ := (HLS.out.alloc (.cells #[.int .i64 0, .int .i64 0, .int .i64 0, .slice none 0 0, .slice none 0 0] 33)).box.five; exact ⟨e0, e1, e2, e3, e4⟩) (fun hHeld2 => ?_)
           clear hHeld hK K; have hHeld := hHeld2; clear hHeld2; try simp only [Act.put, zp1, zp2, zp3]
           refine wpAnyH_ready (rs := [9]) (by kernel_rfl) (by simp) ?_
           refine AllReadyH.cons rfl (fun K hK => ?_) AllReadyH.nil
           go_simp
           refine hK.out _ _ (by obtain ⟨e0, e1, e2, e3, e4, -⟩ := (HLS.out.alloc (.cells #[.int .i64 _, .int .i64 _, .int .i64 _, .slice ap ps3.length cp, .slice ac cs3.length cc] 33)).box.five; exact ⟨e0, e1, e2, e3, e4⟩) (fun hHeld2 => ?_)
           clear hHeld hK K; have hHeld := hHeld2; clear hHeld2; try simp only [Act.put, zp1, zp2, zp3]
           refine take_y 10 16 (v := ?_) rfl ?_ ?_; rotate_left; focus (intro w hSw; (try dsimp only at hSw); go_simp; (try rw [if_neg (by omega)]); (try with_reducible rfl))
           try simp only [Act.put, zp1, zp2, zp3]
           refine wpAnyH_done (by kernel_rfl) ?_ _
           clear hHeld
           go_wp2_with fail
           go_meet
           exact ⟨_, qd, _, _, _, _, _, _, ps3, cs3, rfl, rfl, hqa, hqb, HLS.out.alloc _, Blk.new rfl, (ho3.lower hB3).below (by (exact grownA)), HS3, hl3, hc3⟩
          focus
           go_simp
           have hx1 := own_new8 HLS.out.own.plan
           have hx2 := own_new8 HLS.out.own.calls
           have hxe := HLS.out.box.lt
           have hXb := Blk.new (w := w1) (cs := #[.int .i64 0, .int .i64 0, .int .i64 0, .slice none 0 0, .slice none 0 0]) (T := 33) (b := w1.heap.size) rfl
           have hLn := HLS.out.alloc (.cells #[.int .i64 0, .int .i64 0, .int .i64 0, .slice none 0 0, .slice none 0 0] 33)
           obtain ⟨xb, hxb⟩ : ∃ xb, w1.heap.size = xb := ⟨_, rfl⟩
           have hxe' : eb < xb := by rw [← hxb]; exact hxe
           refine hK.out _ _ (by obtain ⟨e0, e1, e2, e3, e4, -⟩ := hLn.box.five; exact ⟨e0, e1, e2, e3, e4⟩) (fun hHeld2 => ?_)
           clear hHeld hK K; have hHeld := hHeld2; clear hHeld2; try simp only [Act.put, zp1, zp2, zp3]
           have HLN := Lib.hid hLn
           clear HLS hLn hxe
           have HLS := HLN
           have hxe := hxe'
           clear HLN hxe'
           try simp only [World.size_drew] at hx1 hx2
           rw [hxb] at hx1 hx2 hXb ⊢
           clear hxb
           refine wpAnyH_ready (rs := [4]) (by kernel_rfl) (by simp) ?_
           refine AllReadyH.cons rfl (fun K hK => ?_) AllReadyH.nil
           go_simp
           have hbx := HLS.out.box.lt
           refine (sExDo_any O2 E2 M2 _ _ qs cs kd ld sd _ HLS.out.own.rd (own_somev HLS.out.own.plan) HLS.out.st.len (by unfold maxLen; omega)).mono ?_
           intro en w3 hq3
           obtain ⟨hd1, hd2, hd3⟩ := doR_draw O2 E2 M2 qs cs kd ld sd
           have hq4 := doXQ_res hq3
           obtain ⟨⟨⟨O3, E3, M3⟩, ⟨ps3, cs3⟩, b3⟩, hr3⟩ : ∃ r, doR O2 E2 M2 qs cs kd ld sd = r := ⟨_, rfl⟩
           rw [hr3] at hd1 hd2 hd3 hq4
           obtain ⟨vp3, vc3, rfl, ho3, hb3⟩ := hq4
           simp only at hd1 hd2 hd3 ho3
           have HS3 := Lib.hid hd1
           have hl3 := hd2
           have hc3 := hd3
           obtain ⟨ap, cp, ac, cc, rfl, rfl⟩ := agg_parts ho3
           have hLn := HLS.out.below hb3
           have hB3 := hbx
           have hxB := hXb.lt
           have hXc := hXb.belowAll hb3
           clear hXb
           have hXb := hXc
           clear hXc
           refine hK.out _ _ (by obtain ⟨e0, e1, e2, e3, e4, -⟩ := hLn.box.five; exact ⟨e0, e1, e2, e3, e4⟩) (fun hHeld2 => ?_)
           clear hHeld hK K; have hHeld := hHeld2; clear hHeld2; try simp only [Act.put, zp1, zp2, zp3]
           have HLN := Lib.hid hLn
           clear HLS hLn hb3 hq3 hr3 hd1 hd2 hd3 hbx
           have HLS := HLN
           clear HLN
           refine take_y 5 89 (v := ?_) rfl ?_ ?_; rotate_left; focus (intro w hSw; (try dsimp only at hSw); go_simp; (try rw [if_neg (by omega)]); (try with_reducible rfl))
           try simp only [Act.put, zp1, zp2, zp3]
           refine take_y 6 95 (v := ?_) rfl ?_ ?_; rotate_left; focus (intro w hSw; (try dsimp only at hSw); go_simp; (try rw [if_neg (by omega)]); (try with_reducible rfl))
           try simp only [Act.put, zp1, zp2, zp3]
           refine take_y 7 96 (v := ?_) rfl ?_ ?_; rotate_left; focus (intro w hSw; (try dsimp only at hSw); go_simp; (try rw [if_neg (by omega)]); (try with_reducible rfl))
           try simp only [Act.put, zp1, zp2, zp3]
           obtain ⟨X0, X1, X2, X3, X4, Y0, Y1, Y2, Y3, Y4, Xlt⟩ := hXb.five
           have hW := HLS.out.put (xb := xb) (y0 := .int .i64 O3) (y1 := .int .i64 E3) (y2 := .int .i64 M3) (y3 := .slice ap ps3.length cp) (y4 := .slice ac cs3.length cc) hxe hx1 hx2
           have ho4 := ho3.result (b := xb) (.int .i64 O3) (.int .i64 E3) (.int .i64 M3) (.slice ap ps3.length cp) (.slice ac cs3.length cc) hxB
           refine wpAnyH_ready (rs := [9]) (by kernel_rfl) (by simp) ?_
           refine AllReadyH.cons rfl (fun K hK => ?_) AllReadyH.nil
           go_simp
           refine hK.out _ _ (by obtain ⟨e0, e1, e2, e3, e4, -⟩ := hW.box.five; exact ⟨e0, e1, e2, e3, e4⟩) (fun hHeld2 => ?_)
           clear hHeld hK K; have hHeld := hHeld2; clear hHeld2; try simp only [Act.put, zp1, zp2, zp3]
           refine take_y 10 16 (v := ?_) rfl ?_ ?_; rotate_left; focus (intro w hSw; (try dsimp only at hSw); go_simp; (try rw [if_neg (by omega)]); (try with_reducible rfl))
           try simp only [Act.put, zp1, zp2, zp3]
           refine wpAnyH_done (by kernel_rfl) ?_ _
           clear hHeld
           go_wp2_with fail
           go_meet
           exact ⟨xb, qd, _, _, _, _, _, _, ps3, cs3, rfl, rfl, hqa, hqb, hW, five_set hXb, ho4.lower hB3, HS3, hl3, hc3⟩
         focus
          go_simp
          have hx1 := own_new8 HLS.out.own.plan
          have hx2 := own_new8 HLS.out.own.calls
          have hxe := HLS.out.box.lt
          have hXb := Blk.new (w := wr.drew) (cs := #[.int .i64 0, .int .i64 0, .int .i64 0, .slice none 0 0, .slice none 0 0]) (T := 33) (b := wr.heap.size) rfl
          have hLn := HLS.out.alloc (.cells #[.int .i64 0, .int .i64 0, .int .i64 0, .slice none 0 0, .slice none 0 0] 33)
          obtain ⟨xb, hxb⟩ : ∃ xb, wr.heap.size = xb := ⟨_, rfl⟩
          have hxe' : eb < xb := by rw [← hxb]; exact hxe
          refine hK.out _ _ (by obtain ⟨e0, e1, e2, e3, e4, -⟩ := hLn.box.five; exact ⟨e0, e1, e2, e3, e4⟩) (fun hHeld2 => ?_)
          clear hHeld hK K; have hHeld := hHeld2; clear hHeld2; try simp only [Act.put, zp1, zp2, zp3]
          have HLN := Lib.hid hLn
          clear HLS hLn hxe
          have HLS := HLN
          have hxe := hxe'
          clear HLN hxe'
          try simp only [World.size_drew] at hx1 hx2
          rw [hxb] at hx1 hx2 hXb ⊢
          clear hxb
          refine wpAnyH_ready (rs := [3]) (by kernel_rfl) (by simp) ?_
          refine AllReadyH.cons rfl (fun K hK => ?_) AllReadyH.nil
          go_simp
          refine (l20ExDeed_any rb q O2 E2 M2 _ _ qs _ HLS.out.b.rdr (by omega) (Rds.ofOwns HLS.out.own.plan) ⟨_, _, _, rfl⟩ (by have := HLS.out.ln; omega) HLS.out.st (fun a n' c h e => by have h1 := own_ge HLS.out.own.plan a.block (by rw [h]; rfl); have h2 := HLS.out.b.old; have h3 := HLS.out.b.big; cases e; omega)).mono ?_
          rintro en w4 ⟨kd, ld, sd, qd, rfl, hsd, hqa, hqb, hrd, hgd⟩
          have hLn := HLS.out.pick hrd hgd
          have hXc := hXb.gb hgd (by have h2 := HLS.out.b.old; have h3 := HLS.out.b.big; omega)
          clear hXb
          have hXb := hXc
          clear hXc
          refine hK.out _ _ (by obtain ⟨e0, e1, e2, e3, e4, -⟩ := hLn.box.five; exact ⟨e0, e1, e2, e3, e4⟩) (fun hHeld2 => ?_)
          clear hHeld hK K; have hHeld := hHeld2; clear hHeld2; try simp only [Act.put, zp1, zp2, zp3]
          have HLN := Lib.hid hLn
          clear HLS hLn hrd hgd
          have HLS := HLN
          clear HLN
          refine wpAnyH_ready (rs := [4]) (by kernel_rfl) (by simp) ?_
          refine AllReadyH.cons rfl (fun K hK => ?_) AllReadyH.nil
          go_simp
          have hbx := HLS.out.box.lt
          refine (sExDo_any O2 E2 M2 _ _ qs cs kd ld sd _ HLS.out.own.rd (own_somev HLS.out.own.plan) HLS.out.st.len (by unfold maxLen; omega)).mono ?_
          intro en w5 hq3
          obtain ⟨hd1, hd2, hd3⟩ := doR_draw O2 E2 M2 qs cs kd ld sd
          have hq4 := doXQ_res hq3
          obtain ⟨⟨⟨O3, E3, M3⟩, ⟨ps3, cs3⟩, b3⟩, hr3⟩ : ∃ r, doR O2 E2 M2 qs cs kd ld sd = r := ⟨_, rfl⟩
          rw [hr3] at hd1 hd2 hd3 hq4
          obtain ⟨vp3, vc3, rfl, ho3, hb3⟩ := hq4
          simp only at hd1 hd2 hd3 ho3
          have HS3 := Lib.hid hd1
          have hl3 := hd2
          have hc3 := hd3
          obtain ⟨ap, cp, ac, cc, rfl, rfl⟩ := agg_parts ho3
          have hLn := HLS.out.below hb3
          have hB3 := hbx
          have hxB := hXb.lt
          have hXc := hXb.belowAll hb3
          clear hXb
          have hXb := hXc
          clear hXc
          refine hK.out _ _ (by obtain ⟨e0, e1, e2, e3, e4, -⟩ := hLn.box.five; exact ⟨e0, e1, e2, e3, e4⟩) (fun hHeld2 => ?_)
          clear hHeld hK K; have hHeld := hHeld2; clear hHeld2; try simp only [Act.put, zp1, zp2, zp3]
          have HLN := Lib.hid hLn
          clear HLS hLn hb3 hq3 hr3 hd1 hd2 hd3 hbx
          have HLS := HLN
          clear HLN
          refine take_y 5 89 (v := ?_) rfl ?_ ?_; rotate_left; focus (intro w hSw; (try dsimp only at hSw); go_simp; (try rw [if_neg (by omega)]); (try with_reducible rfl))
          try simp only [Act.put, zp1, zp2, zp3]
          refine take_y 6 95 (v := ?_) rfl ?_ ?_; rotate_left; focus (intro w hSw; (try dsimp only at hSw); go_simp; (try rw [if_neg (by omega)]); (try with_reducible rfl))
          try simp only [Act.put, zp1, zp2, zp3]
          refine take_y 7 96 (v := ?_) rfl ?_ ?_; rotate_left; focus (intro w hSw; (try dsimp only at hSw); go_simp; (try rw [if_neg (by omega)]); (try with_reducible rfl))
          try simp only [Act.put, zp1, zp2, zp3]
          obtain ⟨X0, X1, X2, X3, X4, Y0, Y1, Y2, Y3, Y4, Xlt⟩ := hXb.five
          have hW := HLS.out.put (xb := xb) (y0 := .int .i64 O3) (y1 := .int .i64 E3) (y2 := .int .i64 M3) (y3 := .slice ap ps3.length cp) (y4 := .slice ac cs3.length cc) hxe hx1 hx2
          have ho4 := ho3.result (b := xb) (.int .i64 O3) (.int .i64 E3) (.int .i64 M3) (.slice ap ps3.length cp) (.slice ac cs3.length cc) hxB
          refine wpAnyH_ready (rs := [9]) (by kernel_rfl) (by simp) ?_
          refine AllReadyH.cons rfl (fun K hK => ?_) AllReadyH.nil
          go_simp
          refine hK.out _ _ (by obtain ⟨e0, e1, e2, e3, e4, -⟩ := hW.box.five; exact ⟨e0, e1, e2, e3, e4⟩) (fun hHeld2 => ?_)
          clear hHeld hK K; have hHeld := hHeld2; clear hHeld2; try simp only [Act.put, zp1, zp2, zp3]
          refine take_y 10 16 (v := ?_) rfl ?_ ?_; rotate_left; focus (intro w hSw; (try dsimp only at hSw); go_simp; (try rw [if_neg (by omega)]); (try with_reducible rfl))
          try simp only [Act.put, zp1, zp2, zp3]
          refine wpAnyH_done (by kernel_rfl) ?_ _
          clear hHeld
          go_wp2_with fail
          go_meet
          exact ⟨xb, qd, _, _, _, _, _, _, ps3, cs3, rfl, rfl, hqa, hqb, hW, five_set hXb, ho4.lower hB3, HS3, hl3, hc3⟩
       case rest =>
        obtain ⟨w10, rfl⟩ : ∃ wo : World, wo = wc := ⟨_, rfl⟩
        clear hL
        obtain ⟨xb, q2, b', O3, E3, M3, vp', vc', ps', cs', rfl, rfl, hqa, hqb, hL, hXb, ho3, HS3, hl3, hc3⟩ := hcut
        obtain ⟨ap, cp, ac, cc, rfl, rfl⟩ := agg_parts ho3
        obtain ⟨e0, e1, e2, e3, e4, g0, g1, g2, g3, g4, elt⟩ := hL.box.five
        obtain ⟨X0, X1, X2, X3, X4, -, -, -, -, -, Xlt⟩ := hXb.five
        have hLn := hL.next (O3 := O3) (E3 := E3) (M3 := M3) ho3 (Nat.lt_succ_self _) HS3.out hl3 hc3
        cases b'
        ·
         go_wp2_with fail
         go_roundw
         case rel => exact ⟨c - 1, q2, _, _, _, _, _, _, _, by go_num, by omega, by omega, by omega, hL⟩
         case measure => simp [intOf]; omega
        ·
         go_wp2_with fail
         go_roundw
         case rel => exact ⟨c - 1, q2, _, _, _, _, _, _, _, by go_num, by omega, by omega, by omega, hLn⟩
         case measure => simp [intOf]; omega
      ·
       obtain rfl : c = 0 := by omega
       have hXN := hL.b.big
       have hXO := hL.b.old
       go_wp2_with fail
       refine (odd_any rb q n _ hL.b.rdr (by omega) hn).mono ?_
       rintro en wA ⟨b, qA, rfl, -, hqa, hqb, hrA, hgA⟩
       have hLA := hL.pick hrA hgA
       clear hL hrA hgA
       cases b
       ·
        obtain ⟨e0, e1, e2, e3, e4, -, -, -, -, -, elt⟩ := hLA.box.five
        obtain ⟨r0, r1, r2, r3, r4, f0, f1, f2, f3, f4, rlt⟩ := hLA.b.res.five
        go_wp2
        obtain ⟨z0, z1, z2, z3, z4, -⟩ := (five_set (y0 := .int .i64 O2) (y1 := .int .i64 E2) (y2 := .int .i64 M2) (y3 := .slice aq qs.length cq) (y4 := .slice ar cs.length cr) hLA.b.res).five
        refine bodyPost_ret (v := .agg #[.int .i64 O2, .int .i64 E2, .int .i64 M2, .slice aq qs.length cq, .slice ar cs.length cr]) (by simp [results, Try.results81, go_sem, z0, z1, z2, z3, z4]) rfl ?_
        exact ex_done hLA.b hLA.own (by have := hLA.ln; omega) (by have := hLA.cn; omega) hLA.st (by omega) (by omega)
       ·
        go_wp2_with fail
        refine (pick_any rb qA _ _ hLA.b.rdr (by omega) (by omega)).mono ?_
        rintro en wB ⟨y, rfl, hya, hyb, hrB, hgB⟩
        have hLB := hLA.pick hrB hgB
        clear hLA hrB hgB
        have HLB := Lib.hid hLB
        obtain ⟨e0, e1, e2, e3, e4, g0, g1, g2, g3, g4, elt⟩ := hLB.box.five
        obtain ⟨r0, r1, r2, r3, r4, f0, f1, f2, f3, f4, rlt⟩ := hLB.b.res.five
        have hpl := hLB.own.plan
        have hcl := hLB.own.calls
        have hqn := hLB.ln
        have hcn := hLB.cn
        have hft := hLB.far
        have hnl9 := hLB.b.net.lt
        have hbl9 := hLB.box.lt
        obtain ⟨x9, hx9⟩ : ∃ x9, IntKind.i64.wrap (E2 - 1) = x9 := ⟨_, rfl⟩
        have hne1 : ¬ (eb = w.heap.size) := by omega
        have hne2 : ¬ (w.heap.size = eb) := by omega
        have hy4 : y = 0 ∨ y = 1 ∨ y = 2 ∨ y = 3 := by omega
        clear hLB
        rcases hy4 with rfl | rfl | rfl | rfl
        ·
         have hXC := HLB.out.b.kept (gb_set (j := 2) (u := .int .i64 x9) (World.grownBy.refl wB (some eb))) (fun b hb => by cases hb; omega)
         have hOC := HLB.out.own.kept (gb_set (j := 2) (u := .int .i64 x9) (World.grownBy.refl wB (some eb))) HLB.out.ap1 HLB.out.ap2
         have HXC := Lib.hid hXC
         have HOC := Lib.hid hOC
         clear hXC hOC hpl hcl
         go_wp2
         obtain ⟨z0, z1, z2, z3, z4, -⟩ := (five_set (y0 := .int .i64 O2) (y1 := .int .i64 E2) (y2 := .int .i64 x9) (y3 := .slice aq qs.length cq) (y4 := .slice ar cs.length cr) HXC.out.res).five
         refine bodyPost_ret (v := .agg #[.int .i64 O2, .int .i64 E2, .int .i64 x9, .slice aq qs.length cq, .slice ar cs.length cr]) (by simp [results, Try.results81, go_sem, z0, z1, z2, z3, z4]) rfl ?_
         exact ex_done HXC.out HOC.out (by omega) (by omega) HLB.out.st (by omega) (by omega)
        ·
         have hpa := hpl
         have hca := hcl
         go_wp2_with (at_builtin; refine wpList_append_own _ rfl _ _ 24 rfl (nb + 1) 9 s0 _ 1 16 Try.underlying24 hsi hy0 hy1 hy2 rfl (by decide) _ _ _ rfl (hpl.alloc _) ⟨wB.heap.size, 0, none⟩ 1 1 [.string ⟨#[51]⟩] rfl rfl (by intro j u hj; rw [Addr.add_spot]; exact keep_newz (by simp) (by simpa using hj)) (by intro u hu; simp at hu; subst hu; rfl) (by unfold maxLen; omega) (by omega) (by simp; omega) ?_; intro v' wC hown' hgrow _; obtain ⟨av', cv', rfl⟩ := own_len9 hown'; have hbC := Blk.gbr hgrow (ap_ne HLB.out.ap1) (HLB.out.box.alloc _); have hXC := (HLB.out.b.alloc _).kept hgrow (fun b hb => by have := own_ge hpl b hb; omega); obtain ⟨E0, E1, E2', E3, E4, G0, G1, G2, G3, G4, Elt⟩ := hbC.five; obtain ⟨R0, R1, R2, R3, R4, F0, F1, F2, F3, F4, Rlt⟩ := hXC.res.five; (try clear e0); (try clear e1); (try clear e2); (try clear e3); (try clear e4); (try clear g0); (try clear g1); (try clear g2); (try clear g3); (try clear g4); (try clear elt); (try clear r0); (try clear r1); (try clear r2); (try clear r3); (try clear r4); (try clear f0); (try clear f1); (try clear f2); (try clear f3); (try clear f4); (try clear rlt))
         have hcC := (hca.alloc (.cells #[.string ⟨#[51]⟩] 9)).kept hgrow (own_two hca hpa (by decide))
         have hown2 : wC.ownsRow (nb + 1) 9 1 (.slice av' (qs.length + 1) cv') (qs ++ [(⟨#[51]⟩ : ByteArray)]).length (strs (qs ++ [⟨#[51]⟩])) := by
          have hlen : (qs ++ [(⟨#[51]⟩ : ByteArray)]).length = qs.length + 1 := by simp
          have hstr : strs (qs ++ [⟨#[51]⟩]) = strs qs ++ [.string ⟨#[51]⟩] := by simp [strs]
          rw [hlen, hstr]
          exact hown'
         have hXD := hXC.kept (gb_set (j := 3) (u := .slice av' (qs.length + 1) cv') (World.grownBy.refl wC (some eb))) (fun b hb => by cases hb; omega)
         have hoD : ExOwn (wC.setCell ⟨eb, 3, none⟩ (.slice av' (qs.length + 1) cv')) (nb + 1) (.slice av' (qs.length + 1) cv') (.slice ar cs.length cr) (qs ++ [⟨#[51]⟩]) cs := ExOwn.kept (gb_set (j := 3) (u := .slice av' (qs.length + 1) cv') (World.grownBy.refl wC (some eb))) (own_typed hown2 hbC (by decide)) HLB.out.ap2 ⟨hown2, hcC, own_two hown2 hcC (by decide)⟩
         obtain ⟨z0, z1, z2, z3, z4, -⟩ := (five_set (y0 := .int .i64 O2) (y1 := .int .i64 E2) (y2 := .int .i64 M2) (y3 := .slice av' (qs.length + 1) cv') (y4 := .slice ar cs.length cr) hXD.res).five
         refine bodyPost_ret (v := .agg #[.int .i64 O2, .int .i64 E2, .int .i64 M2, .slice av' (qs.length + 1) cv', .slice ar cs.length cr]) (by simp [results, Try.results81, go_sem, z0, z1, z2, z3, z4]) rfl ?_
         exact ex_done hXD hoD (by simp; omega) (by omega) (StSmall.snoc HLB.out.st (by decide)) (by omega) (by omega)
        ·
         have hpa := hpl
         have hca := hcl
         go_wp2_with (at_builtin; refine wpList_append_own _ rfl _ _ 31 rfl (nb + 1) 57 k0 _ 3 24 Try.underlying31 hci hx0 hx1 hx2 rfl (by decide) _ _ _ rfl (hcl.alloc _) ⟨wB.heap.size, 0, none⟩ 1 1 [.int .i64 0, .int .i64 0, .int .i64 0] rfl rfl (news3 _ _ _ _ _ _ (by first | rfl | simp)) (oneC _ _ _) (by unfold maxLen; omega) (by omega) (by simp; omega) ?_; intro v' wC hown' hgrow _; obtain ⟨av', cv', rfl⟩ := own_len9 hown'; have hbC := Blk.gbr hgrow (ap_ne HLB.out.ap2) (HLB.out.box.alloc _); have hXC := (HLB.out.b.alloc _).kept hgrow (fun b hb => by have := own_ge hcl b hb; omega); obtain ⟨E0, E1, E2', E3, E4, G0, G1, G2, G3, G4, Elt⟩ := hbC.five; obtain ⟨R0, R1, R2, R3, R4, F0, F1, F2, F3, F4, Rlt⟩ := hXC.res.five; (try clear e0); (try clear e1); (try clear e2); (try clear e3); (try clear e4); (try clear g0); (try clear g1); (try clear g2); (try clear g3); (try clear g4); (try clear elt); (try clear r0); (try clear r1); (try clear r2); (try clear r3); (try clear r4); (try clear f0); (try clear f1); (try clear f2); (try clear f3); (try clear f4); (try clear rlt))
         have hpC := (hpa.alloc (.cells #[.int .i64 0, .int .i64 0, .int .i64 0] 57)).kept hgrow (own_two hpa hca (by decide))
         have hown2 : wC.ownsRow (nb + 1) 57 3 (.slice av' (cs.length + 1) cv') (cs ++ [((0, 0, 0) : Cl)]).length (ccells (cs ++ [(0, 0, 0)])) := by
          have hlen : (cs ++ [((0, 0, 0) : Cl)]).length = cs.length + 1 := by simp
          have hstr : ccells (cs ++ [(0, 0, 0)]) = ccells cs ++ [.int .i64 0, .int .i64 0, .int .i64 0] := by rw [ccells_app]; rfl
          rw [hlen, hstr]
          exact hown'
         have hXD := hXC.kept (gb_set (j := 4) (u := .slice av' (cs.length + 1) cv') (World.grownBy.refl wC (some eb))) (fun b hb => by cases hb; omega)
         have hoD : ExOwn (wC.setCell ⟨eb, 4, none⟩ (.slice av' (cs.length + 1) cv')) (nb + 1) (.slice aq qs.length cq) (.slice av' (cs.length + 1) cv') qs (cs ++ [(0, 0, 0)]) := ExOwn.kept (gb_set (j := 4) (u := .slice av' (cs.length + 1) cv') (World.grownBy.refl wC (some eb))) HLB.out.ap1 (own_typed hown2 hbC (by decide)) ⟨hpC, hown2, own_two hpC hown2 (by decide)⟩
         obtain ⟨z0, z1, z2, z3, z4, -⟩ := (five_set (y0 := .int .i64 O2) (y1 := .int .i64 E2) (y2 := .int .i64 M2) (y3 := .slice aq qs.length cq) (y4 := .slice av' (cs.length + 1) cv') hXD.res).five
         refine bodyPost_ret (v := .agg #[.int .i64 O2, .int .i64 E2, .int .i64 M2, .slice aq qs.length cq, .slice av' (cs.length + 1) cv']) (by simp [results, Try.results81, go_sem, z0, z1, z2, z3, z4]) rfl ?_
         exact ex_done hXD hoD (by omega) (by simp; omega) HLB.out.st (by omega) (by omega)
        ·
         clear hpl hcl
         go_wp2
         obtain ⟨z0, z1, z2, z3, z4, -⟩ := (five_set (y0 := .int .i64 0) (y1 := .int .i64 0) (y2 := .int .i64 0) (y3 := .slice none 0 0) (y4 := .slice none 0 0) HLB.out.b.res).five
         refine bodyPost_ret (v := .agg #[.int .i64 0, .int .i64 0, .int .i64 0, .slice none 0 0, .slice none 0 0]) (by simp [results, Try.results81, go_sem, z0, z1, z2, z3, z4]) rfl ?_
         exact ex_done HLB.out.b (ExOwn.nothing _ _) (by simp) (by simp) (fun s hs => by cases hs) (by omega) (by omega)
     -- LOOP3END

end Go.Proofs.Ytedadhoneebfnaa
