/- The draws of deeds, and of an exchange with deeds. -/
import Derived.Test.YtedadhoneebfnaaDwa
set_option linter.unusedSimpArgs false
set_option linter.unusedVariables false
namespace Go.Proofs.Ytedadhoneebfnaa
open Go.RowKit

/-- Where the drawing of deeds stands: the reader and the exchange in its box. -/
structure LdB (w W : World) (rb q xb : Nat) (O E M : Int) (vq vr : Value) (qs : List ByteArray) (cs : List Cl) : Prop where
 gb : w.grownBy W (some rb)
 rdr : Rdr W rb q
 box : Blk W xb #[.int .i64 O, .int .i64 E, .int .i64 M, vq, vr] 33
 own : ExOwn W (rb + 1) vq vr qs cs
 ap1 : vq.ownBlock = none ∨ vq.ownBlock ≠ some xb
 ap2 : vr.ownBlock = none ∨ vr.ownBlock ≠ some xb
 st : StSmall qs
 ln : qs.length ≤ 12
 cn : cs.length ≤ 14
 old : rb < w.heap.size
 big : w.heap.size ≤ xb
section
variable {w W W' : World} {rb q q' xb B n : Nat} {O E M O3 E3 M3 : Int} {vq vr vp' vc' v : Value} {qs ps' : List ByteArray} {cs cs' : List Cl} {xs : List Value}
theorem LdB.pick (h : LdB w W rb q xb O E M vq vr qs cs) (hr : Rdr W' rb q') (hg : W.grownBy W' (some rb)) : LdB w W' rb q' xb O E M vq vr qs cs := by
 have h1 := h.old
 have h2 := h.big
 exact ⟨gb_trans h.gb hg, hr, h.box.gb hg (by omega), h.own.kept hg (far_of h.own.plan (Nat.lt_succ_self _)) (far_of h.own.calls (Nat.lt_succ_self _)), h.ap1, h.ap2, h.st, h.ln, h.cn, h1, h2⟩
theorem LdB.below (h : LdB w W rb q xb O E M vq vr qs cs) (hb : Below W.heap.size W W') : LdB w W' rb q xb O E M vq vr qs cs :=
 ⟨gb_below hb h.gb.size h.gb, h.rdr.below hb h.rdr.lt, h.box.belowAll hb, h.own.below hb, h.ap1, h.ap2, h.st, h.ln, h.cn, h.old, h.big⟩
theorem LdB.alloc (h : LdB w W rb q xb O E M vq vr qs cs) (ob : Obj) : LdB w (W.alloc ob) rb q xb O E M vq vr qs cs := h.below ((Below.refl _ _).alloc (Nat.le_refl _) _)
theorem LdB.kept (h : LdB w W rb q xb O E M vq vr qs cs) (ho : W.ownsRow w.heap.size 68 3 v n xs) (hg : W.grownBy W' v.ownBlock) : LdB w W' rb q xb O E M vq vr qs cs := by
 have h1 := h.old
 exact ⟨gb_low h.gb hg (fun b hb => own_ge ho b hb), h.rdr.kept hg (fun b hb => by have := own_ge ho b hb; omega), Blk.gbr hg (ap_ne (own_typed ho h.box (by decide))) h.box, h.own.kept hg (own_two h.own.plan ho (by decide)) (own_two h.own.calls ho (by decide)), h.ap1, h.ap2, h.st, h.ln, h.cn, h1, h.big⟩
theorem LdB.next (h : LdB w W rb q xb O E M vq vr qs cs) (ho : ExOwn W B vp' vc' ps' cs') (hB : xb < B) (hs : StSmall ps') (hl : ps'.length ≤ 10) (hc : cs'.length ≤ 12) :
  LdB w (((((W.setCell ⟨xb, 0, none⟩ (.int .i64 O3)).setCell ⟨xb, 1, none⟩ (.int .i64 E3)).setCell ⟨xb, 2, none⟩ (.int .i64 M3)).setCell ⟨xb, 3, none⟩ vp').setCell ⟨xb, 4, none⟩ vc') rb q xb O3 E3 M3 vp' vc' ps' cs' := by
 have h1 := h.old
 have h2 := h.big
 exact ⟨gb_low h.gb (five_gb _ _ _ _ _ _ _) (fun b hb => by cases hb; exact h2), h.rdr.kept (five_gb _ _ _ _ _ _ _) (fun b hb => by cases hb; omega), five_set h.box, (ho.result _ _ _ _ _ hB).lower (by omega), far_of ho.plan hB, far_of ho.calls hB, hs, by omega, by omega, h1, h2⟩
end
/-- What l20ExDeeds leaves. -/
def DdsPost (rb p : Nat) (w : World) (e : Ending) (w' : World) : Prop :=
 ∃ (v : Value) (ds : List Ded) (q : Nat), e = .returned v ∧ w'.ownsRow w.heap.size 68 3 v ds.length (dcells ds) ∧ ds.length ≤ 13 ∧ (∀ d ∈ ds, d.2.2.size ≤ 8) ∧ p ≤ q ∧ q ≤ p + 400 ∧ Rdr w' rb q ∧ w.grownBy w' (some rb)

set_option maxRecDepth 100000 in
set_option maxHeartbeats 8000000 in
theorem l20ExDeeds_any (rb p : Nat) (O E M : Int) (vp vc : Value) (ps : List ByteArray) (cs : List Cl) (w : World) (h : Rdr w rb p) (hp : p ≤ 100000) (ho : ExOwn w (rb + 1) vp vc ps cs) (hl : ps.length ≤ 12) (hc : cs.length ≤ 14) (hS : StSmall ps) :
  Calls Try.prog 99 #[.pointer (some ⟨rb, 0, none⟩), .agg #[.int .i64 O, .int .i64 E, .int .i64 M, vp, vc]] w (DdsPost rb p w) := by
 obtain ⟨i0, hi, hz0, hz1, hz2⟩ := info_parts infoD
 obtain ⟨ap, cp, ac, cc, rfl, rfl⟩ := agg_parts ho
 have hold := h.lt
 have hP := (Blk.new (w := w) (cs := #[.int .i64 O, .int .i64 E, .int .i64 M, .slice ap ps.length cp, .slice ac cs.length cc]) (T := 33) rfl)
 have hO0 : ((w.alloc (.cells #[.int .i64 O, .int .i64 E, .int .i64 M, .slice ap ps.length cp, .slice ac cs.length cc] 33)).alloc (.cells #[] 68)).ownsRow w.heap.size 68 3 (.slice (some ⟨w.heap.size + 1, 0, none⟩) 0 0) 0 (dcells []) := by
  have := World.ownsRow_lit (base := w.heap.size) (e := 68) (size := 3) (w.alloc (.cells #[.int .i64 O, .int .i64 E, .int .i64 M, .slice ap ps.length cp, .slice ac cs.length cc] 33)) #[] 0 (by simp) (by unfold maxLen; omega) rfl
  simpa [dcells] using this
 have hL0 : LdB w (((w.alloc (.cells #[.int .i64 O, .int .i64 E, .int .i64 M, .slice ap ps.length cp, .slice ac cs.length cc] 33)).alloc (.cells #[] 68)).alloc (.cells #[.int .i64 O, .int .i64 E, .int .i64 M, .slice ap ps.length cp, .slice ac cs.length cc] 33)) rb p (w.heap.size + 1 + 1) O E M (.slice ap ps.length cp) (.slice ac cs.length cc) ps cs :=
  ⟨gb_alloc (gb_alloc (gb_alloc (World.grownBy.refl _ _))), h.alloc.alloc.alloc, Blk.new (by simp), ho.below (by (exact grownA)), by have := own_lt ho.plan; exact Or.inr (fun e => by have := this _ e; omega), by have := own_lt ho.calls; exact Or.inr (fun e => by have := this _ e; omega), hS, hl, hc, hold, by omega⟩
 have hP2 := hP.alloc (.cells #[] 68)
 have hO1 := hO0.alloc (.cells #[.int .i64 O, .int .i64 E, .int .i64 M, .slice ap ps.length cp, .slice ac cs.length cc] 33)
 obtain ⟨p0, p1, p2, p3, p4, -, -, -, -, -, plt⟩ := hP2.five
 clear h ho hP hO0 hS hP2
 go_enter Try.func99, Try.ntmps99
 go_wp2_with fail
 refine (pick_any rb p _ _ hL0.rdr (by omega) (by omega)).mono ?_
 rintro en w2 ⟨y, rfl, hya, hyb, hr2, hg2⟩
 have hL2 := hL0.pick hr2 hg2
 have hO2 := hO1.kept hg2 (.inr (by simp [Value.ownBlock]; omega))
 obtain ⟨y, rfl⟩ := Int.eq_ofNat_of_zero_le hya
 clear hL0 hO1 hr2 hg2 p0 p1 p2 p3 p4 plt
 go_wp2_with fail
 go_loopw [5, 7] (fun v t wr => ∃ (c q : Nat) (O2 E2 M2 : Int) (vq vr : Value) (qs : List ByteArray) (ds : List Cl) (es : List Ded), t = .int .i64 c ∧ c ≤ 13 ∧ es.length + c ≤ 13 ∧ q + 30 * c ≤ p + 1 + 390 ∧ p ≤ q ∧ Hid (∀ d ∈ es, d.2.2.size ≤ 8) ∧ wr.ownsRow w.heap.size 68 3 v es.length (dcells es) ∧ LdB w wr rb q (w.heap.size + 1 + 1) O2 E2 M2 vq vr qs ds) (fun _ t _ => (intOf t).toNat)
 case atStart => exact ⟨y, p + 1, _, _, _, _, _, _, _, [], rfl, by omega, by simp; omega, by omega, by omega, (fun d hd => by cases hd), hO2, hL2⟩
 case round =>
  clear hL2 hO2
  obtain ⟨c, q, O2, E2, M2, vq, vr, qs, ds, es, rfl, hc, hec, hq1, hq2, HES, hO, hL⟩ := hrel
  obtain ⟨aq, cq, ar, cr, rfl, rfl⟩ := agg_parts hL.own
  obtain ⟨av, cv, rfl⟩ := own_len9 hO
  obtain ⟨en, hen⟩ : ∃ en, es.length = en := ⟨_, rfl⟩
  have HEN := Lib.hid hen
  rw [hen] at hO hec ⊢
  clear hen
  by_cases hc0 : 0 < c
  ·
   obtain ⟨e0, e1, e2, e3, e4, -, -, -, -, -, elt⟩ := hL.box.five
   have hln := hL.ln
   go_wp2_with fail
   refine (l20ExDeed_any rb q O2 E2 M2 _ _ qs _ hL.rdr (by omega) (Rds.ofOwns hL.own.plan) ⟨_, _, _, rfl⟩ hL.ln hL.st (fun a n' c h e => by have h1 := own_ge hL.own.plan a.block (by rw [h]; rfl); cases e; omega)).mono ?_
   rintro en w3 ⟨kd, ld, sd, q3, rfl, hsd, hqa, hqb, hr3, hg3⟩
   have hO3 := (hO.kept hg3 (far_of hO hL.old)).alloc (.cells #[.int .i64 kd, .int .i64 ld, .string sd] 68)
   have hL3 := (hL.pick hr3 hg3).alloc (.cells #[.int .i64 kd, .int .i64 ld, .string sd] 68)
   have hD3 := Blk.new (w := w3) (cs := #[.int .i64 kd, .int .i64 ld, .string sd]) (T := 68) (b := w3.heap.size) rfl
   have hw3 : w.heap.size + 1 + 1 < w3.heap.size := by have := hL.box.lt; have := hg3.size; omega
   clear hL hO hr3 hg3 e0 e1 e2 e3 e4 elt
   obtain ⟨e0, e1, e2, e3, e4, -, -, -, -, -, elt⟩ := hL3.box.five
   obtain ⟨d0, d1, d2, -, -, -, dlt⟩ := hD3.three
   clear e0 e1 e2 e3 e4 elt d0 d1 d2 dlt
   have hln3 := hL3.ln
   have hw4 : w.heap.size + 1 + 1 < (w3.alloc (.cells #[.int .i64 kd, .int .i64 ld, .string sd] 68)).heap.size := hL3.box.lt
   have hdne : ¬ (w.heap.size + 1 + 1 = w3.heap.size) := by omega
   go_upto_region 7 with fail
   go_cut [9, 10] (fun t9 t10 wc => ∃ (yb : Nat) (b3 : Bool) (O3 E3 M3 : Int) (vq3 vr3 : Value) (ps3 : List ByteArray) (cs3 : List Cl), t9 = .pointer (some ⟨yb, 0, none⟩) ∧ t10 = .bool b3 ∧ LdB w wc rb q3 (w.heap.size + 1 + 1) O2 E2 M2 (.slice aq qs.length cq) (.slice ar ds.length cr) qs ds ∧ Blk wc w3.heap.size #[.int .i64 kd, .int .i64 ld, .string sd] 68 ∧ wc.ownsRow w.heap.size 68 3 (.slice av en cv) en (dcells es) ∧ Blk wc yb #[.int .i64 O3, .int .i64 E3, .int .i64 M3, vq3, vr3] 33 ∧ ExOwn wc (w3.alloc (.cells #[.int .i64 kd, .int .i64 ld, .string sd] 68)).heap.size vq3 vr3 ps3 cs3 ∧ Hid (StSmall ps3) ∧ ps3.length ≤ 10 ∧ cs3.length ≤ 12 ∧ ¬ (w.heap.size + 1 + 1 = yb))
   case first =>
    obtain ⟨e0, e1, e2, e3, e4, -, -, -, -, -, elt⟩ := hL3.box.five
    obtain ⟨d0, d1, d2, -, -, -, dlt⟩ := hD3.three
    go_wp2_with fail
    refine (sExDo_any O2 E2 M2 _ _ qs ds kd ld sd _ hL3.own.rd (own_somev hL3.own.plan) hL3.st.len (by unfold maxLen; omega)).mono ?_
    intro en9 w5 hq3
    obtain ⟨hd1, hd2, hd3⟩ := doR_draw O2 E2 M2 qs ds kd ld sd
    have hq4 := doXQ_res hq3
    obtain ⟨⟨⟨O3, E3, M3⟩, ⟨ps3, cs3⟩, b3⟩, hr3⟩ : ∃ r, doR O2 E2 M2 qs ds kd ld sd = r := ⟨_, rfl⟩
    rw [hr3] at hd1 hd2 hd3 hq4
    obtain ⟨vp3, vc3, rfl, ho3, hb3⟩ := hq4
    simp only at hd1 hd2 hd3 ho3
    have HS3 := Lib.hid hd1
    obtain ⟨ap3, cp3, ac3, cc3, rfl, rfl⟩ := agg_parts ho3
    have hal : Below w5.heap.size w5 (w5.alloc (.cells #[.int .i64 O3, .int .i64 E3, .int .i64 M3, .slice ap3 ps3.length cp3, .slice ac3 cs3.length cc3] 33)) := (Below.refl _ _).alloc (Nat.le_refl _) _
    have hL4 := (hL3.below hb3).below hal
    have hD4 := (hD3.belowAll hb3).belowAll hal
    have hO4 := owns_below hal (owns_below hb3 hO3)
    have hz5 := hb3.size
    have hyne : ¬ (w.heap.size + 1 + 1 = w5.heap.size) := by omega
    have ho4 := ho3.below hal
    clear hL3 hD3 hO3 hb3 hq3 hr3 hd1 ho3 hal e0 e1 e2 e3 e4 elt d0 d1 d2 dlt
    go_wp2_with fail
    go_meet
    exact ⟨_, _, _, _, _, _, _, ps3, cs3, rfl, rfl, hL4, hD4, hO4, Blk.new rfl, ho4, HS3, hd2, hd3, hyne⟩
   case rest =>
   clear hL3 hD3 hO3
   obtain ⟨yb, b3, O3, E3, M3, vq3, vr3, ps3, cs3, rfl, rfl, hL4, hD4, hO4, hY4, ho4, HS3, hl3, hc3, hyne⟩ := hcut
   obtain ⟨ap3, cp3, ac3, cc3, rfl, rfl⟩ := agg_parts ho4
   have hB3 := hw4
   generalize wc = w5 at *
   have HES2 : Hid (∀ d ∈ es ++ [(kd, ld, sd)], d.2.2.size ≤ 8) := fun d hd => by
    rcases List.mem_append.1 hd with h | h
    ·
     exact HES.out d h
    ·
     simp at h; subst h; exact hsd
   have hdc : dcells es ++ [.int .i64 kd, .int .i64 ld, .string sd] = dcells (es ++ [(kd, ld, sd)]) := by rw [dcells_app]; rfl
   have hz5 := hL4.box.lt
   cases b3
   ·
    obtain ⟨d0, d1, d2, -, -, -, dlt⟩ := hD4.three
    clear hY4 ho4
    go_wp2_with (at_builtin; refine wpList_append_own _ rfl _ _ 47 rfl w.heap.size 68 i0 _ 3 32 Try.underlying47 hi hz0 hz1 hz2 rfl (by decide) _ _ _ rfl (hO4.alloc _) ⟨w5.heap.size, 0, none⟩ 1 1 [.int .i64 kd, .int .i64 ld, .string sd] rfl rfl (news3 _ _ _ _ _ _ (by first | rfl | simp)) (oneD _ _ _) (by unfold maxLen; omega) (by omega) (by simp; omega) ?_; intro v' w6 hown' hgrow _)
    have hL6 := (hL4.alloc _).kept (hO4.alloc _) hgrow
    rw [hdc] at hown'
    go_roundw
    case rel => exact ⟨c - 1, q3, _, _, _, _, _, _, _, es ++ [(kd, ld, sd)], by go_num, by omega, by simp; rw [HEN.out]; omega, by omega, by omega, HES2, by rw [List.length_append, HEN.out]; exact hown', hL6⟩
    case measure => simp [intOf]; omega
   ·
    have hLn := hL4.next (O3 := O3) (E3 := E3) (M3 := M3) ho4 hB3 HS3.out hl3 hc3
    have hOn := hO4.kept (five_gb w5 (w.heap.size + 1 + 1) (.int .i64 O3) (.int .i64 E3) (.int .i64 M3) (.slice ap3 ps3.length cp3) (.slice ac3 cs3.length cc3)) (own_typed hO4 hL4.box (by decide))
    have hDn := Blk.gb (five_gb w5 (w.heap.size + 1 + 1) (.int .i64 O3) (.int .i64 E3) (.int .i64 M3) (.slice ap3 ps3.length cp3) (.slice ac3 cs3.length cc3)) (show w3.heap.size ≠ w.heap.size + 1 + 1 by omega) hD4
    obtain ⟨y0, y1, y2, y3, y4, -, -, -, -, -, ylt⟩ := hY4.five
    obtain ⟨e0, e1, e2, e3, e4, g0, g1, g2, g3, g4, elt⟩ := hL4.box.five
    obtain ⟨d0, d1, d2, -, -, -, dlt⟩ := hDn.three
    clear hL4 hD4 hO4 hY4 ho4
    go_upto_region 9 with fail
    go_cut [] (fun wc => wc = ((((w5.setCell ⟨w.heap.size + 1 + 1, 0, none⟩ (.int .i64 O3)).setCell ⟨w.heap.size + 1 + 1, 1, none⟩ (.int .i64 E3)).setCell ⟨w.heap.size + 1 + 1, 2, none⟩ (.int .i64 M3)).setCell ⟨w.heap.size + 1 + 1, 3, none⟩ (.slice ap3 ps3.length cp3)).setCell ⟨w.heap.size + 1 + 1, 4, none⟩ (.slice ac3 cs3.length cc3))
    case first =>
     go_wp2_with fail
     go_meet
     rfl
    case rest =>
    subst hcut
    clear y0 y1 y2 y3 y4 ylt e0 e1 e2 e3 e4 g0 g1 g2 g3 g4 elt
    generalize ((((w5.setCell ⟨w.heap.size + 1 + 1, 0, none⟩ (.int .i64 O3)).setCell ⟨w.heap.size + 1 + 1, 1, none⟩ (.int .i64 E3)).setCell ⟨w.heap.size + 1 + 1, 2, none⟩ (.int .i64 M3)).setCell ⟨w.heap.size + 1 + 1, 3, none⟩ (.slice ap3 ps3.length cp3)).setCell ⟨w.heap.size + 1 + 1, 4, none⟩ (.slice ac3 cs3.length cc3) = w7 at *
    have hz7 := hLn.box.lt
    go_wp2_with (at_builtin; refine wpList_append_own _ rfl _ _ 47 rfl w.heap.size 68 i0 _ 3 32 Try.underlying47 hi hz0 hz1 hz2 rfl (by decide) _ _ _ rfl (hOn.alloc _) ⟨w7.heap.size, 0, none⟩ 1 1 [.int .i64 kd, .int .i64 ld, .string sd] rfl rfl (news3 _ _ _ _ _ _ (by first | rfl | simp)) (oneD _ _ _) (by unfold maxLen; omega) (by omega) (by simp; omega) ?_; intro v' w6 hown' hgrow _)
    have hL6 := (hLn.alloc _).kept (hOn.alloc _) hgrow
    rw [hdc] at hown'
    go_roundw
    case rel => exact ⟨c - 1, q3, _, _, _, _, _, _, _, es ++ [(kd, ld, sd)], by go_num, by omega, by simp; rw [HEN.out]; omega, by omega, by omega, HES2, by rw [List.length_append, HEN.out]; exact hown', hL6⟩
    case measure => simp [intOf]; omega
  ·
   obtain rfl : c = 0 := by omega
   go_wp2
   go_returns
   exact ⟨_, es, q, rfl, by rw [HEN.out]; exact hO, by rw [HEN.out]; omega, HES.out, by omega, by omega, hL.rdr, hL.gb⟩

/-- An exchange and deeds. -/
def DrawnR (w : World) (e : Ending) (w' : World) : Prop := ∃ (O E M : Int) (vd vp vc : Value) (ps : List ByteArray) (cs : List Cl) (ds : List Ded), e = .returned (.tuple #[.agg #[.int .i64 O, .int .i64 E, .int .i64 M, vp, vc], vd]) ∧ w'.ownsRow w.heap.size 68 3 vd ds.length (dcells ds) ∧ ds.length ≤ 13 ∧ (∀ d ∈ ds, d.2.2.size ≤ 8) ∧ Drawn w w' vp vc ps cs

set_option maxRecDepth 100000 in
set_option maxHeartbeats 4000000 in
theorem DrawExRun_any (a : Option Addr) (len cap : Nat) (zs : List Int) (w : World) (h : Code w a len cap zs) :
  Calls Try.prog 58 #[.slice a len cap] w (DrawnR w) := by
 have hZ := Blk.new (w := w) (cs := #[.int .i64 0, .int .i64 0, .int .i64 0, .slice none 0 0, .slice none 0 0]) (T := 33) rfl
 have hb0 : Below w.heap.size w (w.alloc (.cells #[.int .i64 0, .int .i64 0, .int .i64 0, .slice none 0 0, .slice none 0 0] 33)) := by (exact grownA)
 go_enter Try.func58, Try.ntmps58
 go_wp2_with fail
 refine (open_any _ _ _ _ _ (h.below hb0)).mono ?_
 rintro e w1 ⟨rb, rfl, hrb, hr, hb1⟩
 have hZ1 := hZ.belowAll hb1
 have hB1 := hb0.trans (Below.mono hb1 hb0.size)
 simp only [World.size_alloc] at hrb
 have hrw := hr.lt
 clear hZ hb0 hb1
 go_wp2_with fail
 refine (l20Exchange_any rb 0 _ _ hr (by omega) (by omega)).mono ?_
 rintro e w2 ⟨O, E, M, vp, vc, ps, cs, q, rfl, ho, hl, hc, hs, -, hq, hrd, hg⟩
 have hX := DrB.of (O := O) (E := E) (M := M) (w0 := w) hrb hrw hB1 hg hrd ho hl hc hs
 have hZ2 := (hZ1.gb hg (by omega)).alloc (.cells #[.int .i64 O, .int .i64 E, .int .i64 M, vp, vc] 33)
 have hwlt : w.heap.size < w2.heap.size := by have := hZ1.lt; have := hg.size; omega
 clear hZ1 hB1 hr hg hrd ho hrw h
 have hln := hX.ln
 have hbig := hX.big
 obtain ⟨ap, cp, ac, cc, rfl, rfl⟩ := agg_parts hX.own
 obtain ⟨e0, e1, e2, e3, e4, -, -, -, -, -, elt⟩ := hX.box.five
 go_wp2_with fail
 refine wp_region_held_drew (S := fun w' => w'.cell? ⟨w2.heap.size, 0, none⟩ = some (.int .i64 O) ∧ w'.cell? ⟨w2.heap.size, 1, none⟩ = some (.int .i64 E) ∧ w'.cell? ⟨w2.heap.size, 2, none⟩ = some (.int .i64 M) ∧ w'.cell? ⟨w2.heap.size, 3, none⟩ = some (.slice ap ps.length cp) ∧ w'.cell? ⟨w2.heap.size, 4, none⟩ = some (.slice ac cs.length cc)) (by kernel_rfl) ⟨e0, e1, e2, e3, e4⟩ (fun hHeld => ?_)
 refine take_y 0 10 (v := ?_) rfl ?_ ?_; rotate_left; focus (intro w hSw; (try dsimp only at hSw); go_simp; (try rw [if_neg (by omega)]); (try with_reducible rfl))
 try simp only [Act.put, zp1, zp2, zp3]
 refine take_y 1 11 (v := ?_) rfl ?_ ?_; rotate_left; focus (intro w hSw; (try dsimp only at hSw); go_simp; (try rw [if_neg (by omega)]); (try with_reducible rfl))
 try simp only [Act.put, zp1, zp2, zp3]
 refine take_y 2 12 (v := ?_) rfl ?_ ?_; rotate_left; focus (intro w hSw; (try dsimp only at hSw); go_simp; (try rw [if_neg (by omega)]); (try with_reducible rfl))
 try simp only [Act.put, zp1, zp2, zp3]
 clear e0 e1 e2 e3 e4 elt
 refine wpAnyH_ready (rs := [3]) (by kernel_rfl) (by simp) ?_
 refine AllReadyH.cons rfl (fun K hK => ?_) AllReadyH.nil
 go_simp
 refine (l20ExDeeds_any rb q O E M _ _ ps cs _ hX.drew.rdr (by omega) hX.drew.own hX.ln hX.cn hX.st).mono ?_
 rintro en w3 ⟨vd, ds, q3, rfl, hod, hdl, hds, hqa, hqb, hr3, hg3⟩
 obtain ⟨ad, cd, rfl⟩ := own_len9 hod
 have hX4 := hX.drew.pick hr3 hg3
 have hZ4 := hZ2.drew.gb hg3 (by omega)
 have hod2 := owns_base (show w.heap.size + 1 ≤ (w2.alloc (.cells #[.int .i64 O, .int .i64 E, .int .i64 M, .slice ap ps.length cp, .slice ac cs.length cc] 33)).drew.heap.size by simp; omega) hod
 have hod3 := (hod2.kept (five_gb _ w.heap.size (.int .i64 O) (.int .i64 E) (.int .i64 M) (.slice ap ps.length cp) (.slice ac cs.length cc)) (far_of hod2 (Nat.lt_succ_self _)))
 clear hX hZ2 hr3 hg3 hod hod2
 refine hK.out _ _ (by obtain ⟨e0, e1, e2, e3, e4, -⟩ := hX4.box.five; exact ⟨e0, e1, e2, e3, e4⟩) (fun hHeld2 => ?_)
 clear hHeld hK K; have hHeld := hHeld2; clear hHeld2; try simp only [Act.put, zp1, zp2, zp3]
 obtain ⟨p0, p1, p2, p3, p4, f0, f1, f2, f3, f4, plt⟩ := hZ4.five
 have hXd := hX4.done (.int .i64 O) (.int .i64 E) (.int .i64 M) (.slice ap ps.length cp) (.slice ac cs.length cc)
 have hbx := Blk.gb (five_gb _ w.heap.size (.int .i64 O) (.int .i64 E) (.int .i64 M) (.slice ap ps.length cp) (.slice ac cs.length cc)) (show w2.heap.size ≠ w.heap.size by omega) hX4.box
 have hZe := (five_set (y0 := .int .i64 O) (y1 := .int .i64 E) (y2 := .int .i64 M) (y3 := .slice ap ps.length cp) (y4 := .slice ac cs.length cc) hZ4)
 refine wpAnyH_ready (rs := [4]) (by kernel_rfl) (by simp) ?_
 refine AllReadyH.cons rfl (fun K hK => ?_) AllReadyH.nil
 go_simp
 refine hK.out _ _ (by obtain ⟨e0, e1, e2, e3, e4, -⟩ := hbx.five; exact ⟨e0, e1, e2, e3, e4⟩) (fun hHeld2 => ?_)
 clear hHeld hK K; have hHeld := hHeld2; clear hHeld2; try simp only [Act.put, zp1, zp2, zp3]
 refine take_y 5 3 (v := ?_) rfl ?_ ?_; rotate_left; focus (intro w hSw; (try dsimp only at hSw); go_simp; (try rw [if_neg (by omega)]); (try with_reducible rfl))
 try simp only [Act.put, zp1, zp2, zp3]
 refine wpAnyH_done (by kernel_rfl) ?_ _
 clear hHeld
 go_wp2
 obtain ⟨z0, z1, z2, z3, z4, -⟩ := hZe.five
 refine bodyPost_ret (v := .tuple #[.agg #[.int .i64 O, .int .i64 E, .int .i64 M, .slice ap ps.length cp, .slice ac cs.length cc], .slice ad ds.length cd]) (by simp [results, Try.results58, go_sem, z0, z1, z2, z3, z4]) rfl ?_
 exact ⟨_, _, _, _, _, _, _, _, ds, rfl, owns_base (Nat.le_succ _) hod3, hdl, hds, hXd⟩


end Go.Proofs.Ytedadhoneebfnaa
