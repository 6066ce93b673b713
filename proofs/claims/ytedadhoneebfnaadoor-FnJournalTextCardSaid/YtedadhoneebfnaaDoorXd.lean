/- The draw of a deed: l20ExDeed. Of what is drawn only the number's length is said. -/
import Derived.Test.YtedadhoneebfnaaDoorJ2
import Derived.Test.YtedadhoneebfnaaDoorJ3
import Derived.Test.YtedadhoneebfnaaDoorJ12
import Derived.Deep.DeepCutAuto
set_option linter.unusedSimpArgs false
set_option linter.unusedVariables false
namespace Go.Proofs.YtedadhoneebfnaaDoor
open Go.RowKit

section
variable {P : Program} {ops : Array Oper} {Q : Exit → Act → World → Prop} {md : Region.Mode}
/-- The condition that is held may be made stronger on the way. -/
theorem wpAnyH_weak {S S' : World → Prop} (h : ∀ w, S' w → S w) : ∀ (fuel : Nat) (listed : Array Bool) (a : Act) (w : World), wpAnyH P md ops Q S' fuel listed a w → wpAnyH P md ops Q S fuel listed a w
 | 0, _, _, _, h0 => h0
 | fuel + 1, _, _, _, h0 => ⟨h0.1, fun i hi => wpOp_mono (fun a' w' h' => ⟨h _ h'.1, wpAnyH_weak h fuel _ a' w' h'.2⟩) (h0.2 i hi)⟩
end
/-- Where the drawing of a deed stands. -/
structure XdB (w W : World) (rb q : Nat) (O E M : Int) (vp vc : Value) : Prop where
 gb : w.grownBy W (some rb)
 rdr : Rdr W rb q
 box : Blk W w.heap.size #[.int .i64 O, .int .i64 E, .int .i64 M, vp, vc] 74
 res : Blk W (w.heap.size + 1) #[.int .i64 0, .int .i64 0, .string ⟨#[]⟩] 26
 old : rb < w.heap.size
structure XdSt (w W : World) (rb q : Nat) (O E M : Int) (vp vc : Value) (ob oa : Option Nat) : Prop where
 b : XdB w W rb q O E M vp vc
 sl : ∀ b, ob = some b → Blk W b #[.int .i64 0, .int .i64 0, .int .i64 0, .int .i64 0, .int .i64 1, .int .i64 1, .int .i64 2] 3 ∧ w.heap.size + 2 ≤ b
 al : ∀ b, oa = some b → Blk W b #[.int .i64 0, .int .i64 0, .string ⟨#[]⟩] 26 ∧ w.heap.size + 2 ≤ b
section
variable {w W W' : World} {rb q q' : Nat} {O E M : Int} {vp vc : Value} {ob oa : Option Nat}
theorem XdB.pick (h : XdB w W rb q O E M vp vc) (hr : Rdr W' rb q') (hg : W.grownBy W' (some rb)) : XdB w W' rb q' O E M vp vc := by
 have := h.old
 exact ⟨gb_trans h.gb hg, hr, h.box.gb hg (by omega), h.res.gb hg (by omega), this⟩
theorem XdB.alloc (h : XdB w W rb q O E M vp vc) (o : Obj) : XdB w (W.alloc o) rb q O E M vp vc := ⟨gb_alloc h.gb, h.rdr.alloc, h.box.alloc _, h.res.alloc _, h.old⟩
theorem XdB.set (h : XdB w W rb q O E M vp vc) {b i : Nat} (u : Value) (hb : w.heap.size + 2 ≤ b) : XdB w (W.setCell ⟨b, i, none⟩ u) rb q O E M vp vc := by
 have := h.old
 exact ⟨gb_new (by show _ ≤ b; omega) h.gb, h.rdr.other (by show _ < b; omega), h.box.other (by show _ ≠ b; omega), h.res.other (by show _ ≠ b; omega), this⟩
theorem XdSt.pick (h : XdSt w W rb q O E M vp vc ob oa) (hr : Rdr W' rb q') (hg : W.grownBy W' (some rb)) : XdSt w W' rb q' O E M vp vc ob oa := by
 have := h.b.old
 exact ⟨h.b.pick hr hg, fun b hb => ⟨(h.sl b hb).1.gb hg (by have := (h.sl b hb).2; omega), (h.sl b hb).2⟩, fun b hb => ⟨(h.al b hb).1.gb hg (by have := (h.al b hb).2; omega), (h.al b hb).2⟩⟩
theorem XdSt.newB (h : XdSt w W rb q O E M vp vc none oa) : XdSt w (W.alloc (.cells #[.int .i64 0, .int .i64 0, .int .i64 0, .int .i64 0, .int .i64 1, .int .i64 1, .int .i64 2] 3)) rb q O E M vp vc (some W.heap.size) oa :=
 ⟨h.b.alloc _, fun b hb => by cases hb; exact ⟨Blk.new rfl, h.b.res.lt⟩, fun b hb => ⟨(h.al b hb).1.alloc _, (h.al b hb).2⟩⟩
theorem XdSt.newA (h : XdSt w W rb q O E M vp vc ob none) : XdSt w (W.alloc (.cells #[.int .i64 0, .int .i64 0, .string ⟨#[]⟩] 26)) rb q O E M vp vc ob (some W.heap.size) :=
 ⟨h.b.alloc _, fun b hb => ⟨(h.sl b hb).1.alloc _, (h.sl b hb).2⟩, fun b hb => by cases hb; exact ⟨Blk.new rfl, h.b.res.lt⟩⟩
end
theorem seven_at (y : Int) (h0 : 0 ≤ y) (h1 : y < 7) : ∃ x : Int, (#[.int .i64 0, .int .i64 0, .int .i64 0, .int .i64 0, .int .i64 1, .int .i64 1, .int .i64 2] : Array Value)[y.toNat]? = some (.int .i64 x) := by
 have : y = 0 ∨ y = 1 ∨ y = 2 ∨ y = 3 ∨ y = 4 ∨ y = 5 ∨ y = 6 := by omega
 rcases this with rfl | rfl | rfl | rfl | rfl | rfl | rfl <;> exact ⟨_, rfl⟩
/-- What l20ExDeed leaves. -/
def DeedPost (rb p : Nat) (w : World) (e : Ending) (w' : World) : Prop :=
 ∃ (k l : Int) (s : ByteArray) (q : Nat), e = .returned (.agg #[.int .i64 k, .int .i64 l, .string s]) ∧ s.size ≤ 8 ∧ p ≤ q ∧ q ≤ p + 30 ∧ Rdr w' rb q ∧ w.grownBy w' (some rb)

set_option maxRecDepth 100000 in
set_option maxHeartbeats 16000000 in
theorem l20ExDeed_any (rb p : Nat) (O E M : Int) (vp vc : Value) (ps : List ByteArray) (w : World) (h : Rdr w rb p) (hp : p ≤ 1000000) (hv : Rds w vp ps.length 1 (strs ps)) (hvc : ∃ a n c, vc = .slice a n c) (hl : ps.length ≤ 12) (hS : StSmall ps) (hne : ∀ a n' c, vp = .slice (some a) n' c → some a.block ≠ some rb) :
  Calls Tryd.prog 45 #[.pointer (some ⟨rb, 0, none⟩), .agg #[.int .i64 O, .int .i64 E, .int .i64 M, vp, vc]] w (DeedPost rb p w) := by
 have hst0 : XdB w ((w.alloc (.cells #[.int .i64 O, .int .i64 E, .int .i64 M, vp, vc] 74)).alloc (.cells #[.int .i64 0, .int .i64 0, .string ⟨#[]⟩] 26)) rb p O E M vp vc :=
  ⟨by (exact gbA), h.alloc.alloc, (Blk.new rfl).alloc _, Blk.new (by simp), h.lt⟩
 have HV := Lib.hid hv
 have HNE := Lib.hid hne
 have HSM := Lib.hid hS
 obtain ⟨ac, nc, cc, rfl⟩ := hvc
 obtain ⟨_, hm, a1, c1, rfl, hn1, hc1⟩ := hv
 obtain ⟨n, hnn⟩ : ∃ n, ps.length = n := ⟨_, rfl⟩
 have HN := Lib.hid hnn
 rw [hnn] at hl hn1 hc1 hm hst0 ⊢
 have HC1 := Lib.hid hc1
 unfold maxLen at hm
 have hold := h.lt
 obtain ⟨b0, b1, b2, b3, b4, -, -, -, -, -, blt⟩ := hst0.box.five
 have HST0 := Lib.hid hst0
 clear h hS hne hc1 hnn hst0
 go_enter Tryd.func45, Tryd.ntmps45
 go_upto_region 1 with fail
 go_cut [5] (fun t5 wc => ∃ L : Int, t5 = .int .i64 L ∧ 1 ≤ L ∧ L ≤ 12 ∧ Hid (0 < n → L = (n : Int)) ∧ XdB w wc rb p O E M (.slice a1 n c1) (.slice ac nc cc))
 case first =>
  go_wp2_with fail
  all_goals
   go_meet
   exact ⟨_, rfl, by omega, by omega, fun h => by omega, HST0.out⟩
 case rest =>
 obtain ⟨L, rfl, hL1, hL2, HLN, hst0⟩ := hcut
 obtain ⟨wo, rfl⟩ : ∃ wo : World, wo = wc := ⟨_, rfl⟩
 clear b0 b1 b2 b3 b4 blt HST0
 have HST0 := Lib.hid hst0
 obtain ⟨b0, b1, b2, b3, b4, -, -, -, -, -, blt⟩ := hst0.box.five
 clear hst0
 go_upto_region 2 with fail
 go_cut [6] (fun t6 wc => ∃ (b : Nat) (k l : Int), t6 = .pointer (some ⟨b, 0, none⟩) ∧ Blk wc b #[.int .i64 k, .int .i64 l, .string ⟨#[]⟩] 26 ∧ XdB w wc rb (p + 4) O E M (.slice a1 n c1) (.slice ac nc cc) ∧ w.heap.size + 2 ≤ b)
 case first =>
  clear b0 b1 b2 b3 b4 blt
  go_wp2_with fail
  have hS0 : XdSt w wo.drew rb p O E M (.slice a1 n c1) (.slice ac nc cc) none none :=
   ⟨⟨gb_drew HST0.out.gb, HST0.out.rdr.drew, HST0.out.box.drew, HST0.out.res.drew, HST0.out.old⟩, fun b hb => (by cases hb), fun b hb => (by cases hb)⟩
  have HSS := Lib.hid hS0
  clear hS0
  refine wp_region_held_drew (S := fun _ => True) (by kernel_rfl) trivial (fun hHeld => ?_)
  generalize wo.drew = W0 at HSS hHeld ⊢
  refine take_y 1 12 (v := ?_) rfl ?_ ?_; rotate_left; focus (intro w hSw; (try dsimp only at hSw); go_simp; (try rw [if_neg (by omega)]); (try with_reducible rfl))
  try simp only [Act.put, zp1, zp2, zp3]
  refine take_y 5 16 (v := ?_) rfl ?_ ?_; rotate_left; focus (intro w hSw; (try dsimp only at hSw); go_simp; (try rw [if_neg (by omega)]); (try with_reducible rfl))
  try simp only [Act.put, zp1, zp2, zp3]
  refine take_y 10 21 (v := ?_) rfl ?_ ?_; rotate_left; focus (intro w hSw; (try dsimp only at hSw); go_simp; (try rw [if_neg (by omega)]); (try with_reducible rfl))
  try simp only [Act.put, zp1, zp2, zp3]
  refine take_y 11 22 (v := ?_) rfl ?_ ?_; rotate_left; focus (intro w hSw; (try dsimp only at hSw); go_simp; (try rw [if_neg (by omega)]); (try with_reducible rfl))
  try simp only [Act.put, zp1, zp2, zp3]
  refine take_y 13 24 (v := ?_) rfl ?_ ?_; rotate_left; focus (intro w hSw; (try dsimp only at hSw); go_simp; (try rw [if_neg (by omega)]); (try with_reducible rfl))
  try simp only [Act.put, zp1, zp2, zp3]
  refine take_y 16 27 (v := ?_) rfl ?_ ?_; rotate_left; focus (intro w hSw; (try dsimp only at hSw); go_simp; (try rw [if_neg (by omega)]); (try with_reducible rfl))
  try simp only [Act.put, zp1, zp2, zp3]
  refine wpAnyH_ready (rs := [0, 2, 20]) (by kernel_rfl) (by simp) ?_
  refine AllReadyH.cons rfl (fun K hK => ?_) (AllReadyH.cons rfl (fun K hK => ?_) (AllReadyH.cons rfl (fun K hK => ?_) AllReadyH.nil))
  ·
   go_simp
   have hS2 := HSS.out.newB
   refine hK.out _ _ trivial (fun hHeld2 => ?_)
   clear hHeld hK K; have hHeld := hHeld2; clear hHeld2; try simp only [Act.put, zp1, zp2, zp3]
   have HSS2 := Lib.hid hS2
   clear hS2
   clear HSS
   have HSS := HSS2
   clear HSS2
   generalize World.alloc W0 (.cells #[.int .i64 0, .int .i64 0, .int .i64 0, .int .i64 0, .int .i64 1, .int .i64 1, .int .i64 2] 3) = W1 at HSS hHeld ⊢
   generalize W0.heap.size = nb at HSS hHeld ⊢
   refine wpAnyH_ready (rs := [2, 20]) (by kernel_rfl) (by simp) ?_
   refine AllReadyH.cons rfl (fun K hK => ?_) (AllReadyH.cons rfl (fun K hK => ?_) AllReadyH.nil)
   ·
    go_simp
    refine (pick_any rb (p + 0) _ _ HSS.out.b.rdr (by omega) (by omega)).mono ?_
    rintro e w2 ⟨y1, rfl, hy1a, hy1b, hr2, hg2⟩
    have hS2 := HSS.out.pick hr2 hg2
    refine hK.out _ _ trivial (fun hHeld2 => ?_)
    clear hHeld hK K; have hHeld := hHeld2; clear hHeld2; try simp only [Act.put, zp1, zp2, zp3]
    have HSS2 := Lib.hid hS2
    clear hS2 hr2 hg2
    clear HSS
    have HSS := HSS2
    clear HSS2
    have hy1c : y1 < 7 := by omega
    clear hy1b
    obtain ⟨x, hx⟩ := seven_at y1 hy1a hy1c
    have HX := Lib.hid hx
    clear hx
    refine wpAnyH_weak (S' := fun w' => w'.cell? ⟨nb, y1.toNat, none⟩ = some (.int .i64 x)) (fun _ _ => trivial) _ _ _ _ ?_
    clear hHeld
    have hHeld := ((HSS.out.sl _ rfl).1.at y1.toNat).trans HX.out
    refine take_y 3 14 (v := ?_) rfl ?_ ?_; rotate_left; focus (intro w hSw; (try dsimp only at hSw); go_simp; (try rw [if_neg (by omega)]); (try with_reducible rfl))
    try simp only [Act.put, zp1, zp2, zp3]
    refine take_y 4 15 (v := ?_) rfl ?_ ?_; rotate_left; focus (intro w hSw; (try dsimp only at hSw); go_simp; (try rw [if_neg (by omega)]); (try with_reducible rfl))
    try simp only [Act.put, zp1, zp2, zp3]
    refine wpAnyH_ready (rs := [6, 20]) (by kernel_rfl) (by simp) ?_
    refine AllReadyH.cons rfl (fun K hK => ?_) (AllReadyH.cons rfl (fun K hK => ?_) AllReadyH.nil)
    ·
     go_simp
     refine (pick_any rb (p + 1) _ _ HSS.out.b.rdr (by omega) (by omega)).mono ?_
     rintro e w3 ⟨y2, rfl, hy2a, hy2b, hr3, hg3⟩
     have hS2 := HSS.out.pick hr3 hg3
     refine hK.out _ _ (((hS2.sl _ rfl).1.at _).trans HX.out) (fun hHeld2 => ?_)
     clear hHeld hK K; have hHeld := hHeld2; clear hHeld2; try simp only [Act.put, zp1, zp2, zp3]
     have HSS2 := Lib.hid hS2
     clear hS2 hr3 hg3
     clear HSS
     have HSS := HSS2
     clear HSS2
     have hy2c : y2 < 60 := by omega
     clear hy2b
     refine take_y 7 18 (v := ?_) rfl ?_ ?_; rotate_left; focus (intro w hSw; (try dsimp only at hSw); go_simp; (try rw [if_neg (by omega)]); (try with_reducible rfl))
     try simp only [Act.put, zp1, zp2, zp3]
     refine take_y 8 19 (v := ?_) rfl ?_ ?_; rotate_left; focus (intro w hSw; (try dsimp only at hSw); go_simp; (try rw [if_neg (by omega)]); (try with_reducible rfl))
     try simp only [Act.put, zp1, zp2, zp3]
     refine take_y 9 20 (v := ?_) rfl ?_ ?_; rotate_left; focus (intro w hSw; (try dsimp only at hSw); go_simp; (try rw [if_neg (by omega)]); (try with_reducible rfl))
     try simp only [Act.put, zp1, zp2, zp3]
     refine wpAnyH_ready (rs := [12, 20]) (by kernel_rfl) (by simp) ?_
     refine AllReadyH.cons rfl (fun K hK => ?_) (AllReadyH.cons rfl (fun K hK => ?_) AllReadyH.nil)
     ·
      go_simp
      refine (pick_any rb (p + 2) _ _ HSS.out.b.rdr (by omega) (by omega)).mono ?_
      rintro e w4 ⟨y3, rfl, hy3a, hy3b, hr4, hg4⟩
      have hS2 := HSS.out.pick hr4 hg4
      refine hK.out _ _ (((hS2.sl _ rfl).1.at _).trans HX.out) (fun hHeld2 => ?_)
      clear hHeld hK K; have hHeld := hHeld2; clear hHeld2; try simp only [Act.put, zp1, zp2, zp3]
      have HSS2 := Lib.hid hS2
      clear hS2 hr4 hg4
      clear HSS
      have HSS := HSS2
      clear HSS2
      have hy3c : y3 < L := by omega
      clear hy3b
      refine wpAnyH_ready (rs := [14, 20]) (by kernel_rfl) (by simp) ?_
      refine AllReadyH.cons rfl (fun K hK => ?_) (AllReadyH.cons rfl (fun K hK => ?_) AllReadyH.nil)
      ·
       go_simp
       refine (pick_any rb (p + 3) _ _ HSS.out.b.rdr (by omega) (by omega)).mono ?_
       rintro e w5 ⟨y4, rfl, hy4a, hy4b, hr5, hg5⟩
       have hS2 := HSS.out.pick hr5 hg5
       refine hK.out _ _ (((hS2.sl _ rfl).1.at _).trans HX.out) (fun hHeld2 => ?_)
       clear hHeld hK K; have hHeld := hHeld2; clear hHeld2; try simp only [Act.put, zp1, zp2, zp3]
       have HSS2 := Lib.hid hS2
       clear hS2 hr5 hg5
       clear HSS
       have HSS := HSS2
       clear HSS2
       have hy4c : y4 < 40 := by omega
       clear hy4b
       refine take_y 15 26 (v := ?_) rfl ?_ ?_; rotate_left; focus (intro w hSw; (try dsimp only at hSw); go_simp; (try rw [if_neg (by omega)]); (try with_reducible rfl))
       try simp only [Act.put, zp1, zp2, zp3]
       refine take_y 17 28 (v := ?_) rfl ?_ ?_; rotate_left; focus (intro w hSw; (try dsimp only at hSw); go_simp; (try rw [if_neg (by omega)]); (try with_reducible rfl))
       try simp only [Act.put, zp1, zp2, zp3]
       refine take_y 18 29 (v := ?_) rfl ?_ ?_; rotate_left; focus (intro w hSw; (try dsimp only at hSw); go_simp; (try rw [if_neg (by omega)]); (try with_reducible rfl))
       try simp only [Act.put, zp1, zp2, zp3]
       refine take_y 19 30 (v := ?_) rfl ?_ ?_; rotate_left; focus (intro w hSw; (try dsimp only at hSw); go_simp; (try rw [if_neg (by omega)]); (try with_reducible rfl))
       try simp only [Act.put, zp1, zp2, zp3]
       refine wpAnyH_ready (rs := [20]) (by kernel_rfl) (by simp) ?_
       refine AllReadyH.cons rfl (fun K hK => ?_) AllReadyH.nil
       go_simp
       have hS2 := HSS.out.newA
       refine hK.out _ _ (((hS2.sl _ rfl).1.at _).trans HX.out) (fun hHeld2 => ?_)
       clear hHeld hK K; have hHeld := hHeld2; clear hHeld2; try simp only [Act.put, zp1, zp2, zp3]
       have HSS2 := Lib.hid hS2
       clear hS2
       clear HSS
       have HSS := HSS2
       clear HSS2
       generalize World.alloc w5 (.cells #[.int .i64 0, .int .i64 0, .string ⟨#[]⟩] 26) = W6 at HSS hHeld ⊢
       generalize w5.heap.size = na at HSS hHeld ⊢
       obtain ⟨hA, hAb⟩ := HSS.out.al _ rfl
       obtain ⟨hB, hBb⟩ := HSS.out.sl _ rfl
       have hnab : nb ≠ na := fun e => by
        subst e
        have h1 : W6.heap[nb]? = _ := hA
        have h2 : W6.heap[nb]? = _ := hB
        rw [h1] at h2
        injection h2 with h2
        injection h2 with h2 h3
        cases h2
       obtain ⟨r0, r1, r2, f0, f1, f2, rlt⟩ := hA.three
       refine wpAnyH_ready (rs := [21]) (by kernel_rfl) (by simp) ?_
       refine AllReadyH.cons rfl (fun K hK => ?_) AllReadyH.nil
       go_simp
       refine hK.out _ _ (by (try dsimp only); exact ((((hB.other (a := ⟨na, 0, none⟩) (u := _) hnab).other (a := ⟨na, 1, none⟩) (u := _) hnab).other (a := ⟨na, 2, none⟩) (u := _) hnab).at _).trans HX.out) (fun hHeld2 => ?_)
       clear hHeld hK K; have hHeld := hHeld2; clear hHeld2; try simp only [Act.put, zp1, zp2, zp3]
       refine wpAnyH_done (by kernel_rfl) ?_ _
       clear hHeld
       go_wp2_with fail
       go_meet
       exact ⟨_, _, _, rfl, ((hA.set (i := 0) rfl).set (i := 1) rfl).set (i := 2) rfl, ((HSS.out.b.set _ hAb).set _ hAb).set _ hAb, hAb⟩
      ·
       go_simp
       have hS2 := HSS.out.newA
       refine hK.out _ _ (((hS2.sl _ rfl).1.at _).trans HX.out) (fun hHeld2 => ?_)
       clear hHeld hK K; have hHeld := hHeld2; clear hHeld2; try simp only [Act.put, zp1, zp2, zp3]
       have HSS2 := Lib.hid hS2
       clear hS2
       clear HSS
       have HSS := HSS2
       clear HSS2
       generalize World.alloc w4 (.cells #[.int .i64 0, .int .i64 0, .string ⟨#[]⟩] 26) = W7 at HSS hHeld ⊢
       generalize w4.heap.size = na at HSS hHeld ⊢
       refine wpAnyH_ready (rs := [14]) (by kernel_rfl) (by simp) ?_
       refine AllReadyH.cons rfl (fun K hK => ?_) AllReadyH.nil
       go_simp
       refine (pick_any rb (p + 3) _ _ HSS.out.b.rdr (by omega) (by omega)).mono ?_
       rintro e w8 ⟨y4, rfl, hy4a, hy4b, hr8, hg8⟩
       have hS2 := HSS.out.pick hr8 hg8
       refine hK.out _ _ (((hS2.sl _ rfl).1.at _).trans HX.out) (fun hHeld2 => ?_)
       clear hHeld hK K; have hHeld := hHeld2; clear hHeld2; try simp only [Act.put, zp1, zp2, zp3]
       have HSS2 := Lib.hid hS2
       clear hS2 hr8 hg8
       clear HSS
       have HSS := HSS2
       clear HSS2
       have hy4c : y4 < 40 := by omega
       clear hy4b
       refine take_y 15 26 (v := ?_) rfl ?_ ?_; rotate_left; focus (intro w hSw; (try dsimp only at hSw); go_simp; (try rw [if_neg (by omega)]); (try with_reducible rfl))
       try simp only [Act.put, zp1, zp2, zp3]
       refine take_y 17 28 (v := ?_) rfl ?_ ?_; rotate_left; focus (intro w hSw; (try dsimp only at hSw); go_simp; (try rw [if_neg (by omega)]); (try with_reducible rfl))
       try simp only [Act.put, zp1, zp2, zp3]
       refine take_y 18 29 (v := ?_) rfl ?_ ?_; rotate_left; focus (intro w hSw; (try dsimp only at hSw); go_simp; (try rw [if_neg (by omega)]); (try with_reducible rfl))
       try simp only [Act.put, zp1, zp2, zp3]
       refine take_y 19 30 (v := ?_) rfl ?_ ?_; rotate_left; focus (intro w hSw; (try dsimp only at hSw); go_simp; (try rw [if_neg (by omega)]); (try with_reducible rfl))
       try simp only [Act.put, zp1, zp2, zp3]
       obtain ⟨hA, hAb⟩ := HSS.out.al _ rfl
       obtain ⟨hB, hBb⟩ := HSS.out.sl _ rfl
       have hnab : nb ≠ na := fun e => by
        subst e
        have h1 : w8.heap[nb]? = _ := hA
        have h2 : w8.heap[nb]? = _ := hB
        rw [h1] at h2
        injection h2 with h2
        injection h2 with h2 h3
        cases h2
       obtain ⟨r0, r1, r2, f0, f1, f2, rlt⟩ := hA.three
       refine wpAnyH_ready (rs := [21]) (by kernel_rfl) (by simp) ?_
       refine AllReadyH.cons rfl (fun K hK => ?_) AllReadyH.nil
       go_simp
       refine hK.out _ _ (by (try dsimp only); exact ((((hB.other (a := ⟨na, 0, none⟩) (u := _) hnab).other (a := ⟨na, 1, none⟩) (u := _) hnab).other (a := ⟨na, 2, none⟩) (u := _) hnab).at _).trans HX.out) (fun hHeld2 => ?_)
       clear hHeld hK K; have hHeld := hHeld2; clear hHeld2; try simp only [Act.put, zp1, zp2, zp3]
       refine wpAnyH_done (by kernel_rfl) ?_ _
       clear hHeld
       go_wp2_with fail
       go_meet
       exact ⟨_, _, _, rfl, ((hA.set (i := 0) rfl).set (i := 1) rfl).set (i := 2) rfl, ((HSS.out.b.set _ hAb).set _ hAb).set _ hAb, hAb⟩
     ·
      go_simp
      have hS2 := HSS.out.newA
      refine hK.out _ _ (((hS2.sl _ rfl).1.at _).trans HX.out) (fun hHeld2 => ?_)
      clear hHeld hK K; have hHeld := hHeld2; clear hHeld2; try simp only [Act.put, zp1, zp2, zp3]
      have HSS2 := Lib.hid hS2
      clear hS2
      clear HSS
      have HSS := HSS2
      clear HSS2
      generalize World.alloc w3 (.cells #[.int .i64 0, .int .i64 0, .string ⟨#[]⟩] 26) = W9 at HSS hHeld ⊢
      generalize w3.heap.size = na at HSS hHeld ⊢
      refine wpAnyH_ready (rs := [12]) (by kernel_rfl) (by simp) ?_
      refine AllReadyH.cons rfl (fun K hK => ?_) AllReadyH.nil
      go_simp
      refine (pick_any rb (p + 2) _ _ HSS.out.b.rdr (by omega) (by omega)).mono ?_
      rintro e w10 ⟨y3, rfl, hy3a, hy3b, hr10, hg10⟩
      have hS2 := HSS.out.pick hr10 hg10
      refine hK.out _ _ (((hS2.sl _ rfl).1.at _).trans HX.out) (fun hHeld2 => ?_)
      clear hHeld hK K; have hHeld := hHeld2; clear hHeld2; try simp only [Act.put, zp1, zp2, zp3]
      have HSS2 := Lib.hid hS2
      clear hS2 hr10 hg10
      clear HSS
      have HSS := HSS2
      clear HSS2
      have hy3c : y3 < L := by omega
      clear hy3b
      refine wpAnyH_ready (rs := [14]) (by kernel_rfl) (by simp) ?_
      refine AllReadyH.cons rfl (fun K hK => ?_) AllReadyH.nil
      go_simp
      refine (pick_any rb (p + 3) _ _ HSS.out.b.rdr (by omega) (by omega)).mono ?_
      rintro e w11 ⟨y4, rfl, hy4a, hy4b, hr11, hg11⟩
      have hS2 := HSS.out.pick hr11 hg11
      refine hK.out _ _ (((hS2.sl _ rfl).1.at _).trans HX.out) (fun hHeld2 => ?_)
      clear hHeld hK K; have hHeld := hHeld2; clear hHeld2; try simp only [Act.put, zp1, zp2, zp3]
      have HSS2 := Lib.hid hS2
      clear hS2 hr11 hg11
      clear HSS
      have HSS := HSS2
      clear HSS2
      have hy4c : y4 < 40 := by omega
      clear hy4b
      refine take_y 15 26 (v := ?_) rfl ?_ ?_; rotate_left; focus (intro w hSw; (try dsimp only at hSw); go_simp; (try rw [if_neg (by omega)]); (try with_reducible rfl))
      try simp only [Act.put, zp1, zp2, zp3]
      refine take_y 17 28 (v := ?_) rfl ?_ ?_; rotate_left; focus (intro w hSw; (try dsimp only at hSw); go_simp; (try rw [if_neg (by omega)]); (try with_reducible rfl))
      try simp only [Act.put, zp1, zp2, zp3]
      refine take_y 18 29 (v := ?_) rfl ?_ ?_; rotate_left; focus (intro w hSw; (try dsimp only at hSw); go_simp; (try rw [if_neg (by omega)]); (try with_reducible rfl))
      try simp only [Act.put, zp1, zp2, zp3]
      refine take_y 19 30 (v := ?_) rfl ?_ ?_; rotate_left; focus (intro w hSw; (try dsimp only at hSw); go_simp; (try rw [if_neg (by omega)]); (try with_reducible rfl))
      try simp only [Act.put, zp1, zp2, zp3]
      obtain ⟨hA, hAb⟩ := HSS.out.al _ rfl
      obtain ⟨hB, hBb⟩ := HSS.out.sl _ rfl
      have hnab : nb ≠ na := fun e => by
       subst e
       have h1 : w11.heap[nb]? = _ := hA
       have h2 : w11.heap[nb]? = _ := hB
       rw [h1] at h2
       injection h2 with h2
       injection h2 with h2 h3
       cases h2
      obtain ⟨r0, r1, r2, f0, f1, f2, rlt⟩ := hA.three
      refine wpAnyH_ready (rs := [21]) (by kernel_rfl) (by simp) ?_
      refine AllReadyH.cons rfl (fun K hK => ?_) AllReadyH.nil
      go_simp
      refine hK.out _ _ (by (try dsimp only); exact ((((hB.other (a := ⟨na, 0, none⟩) (u := _) hnab).other (a := ⟨na, 1, none⟩) (u := _) hnab).other (a := ⟨na, 2, none⟩) (u := _) hnab).at _).trans HX.out) (fun hHeld2 => ?_)
      clear hHeld hK K; have hHeld := hHeld2; clear hHeld2; try simp only [Act.put, zp1, zp2, zp3]
      refine wpAnyH_done (by kernel_rfl) ?_ _
      clear hHeld
      go_wp2_with fail
      go_meet
      exact ⟨_, _, _, rfl, ((hA.set (i := 0) rfl).set (i := 1) rfl).set (i := 2) rfl, ((HSS.out.b.set _ hAb).set _ hAb).set _ hAb, hAb⟩
    ·
     go_simp
     have hS2 := HSS.out.newA
     refine hK.out _ _ (((hS2.sl _ rfl).1.at _).trans HX.out) (fun hHeld2 => ?_)
     clear hHeld hK K; have hHeld := hHeld2; clear hHeld2; try simp only [Act.put, zp1, zp2, zp3]
     have HSS2 := Lib.hid hS2
     clear hS2
     clear HSS
     have HSS := HSS2
     clear HSS2
     generalize World.alloc w2 (.cells #[.int .i64 0, .int .i64 0, .string ⟨#[]⟩] 26) = W12 at HSS hHeld ⊢
     generalize w2.heap.size = na at HSS hHeld ⊢
     refine wpAnyH_ready (rs := [6]) (by kernel_rfl) (by simp) ?_
     refine AllReadyH.cons rfl (fun K hK => ?_) AllReadyH.nil
     go_simp
     refine (pick_any rb (p + 1) _ _ HSS.out.b.rdr (by omega) (by omega)).mono ?_
     rintro e w13 ⟨y2, rfl, hy2a, hy2b, hr13, hg13⟩
     have hS2 := HSS.out.pick hr13 hg13
     refine hK.out _ _ (((hS2.sl _ rfl).1.at _).trans HX.out) (fun hHeld2 => ?_)
     clear hHeld hK K; have hHeld := hHeld2; clear hHeld2; try simp only [Act.put, zp1, zp2, zp3]
     have HSS2 := Lib.hid hS2
     clear hS2 hr13 hg13
     clear HSS
     have HSS := HSS2
     clear HSS2
     have hy2c : y2 < 60 := by omega
     clear hy2b
     refine take_y 7 18 (v := ?_) rfl ?_ ?_; rotate_left; focus (intro w hSw; (try dsimp only at hSw); go_simp; (try rw [if_neg (by omega)]); (try with_reducible rfl))
     try simp only [Act.put, zp1, zp2, zp3]
     refine take_y 8 19 (v := ?_) rfl ?_ ?_; rotate_left; focus (intro w hSw; (try dsimp only at hSw); go_simp; (try rw [if_neg (by omega)]); (try with_reducible rfl))
     try simp only [Act.put, zp1, zp2, zp3]
     refine take_y 9 20 (v := ?_) rfl ?_ ?_; rotate_left; focus (intro w hSw; (try dsimp only at hSw); go_simp; (try rw [if_neg (by omega)]); (try with_reducible rfl))
     try simp only [Act.put, zp1, zp2, zp3]
     refine wpAnyH_ready (rs := [12]) (by kernel_rfl) (by simp) ?_
     refine AllReadyH.cons rfl (fun K hK => ?_) AllReadyH.nil
     go_simp
     refine (pick_any rb (p + 2) _ _ HSS.out.b.rdr (by omega) (by omega)).mono ?_
     rintro e w14 ⟨y3, rfl, hy3a, hy3b, hr14, hg14⟩
     have hS2 := HSS.out.pick hr14 hg14
     refine hK.out _ _ (((hS2.sl _ rfl).1.at _).trans HX.out) (fun hHeld2 => ?_)
     clear hHeld hK K; have hHeld := hHeld2; clear hHeld2; try simp only [Act.put, zp1, zp2, zp3]
     have HSS2 := Lib.hid hS2
     clear hS2 hr14 hg14
     clear HSS
     have HSS := HSS2
     clear HSS2
     have hy3c : y3 < L := by omega
     clear hy3b
     refine wpAnyH_ready (rs := [14]) (by kernel_rfl) (by simp) ?_
     refine AllReadyH.cons rfl (fun K hK => ?_) AllReadyH.nil
     go_simp
     refine (pick_any rb (p + 3) _ _ HSS.out.b.rdr (by omega) (by omega)).mono ?_
     rintro e w15 ⟨y4, rfl, hy4a, hy4b, hr15, hg15⟩
     have hS2 := HSS.out.pick hr15 hg15
     refine hK.out _ _ (((hS2.sl _ rfl).1.at _).trans HX.out) (fun hHeld2 => ?_)
     clear hHeld hK K; have hHeld := hHeld2; clear hHeld2; try simp only [Act.put, zp1, zp2, zp3]
     have HSS2 := Lib.hid hS2
     clear hS2 hr15 hg15
     clear HSS
     have HSS := HSS2
     clear HSS2
     have hy4c : y4 < 40 := by omega
     clear hy4b
     refine take_y 15 26 (v := ?_) rfl ?_ ?_; rotate_left; focus (intro w hSw; (try dsimp only at hSw); go_simp; (try rw [if_neg (by omega)]); (try with_reducible rfl))
     try simp only [Act.put, zp1, zp2, zp3]
     refine take_y 17 28 (v := ?_) rfl ?_ ?_; rotate_left; focus (intro w hSw; (try dsimp only at hSw); go_simp; (try rw [if_neg (by omega)]); (try with_reducible rfl))
     try simp only [Act.put, zp1, zp2, zp3]
     refine take_y 18 29 (v := ?_) rfl ?_ ?_; rotate_left; focus (intro w hSw; (try dsimp only at hSw); go_simp; (try rw [if_neg (by omega)]); (try with_reducible rfl))
     try simp only [Act.put, zp1, zp2, zp3]
     refine take_y 19 30 (v := ?_) rfl ?_ ?_; rotate_left; focus (intro w hSw; (try dsimp only at hSw); go_simp; (try rw [if_neg (by omega)]); (try with_reducible rfl))
     try simp only [Act.put, zp1, zp2, zp3]
     obtain ⟨hA, hAb⟩ := HSS.out.al _ rfl
     obtain ⟨hB, hBb⟩ := HSS.out.sl _ rfl
     have hnab : nb ≠ na := fun e => by
      subst e
      have h1 : w15.heap[nb]? = _ := hA
      have h2 : w15.heap[nb]? = _ := hB
      rw [h1] at h2
      injection h2 with h2
      injection h2 with h2 h3
      cases h2
     obtain ⟨r0, r1, r2, f0, f1, f2, rlt⟩ := hA.three
     refine wpAnyH_ready (rs := [21]) (by kernel_rfl) (by simp) ?_
     refine AllReadyH.cons rfl (fun K hK => ?_) AllReadyH.nil
     go_simp
     refine hK.out _ _ (by (try dsimp only); exact ((((hB.other (a := ⟨na, 0, none⟩) (u := _) hnab).other (a := ⟨na, 1, none⟩) (u := _) hnab).other (a := ⟨na, 2, none⟩) (u := _) hnab).at _).trans HX.out) (fun hHeld2 => ?_)
     clear hHeld hK K; have hHeld := hHeld2; clear hHeld2; try simp only [Act.put, zp1, zp2, zp3]
     refine wpAnyH_done (by kernel_rfl) ?_ _
     clear hHeld
     go_wp2_with fail
     go_meet
     exact ⟨_, _, _, rfl, ((hA.set (i := 0) rfl).set (i := 1) rfl).set (i := 2) rfl, ((HSS.out.b.set _ hAb).set _ hAb).set _ hAb, hAb⟩
   ·
    go_simp
    have hS2 := HSS.out.newA
    refine hK.out _ _ trivial (fun hHeld2 => ?_)
    clear hHeld hK K; have hHeld := hHeld2; clear hHeld2; try simp only [Act.put, zp1, zp2, zp3]
    have HSS2 := Lib.hid hS2
    clear hS2
    clear HSS
    have HSS := HSS2
    clear HSS2
    generalize World.alloc W1 (.cells #[.int .i64 0, .int .i64 0, .string ⟨#[]⟩] 26) = W16 at HSS hHeld ⊢
    generalize W1.heap.size = na at HSS hHeld ⊢
    refine wpAnyH_ready (rs := [2]) (by kernel_rfl) (by simp) ?_
    refine AllReadyH.cons rfl (fun K hK => ?_) AllReadyH.nil
    go_simp
    refine (pick_any rb (p + 0) _ _ HSS.out.b.rdr (by omega) (by omega)).mono ?_
    rintro e w17 ⟨y1, rfl, hy1a, hy1b, hr17, hg17⟩
    have hS2 := HSS.out.pick hr17 hg17
    refine hK.out _ _ trivial (fun hHeld2 => ?_)
    clear hHeld hK K; have hHeld := hHeld2; clear hHeld2; try simp only [Act.put, zp1, zp2, zp3]
    have HSS2 := Lib.hid hS2
    clear hS2 hr17 hg17
    clear HSS
    have HSS := HSS2
    clear HSS2
    have hy1c : y1 < 7 := by omega
    clear hy1b
    obtain ⟨x, hx⟩ := seven_at y1 hy1a hy1c
    have HX := Lib.hid hx
    clear hx
    refine wpAnyH_weak (S' := fun w' => w'.cell? ⟨nb, y1.toNat, none⟩ = some (.int .i64 x)) (fun _ _ => trivial) _ _ _ _ ?_
    clear hHeld
    have hHeld := ((HSS.out.sl _ rfl).1.at y1.toNat).trans HX.out
    refine take_y 3 14 (v := ?_) rfl ?_ ?_; rotate_left; focus (intro w hSw; (try dsimp only at hSw); go_simp; (try rw [if_neg (by omega)]); (try with_reducible rfl))
    try simp only [Act.put, zp1, zp2, zp3]
    refine take_y 4 15 (v := ?_) rfl ?_ ?_; rotate_left; focus (intro w hSw; (try dsimp only at hSw); go_simp; (try rw [if_neg (by omega)]); (try with_reducible rfl))
    try simp only [Act.put, zp1, zp2, zp3]
    refine wpAnyH_ready (rs := [6]) (by kernel_rfl) (by simp) ?_
    refine AllReadyH.cons rfl (fun K hK => ?_) AllReadyH.nil
    go_simp
    refine (pick_any rb (p + 1) _ _ HSS.out.b.rdr (by omega) (by omega)).mono ?_
    rintro e w18 ⟨y2, rfl, hy2a, hy2b, hr18, hg18⟩
    have hS2 := HSS.out.pick hr18 hg18
    refine hK.out _ _ (((hS2.sl _ rfl).1.at _).trans HX.out) (fun hHeld2 => ?_)
    clear hHeld hK K; have hHeld := hHeld2; clear hHeld2; try simp only [Act.put, zp1, zp2, zp3]
    have HSS2 := Lib.hid hS2
    clear hS2 hr18 hg18
    clear HSS
    have HSS := HSS2
    clear HSS2
    have hy2c : y2 < 60 := by omega
    clear hy2b
    refine take_y 7 18 (v := ?_) rfl ?_ ?_; rotate_left; focus (intro w hSw; (try dsimp only at hSw); go_simp; (try rw [if_neg (by omega)]); (try with_reducible rfl))
    try simp only [Act.put, zp1, zp2, zp3]
    refine take_y 8 19 (v := ?_) rfl ?_ ?_; rotate_left; focus (intro w hSw; (try dsimp only at hSw); go_simp; (try rw [if_neg (by omega)]); (try with_reducible rfl))
    try simp only [Act.put, zp1, zp2, zp3]
    refine take_y 9 20 (v := ?_) rfl ?_ ?_; rotate_left; focus (intro w hSw; (try dsimp only at hSw); go_simp; (try rw [if_neg (by omega)]); (try with_reducible rfl))
    try simp only [Act.put, zp1, zp2, zp3]
    refine wpAnyH_ready (rs := [12]) (by kernel_rfl) (by simp) ?_
    refine AllReadyH.cons rfl (fun K hK => ?_) AllReadyH.nil
    go_simp
    refine (pick_any rb (p + 2) _ _ HSS.out.b.rdr (by omega) (by omega)).mono ?_
    rintro e w19 ⟨y3, rfl, hy3a, hy3b, hr19, hg19⟩
    have hS2 := HSS.out.pick hr19 hg19
    refine hK.out _ _ (((hS2.sl _ rfl).1.at _).trans HX.out) (fun hHeld2 => ?_)
    clear hHeld hK K; have hHeld := hHeld2; clear hHeld2; try simp only [Act.put, zp1, zp2, zp3]
    have HSS2 := Lib.hid hS2
    clear hS2 hr19 hg19
    clear HSS
    have HSS := HSS2
    clear HSS2
    have hy3c : y3 < L := by omega
    clear hy3b
    refine wpAnyH_ready (rs := [14]) (by kernel_rfl) (by simp) ?_
    refine AllReadyH.cons rfl (fun K hK => ?_) AllReadyH.nil
    go_simp
    refine (pick_any rb (p + 3) _ _ HSS.out.b.rdr (by omega) (by omega)).mono ?_
    rintro e w20 ⟨y4, rfl, hy4a, hy4b, hr20, hg20⟩
    have hS2 := HSS.out.pick hr20 hg20
    refine hK.out _ _ (((hS2.sl _ rfl).1.at _).trans HX.out) (fun hHeld2 => ?_)
    clear hHeld hK K; have hHeld := hHeld2; clear hHeld2; try simp only [Act.put, zp1, zp2, zp3]
    have HSS2 := Lib.hid hS2
    clear hS2 hr20 hg20
    clear HSS
    have HSS := HSS2
    clear HSS2
    have hy4c : y4 < 40 := by omega
    clear hy4b
    refine take_y 15 26 (v := ?_) rfl ?_ ?_; rotate_left; focus (intro w hSw; (try dsimp only at hSw); go_simp; (try rw [if_neg (by omega)]); (try with_reducible rfl))
    try simp only [Act.put, zp1, zp2, zp3]
    refine take_y 17 28 (v := ?_) rfl ?_ ?_; rotate_left; focus (intro w hSw; (try dsimp only at hSw); go_simp; (try rw [if_neg (by omega)]); (try with_reducible rfl))
    try simp only [Act.put, zp1, zp2, zp3]
    refine take_y 18 29 (v := ?_) rfl ?_ ?_; rotate_left; focus (intro w hSw; (try dsimp only at hSw); go_simp; (try rw [if_neg (by omega)]); (try with_reducible rfl))
    try simp only [Act.put, zp1, zp2, zp3]
    refine take_y 19 30 (v := ?_) rfl ?_ ?_; rotate_left; focus (intro w hSw; (try dsimp only at hSw); go_simp; (try rw [if_neg (by omega)]); (try with_reducible rfl))
    try simp only [Act.put, zp1, zp2, zp3]
    obtain ⟨hA, hAb⟩ := HSS.out.al _ rfl
    obtain ⟨hB, hBb⟩ := HSS.out.sl _ rfl
    have hnab : nb ≠ na := fun e => by
     subst e
     have h1 : w20.heap[nb]? = _ := hA
     have h2 : w20.heap[nb]? = _ := hB
     rw [h1] at h2
     injection h2 with h2
     injection h2 with h2 h3
     cases h2
    obtain ⟨r0, r1, r2, f0, f1, f2, rlt⟩ := hA.three
    refine wpAnyH_ready (rs := [21]) (by kernel_rfl) (by simp) ?_
    refine AllReadyH.cons rfl (fun K hK => ?_) AllReadyH.nil
    go_simp
    refine hK.out _ _ (by (try dsimp only); exact ((((hB.other (a := ⟨na, 0, none⟩) (u := _) hnab).other (a := ⟨na, 1, none⟩) (u := _) hnab).other (a := ⟨na, 2, none⟩) (u := _) hnab).at _).trans HX.out) (fun hHeld2 => ?_)
    clear hHeld hK K; have hHeld := hHeld2; clear hHeld2; try simp only [Act.put, zp1, zp2, zp3]
    refine wpAnyH_done (by kernel_rfl) ?_ _
    clear hHeld
    go_wp2_with fail
    go_meet
    exact ⟨_, _, _, rfl, ((hA.set (i := 0) rfl).set (i := 1) rfl).set (i := 2) rfl, ((HSS.out.b.set _ hAb).set _ hAb).set _ hAb, hAb⟩
  ·
   go_simp
   refine (pick_any rb (p + 0) _ _ HSS.out.b.rdr (by omega) (by omega)).mono ?_
   rintro e w21 ⟨y1, rfl, hy1a, hy1b, hr21, hg21⟩
   have hS2 := HSS.out.pick hr21 hg21
   refine hK.out _ _ trivial (fun hHeld2 => ?_)
   clear hHeld hK K; have hHeld := hHeld2; clear hHeld2; try simp only [Act.put, zp1, zp2, zp3]
   have HSS2 := Lib.hid hS2
   clear hS2 hr21 hg21
   clear HSS
   have HSS := HSS2
   clear HSS2
   have hy1c : y1 < 7 := by omega
   clear hy1b
   refine wpAnyH_ready (rs := [0, 6, 20]) (by kernel_rfl) (by simp) ?_
   refine AllReadyH.cons rfl (fun K hK => ?_) (AllReadyH.cons rfl (fun K hK => ?_) (AllReadyH.cons rfl (fun K hK => ?_) AllReadyH.nil))
   ·
    go_simp
    have hS2 := HSS.out.newB
    refine hK.out _ _ trivial (fun hHeld2 => ?_)
    clear hHeld hK K; have hHeld := hHeld2; clear hHeld2; try simp only [Act.put, zp1, zp2, zp3]
    have HSS2 := Lib.hid hS2
    clear hS2
    clear HSS
    have HSS := HSS2
    clear HSS2
    generalize World.alloc w21 (.cells #[.int .i64 0, .int .i64 0, .int .i64 0, .int .i64 0, .int .i64 1, .int .i64 1, .int .i64 2] 3) = W22 at HSS hHeld ⊢
    generalize w21.heap.size = nb at HSS hHeld ⊢
    obtain ⟨x, hx⟩ := seven_at y1 hy1a hy1c
    have HX := Lib.hid hx
    clear hx
    refine wpAnyH_weak (S' := fun w' => w'.cell? ⟨nb, y1.toNat, none⟩ = some (.int .i64 x)) (fun _ _ => trivial) _ _ _ _ ?_
    clear hHeld
    have hHeld := ((HSS.out.sl _ rfl).1.at y1.toNat).trans HX.out
    refine take_y 3 14 (v := ?_) rfl ?_ ?_; rotate_left; focus (intro w hSw; (try dsimp only at hSw); go_simp; (try rw [if_neg (by omega)]); (try with_reducible rfl))
    try simp only [Act.put, zp1, zp2, zp3]
    refine take_y 4 15 (v := ?_) rfl ?_ ?_; rotate_left; focus (intro w hSw; (try dsimp only at hSw); go_simp; (try rw [if_neg (by omega)]); (try with_reducible rfl))
    try simp only [Act.put, zp1, zp2, zp3]
    refine wpAnyH_ready (rs := [6, 20]) (by kernel_rfl) (by simp) ?_
    refine AllReadyH.cons rfl (fun K hK => ?_) (AllReadyH.cons rfl (fun K hK => ?_) AllReadyH.nil)
    ·
     go_simp
     refine (pick_any rb (p + 1) _ _ HSS.out.b.rdr (by omega) (by omega)).mono ?_
     rintro e w23 ⟨y2, rfl, hy2a, hy2b, hr23, hg23⟩
     have hS2 := HSS.out.pick hr23 hg23
     refine hK.out _ _ (((hS2.sl _ rfl).1.at _).trans HX.out) (fun hHeld2 => ?_)
     clear hHeld hK K; have hHeld := hHeld2; clear hHeld2; try simp only [Act.put, zp1, zp2, zp3]
     have HSS2 := Lib.hid hS2
     clear hS2 hr23 hg23
     clear HSS
     have HSS := HSS2
     clear HSS2
     have hy2c : y2 < 60 := by omega
     clear hy2b
     refine take_y 7 18 (v := ?_) rfl ?_ ?_; rotate_left; focus (intro w hSw; (try dsimp only at hSw); go_simp; (try rw [if_neg (by omega)]); (try with_reducible rfl))
     try simp only [Act.put, zp1, zp2, zp3]
     refine take_y 8 19 (v := ?_) rfl ?_ ?_; rotate_left; focus (intro w hSw; (try dsimp only at hSw); go_simp; (try rw [if_neg (by omega)]); (try with_reducible rfl))
     try simp only [Act.put, zp1, zp2, zp3]
     refine take_y 9 20 (v := ?_) rfl ?_ ?_; rotate_left; focus (intro w hSw; (try dsimp only at hSw); go_simp; (try rw [if_neg (by omega)]); (try with_reducible rfl))
     try simp only [Act.put, zp1, zp2, zp3]
     refine wpAnyH_ready (rs := [12, 20]) (by kernel_rfl) (by simp) ?_
     refine AllReadyH.cons rfl (fun K hK => ?_) (AllReadyH.cons rfl (fun K hK => ?_) AllReadyH.nil)
     ·
      go_simp
      refine (pick_any rb (p + 2) _ _ HSS.out.b.rdr (by omega) (by omega)).mono ?_
      rintro e w24 ⟨y3, rfl, hy3a, hy3b, hr24, hg24⟩
      have hS2 := HSS.out.pick hr24 hg24
      refine hK.out _ _ (((hS2.sl _ rfl).1.at _).trans HX.out) (fun hHeld2 => ?_)
      clear hHeld hK K; have hHeld := hHeld2; clear hHeld2; try simp only [Act.put, zp1, zp2, zp3]
      have HSS2 := Lib.hid hS2
      clear hS2 hr24 hg24
      clear HSS
      have HSS := HSS2
      clear HSS2
      have hy3c : y3 < L := by omega
      clear hy3b
      refine wpAnyH_ready (rs := [14, 20]) (by kernel_rfl) (by simp) ?_
      refine AllReadyH.cons rfl (fun K hK => ?_) (AllReadyH.cons rfl (fun K hK => ?_) AllReadyH.nil)
      ·
       go_simp
       refine (pick_any rb (p + 3) _ _ HSS.out.b.rdr (by omega) (by omega)).mono ?_
       rintro e w25 ⟨y4, rfl, hy4a, hy4b, hr25, hg25⟩
       have hS2 := HSS.out.pick hr25 hg25
       refine hK.out _ _ (((hS2.sl _ rfl).1.at _).trans HX.out) (fun hHeld2 => ?_)
       clear hHeld hK K; have hHeld := hHeld2; clear hHeld2; try simp only [Act.put, zp1, zp2, zp3]
       have HSS2 := Lib.hid hS2
       clear hS2 hr25 hg25
       clear HSS
       have HSS := HSS2
       clear HSS2
       have hy4c : y4 < 40 := by omega
       clear hy4b
       refine take_y 15 26 (v := ?_) rfl ?_ ?_; rotate_left; focus (intro w hSw; (try dsimp only at hSw); go_simp; (try rw [if_neg (by omega)]); (try with_reducible rfl))
       try simp only [Act.put, zp1, zp2, zp3]
       refine take_y 17 28 (v := ?_) rfl ?_ ?_; rotate_left; focus (intro w hSw; (try dsimp only at hSw); go_simp; (try rw [if_neg (by omega)]); (try with_reducible rfl))
       try simp only [Act.put, zp1, zp2, zp3]
       refine take_y 18 29 (v := ?_) rfl ?_ ?_; rotate_left; focus (intro w hSw; (try dsimp only at hSw); go_simp; (try rw [if_neg (by omega)]); (try with_reducible rfl))
       try simp only [Act.put, zp1, zp2, zp3]
       refine take_y 19 30 (v := ?_) rfl ?_ ?_; rotate_left; focus (intro w hSw; (try dsimp only at hSw); go_simp; (try rw [if_neg (by omega)]); (try with_reducible rfl))
       try simp only [Act.put, zp1, zp2, zp3]
       refine wpAnyH_ready (rs := [20]) (by kernel_rfl) (by simp) ?_
       refine AllReadyH.cons rfl (fun K hK => ?_) AllReadyH.nil
       go_simp
       have hS2 := HSS.out.newA
       refine hK.out _ _ (((hS2.sl _ rfl).1.at _).trans HX.out) (fun hHeld2 => ?_)
       clear hHeld hK K; have hHeld := hHeld2; clear hHeld2; try simp only [Act.put, zp1, zp2, zp3]
       have HSS2 := Lib.hid hS2
       clear hS2
       clear HSS
       have HSS := HSS2
       clear HSS2
       generalize World.alloc w25 (.cells #[.int .i64 0, .int .i64 0, .string ⟨#[]⟩] 26) = W26 at HSS hHeld ⊢
       generalize w25.heap.size = na at HSS hHeld ⊢
       obtain ⟨hA, hAb⟩ := HSS.out.al _ rfl
       obtain ⟨hB, hBb⟩ := HSS.out.sl _ rfl
       have hnab : nb ≠ na := fun e => by
        subst e
        have h1 : W26.heap[nb]? = _ := hA
        have h2 : W26.heap[nb]? = _ := hB
        rw [h1] at h2
        injection h2 with h2
        injection h2 with h2 h3
        cases h2
       obtain ⟨r0, r1, r2, f0, f1, f2, rlt⟩ := hA.three
       refine wpAnyH_ready (rs := [21]) (by kernel_rfl) (by simp) ?_
       refine AllReadyH.cons rfl (fun K hK => ?_) AllReadyH.nil
       go_simp
       refine hK.out _ _ (by (try dsimp only); exact ((((hB.other (a := ⟨na, 0, none⟩) (u := _) hnab).other (a := ⟨na, 1, none⟩) (u := _) hnab).other (a := ⟨na, 2, none⟩) (u := _) hnab).at _).trans HX.out) (fun hHeld2 => ?_)
       clear hHeld hK K; have hHeld := hHeld2; clear hHeld2; try simp only [Act.put, zp1, zp2, zp3]
       refine wpAnyH_done (by kernel_rfl) ?_ _
       clear hHeld
       go_wp2_with fail
       go_meet
       exact ⟨_, _, _, rfl, ((hA.set (i := 0) rfl).set (i := 1) rfl).set (i := 2) rfl, ((HSS.out.b.set _ hAb).set _ hAb).set _ hAb, hAb⟩
      ·
       go_simp
       have hS2 := HSS.out.newA
       refine hK.out _ _ (((hS2.sl _ rfl).1.at _).trans HX.out) (fun hHeld2 => ?_)
       clear hHeld hK K; have hHeld := hHeld2; clear hHeld2; try simp only [Act.put, zp1, zp2, zp3]
       have HSS2 := Lib.hid hS2
       clear hS2
       clear HSS
       have HSS := HSS2
       clear HSS2
       generalize World.alloc w24 (.cells #[.int .i64 0, .int .i64 0, .string ⟨#[]⟩] 26) = W27 at HSS hHeld ⊢
       generalize w24.heap.size = na at HSS hHeld ⊢
       refine wpAnyH_ready (rs := [14]) (by kernel_rfl) (by simp) ?_
       refine AllReadyH.cons rfl (fun K hK => ?_) AllReadyH.nil
       go_simp
       refine (pick_any rb (p + 3) _ _ HSS.out.b.rdr (by omega) (by omega)).mono ?_
       rintro e w28 ⟨y4, rfl, hy4a, hy4b, hr28, hg28⟩
       have hS2 := HSS.out.pick hr28 hg28
       refine hK.out _ _ (((hS2.sl _ rfl).1.at _).trans HX.out) (fun hHeld2 => ?_)
       clear hHeld hK K; have hHeld := hHeld2; clear hHeld2; try simp only [Act.put, zp1, zp2, zp3]
       have HSS2 := Lib.hid hS2
       clear hS2 hr28 hg28
       clear HSS
       have HSS := HSS2
       clear HSS2
       have hy4c : y4 < 40 := by omega
       clear hy4b
       refine take_y 15 26 (v := ?_) rfl ?_ ?_; rotate_left; focus (intro w hSw; (try dsimp only at hSw); go_simp; (try rw [if_neg (by omega)]); (try with_reducible rfl))
       try simp only [Act.put, zp1, zp2, zp3]
       refine take_y 17 28 (v := ?_) rfl ?_ ?_; rotate_left; focus (intro w hSw; (try dsimp only at hSw); go_simp; (try rw [if_neg (by omega)]); (try with_reducible rfl))
       try simp only [Act.put, zp1, zp2, zp3]
       refine take_y 18 29 (v := ?_) rfl ?_ ?_; rotate_left; focus (intro w hSw; (try dsimp only at hSw); go_simp; (try rw [if_neg (by omega)]); (try with_reducible rfl))
       try simp only [Act.put, zp1, zp2, zp3]
       refine take_y 19 30 (v := ?_) rfl ?_ ?_; rotate_left; focus (intro w hSw; (try dsimp only at hSw); go_simp; (try rw [if_neg (by omega)]); (try with_reducible rfl))
       try simp only [Act.put, zp1, zp2, zp3]
       obtain ⟨hA, hAb⟩ := HSS.out.al _ rfl
       obtain ⟨hB, hBb⟩ := HSS.out.sl _ rfl
       have hnab : nb ≠ na := fun e => by
        subst e
        have h1 : w28.heap[nb]? = _ := hA
        have h2 : w28.heap[nb]? = _ := hB
        rw [h1] at h2
        injection h2 with h2
        injection h2 with h2 h3
        cases h2
       obtain ⟨r0, r1, r2, f0, f1, f2, rlt⟩ := hA.three
       refine wpAnyH_ready (rs := [21]) (by kernel_rfl) (by simp) ?_
       refine AllReadyH.cons rfl (fun K hK => ?_) AllReadyH.nil
       go_simp
       refine hK.out _ _ (by (try dsimp only); exact ((((hB.other (a := ⟨na, 0, none⟩) (u := _) hnab).other (a := ⟨na, 1, none⟩) (u := _) hnab).other (a := ⟨na, 2, none⟩) (u := _) hnab).at _).trans HX.out) (fun hHeld2 => ?_)
       clear hHeld hK K; have hHeld := hHeld2; clear hHeld2; try simp only [Act.put, zp1, zp2, zp3]
       refine wpAnyH_done (by kernel_rfl) ?_ _
       clear hHeld
       go_wp2_with fail
       go_meet
       exact ⟨_, _, _, rfl, ((hA.set (i := 0) rfl).set (i := 1) rfl).set (i := 2) rfl, ((HSS.out.b.set _ hAb).set _ hAb).set _ hAb, hAb⟩
     ·
      go_simp
      have hS2 := HSS.out.newA
      refine hK.out _ _ (((hS2.sl _ rfl).1.at _).trans HX.out) (fun hHeld2 => ?_)
      clear hHeld hK K; have hHeld := hHeld2; clear hHeld2; try simp only [Act.put, zp1, zp2, zp3]
      have HSS2 := Lib.hid hS2
      clear hS2
      clear HSS
      have HSS := HSS2
      clear HSS2
      generalize World.alloc w23 (.cells #[.int .i64 0, .int .i64 0, .string ⟨#[]⟩] 26) = W29 at HSS hHeld ⊢
      generalize w23.heap.size = na at HSS hHeld ⊢
      refine wpAnyH_ready (rs := [12]) (by kernel_rfl) (by simp) ?_
      refine AllReadyH.cons rfl (fun K hK => ?_) AllReadyH.nil
      go_simp
      refine (pick_any rb (p + 2) _ _ HSS.out.b.rdr (by omega) (by omega)).mono ?_
      rintro e w30 ⟨y3, rfl, hy3a, hy3b, hr30, hg30⟩
      have hS2 := HSS.out.pick hr30 hg30
      refine hK.out _ _ (((hS2.sl _ rfl).1.at _).trans HX.out) (fun hHeld2 => ?_)
      clear hHeld hK K; have hHeld := hHeld2; clear hHeld2; try simp only [Act.put, zp1, zp2, zp3]
      have HSS2 := Lib.hid hS2
      clear hS2 hr30 hg30
      clear HSS
      have HSS := HSS2
      clear HSS2
      have hy3c : y3 < L := by omega
      clear hy3b
      refine wpAnyH_ready (rs := [14]) (by kernel_rfl) (by simp) ?_
      refine AllReadyH.cons rfl (fun K hK => ?_) AllReadyH.nil
      go_simp
      refine (pick_any rb (p + 3) _ _ HSS.out.b.rdr (by omega) (by omega)).mono ?_
      rintro e w31 ⟨y4, rfl, hy4a, hy4b, hr31, hg31⟩
      have hS2 := HSS.out.pick hr31 hg31
      refine hK.out _ _ (((hS2.sl _ rfl).1.at _).trans HX.out) (fun hHeld2 => ?_)
      clear hHeld hK K; have hHeld := hHeld2; clear hHeld2; try simp only [Act.put, zp1, zp2, zp3]
      have HSS2 := Lib.hid hS2
      clear hS2 hr31 hg31
      clear HSS
      have HSS := HSS2
      clear HSS2
      have hy4c : y4 < 40 := by omega
      clear hy4b
      refine take_y 15 26 (v := ?_) rfl ?_ ?_; rotate_left; focus (intro w hSw; (try dsimp only at hSw); go_simp; (try rw [if_neg (by omega)]); (try with_reducible rfl))
      try simp only [Act.put, zp1, zp2, zp3]
      refine take_y 17 28 (v := ?_) rfl ?_ ?_; rotate_left; focus (intro w hSw; (try dsimp only at hSw); go_simp; (try rw [if_neg (by omega)]); (try with_reducible rfl))
      try simp only [Act.put, zp1, zp2, zp3]
      refine take_y 18 29 (v := ?_) rfl ?_ ?_; rotate_left; focus (intro w hSw; (try dsimp only at hSw); go_simp; (try rw [if_neg (by omega)]); (try with_reducible rfl))
      try simp only [Act.put, zp1, zp2, zp3]
      refine take_y 19 30 (v := ?_) rfl ?_ ?_; rotate_left; focus (intro w hSw; (try dsimp only at hSw); go_simp; (try rw [if_neg (by omega)]); (try with_reducible rfl))
      try simp only [Act.put, zp1, zp2, zp3]
      obtain ⟨hA, hAb⟩ := HSS.out.al _ rfl
      obtain ⟨hB, hBb⟩ := HSS.out.sl _ rfl
      have hnab : nb ≠ na := fun e => by
       subst e
       have h1 : w31.heap[nb]? = _ := hA
       have h2 : w31.heap[nb]? = _ := hB
       rw [h1] at h2
       injection h2 with h2
       injection h2 with h2 h3
       cases h2
      obtain ⟨r0, r1, r2, f0, f1, f2, rlt⟩ := hA.three
      refine wpAnyH_ready (rs := [21]) (by kernel_rfl) (by simp) ?_
      refine AllReadyH.cons rfl (fun K hK => ?_) AllReadyH.nil
      go_simp
      refine hK.out _ _ (by (try dsimp only); exact ((((hB.other (a := ⟨na, 0, none⟩) (u := _) hnab).other (a := ⟨na, 1, none⟩) (u := _) hnab).other (a := ⟨na, 2, none⟩) (u := _) hnab).at _).trans HX.out) (fun hHeld2 => ?_)
      clear hHeld hK K; have hHeld := hHeld2; clear hHeld2; try simp only [Act.put, zp1, zp2, zp3]
      refine wpAnyH_done (by kernel_rfl) ?_ _
      clear hHeld
      go_wp2_with fail
      go_meet
      exact ⟨_, _, _, rfl, ((hA.set (i := 0) rfl).set (i := 1) rfl).set (i := 2) rfl, ((HSS.out.b.set _ hAb).set _ hAb).set _ hAb, hAb⟩
    ·
     go_simp
     have hS2 := HSS.out.newA
     refine hK.out _ _ (((hS2.sl _ rfl).1.at _).trans HX.out) (fun hHeld2 => ?_)
     clear hHeld hK K; have hHeld := hHeld2; clear hHeld2; try simp only [Act.put, zp1, zp2, zp3]
     have HSS2 := Lib.hid hS2
     clear hS2
     clear HSS
     have HSS := HSS2
     clear HSS2
     generalize World.alloc W22 (.cells #[.int .i64 0, .int .i64 0, .string ⟨#[]⟩] 26) = W32 at HSS hHeld ⊢
     generalize W22.heap.size = na at HSS hHeld ⊢
     refine wpAnyH_ready (rs := [6]) (by kernel_rfl) (by simp) ?_
     refine AllReadyH.cons rfl (fun K hK => ?_) AllReadyH.nil
     go_simp
     refine (pick_any rb (p + 1) _ _ HSS.out.b.rdr (by omega) (by omega)).mono ?_
     rintro e w33 ⟨y2, rfl, hy2a, hy2b, hr33, hg33⟩
     have hS2 := HSS.out.pick hr33 hg33
     refine hK.out _ _ (((hS2.sl _ rfl).1.at _).trans HX.out) (fun hHeld2 => ?_)
     clear hHeld hK K; have hHeld := hHeld2; clear hHeld2; try simp only [Act.put, zp1, zp2, zp3]
     have HSS2 := Lib.hid hS2
     clear hS2 hr33 hg33
     clear HSS
     have HSS := HSS2
     clear HSS2
     have hy2c : y2 < 60 := by omega
     clear hy2b
     refine take_y 7 18 (v := ?_) rfl ?_ ?_; rotate_left; focus (intro w hSw; (try dsimp only at hSw); go_simp; (try rw [if_neg (by omega)]); (try with_reducible rfl))
     try simp only [Act.put, zp1, zp2, zp3]
     refine take_y 8 19 (v := ?_) rfl ?_ ?_; rotate_left; focus (intro w hSw; (try dsimp only at hSw); go_simp; (try rw [if_neg (by omega)]); (try with_reducible rfl))
     try simp only [Act.put, zp1, zp2, zp3]
     refine take_y 9 20 (v := ?_) rfl ?_ ?_; rotate_left; focus (intro w hSw; (try dsimp only at hSw); go_simp; (try rw [if_neg (by omega)]); (try with_reducible rfl))
     try simp only [Act.put, zp1, zp2, zp3]
     refine wpAnyH_ready (rs := [12]) (by kernel_rfl) (by simp) ?_
     refine AllReadyH.cons rfl (fun K hK => ?_) AllReadyH.nil
     go_simp
     refine (pick_any rb (p + 2) _ _ HSS.out.b.rdr (by omega) (by omega)).mono ?_
     rintro e w34 ⟨y3, rfl, hy3a, hy3b, hr34, hg34⟩
     have hS2 := HSS.out.pick hr34 hg34
     refine hK.out _ _ (((hS2.sl _ rfl).1.at _).trans HX.out) (fun hHeld2 => ?_)
     clear hHeld hK K; have hHeld := hHeld2; clear hHeld2; try simp only [Act.put, zp1, zp2, zp3]
     have HSS2 := Lib.hid hS2
     clear hS2 hr34 hg34
     clear HSS
     have HSS := HSS2
     clear HSS2
     have hy3c : y3 < L := by omega
     clear hy3b
     refine wpAnyH_ready (rs := [14]) (by kernel_rfl) (by simp) ?_
     refine AllReadyH.cons rfl (fun K hK => ?_) AllReadyH.nil
     go_simp
     refine (pick_any rb (p + 3) _ _ HSS.out.b.rdr (by omega) (by omega)).mono ?_
     rintro e w35 ⟨y4, rfl, hy4a, hy4b, hr35, hg35⟩
     have hS2 := HSS.out.pick hr35 hg35
     refine hK.out _ _ (((hS2.sl _ rfl).1.at _).trans HX.out) (fun hHeld2 => ?_)
     clear hHeld hK K; have hHeld := hHeld2; clear hHeld2; try simp only [Act.put, zp1, zp2, zp3]
     have HSS2 := Lib.hid hS2
     clear hS2 hr35 hg35
     clear HSS
     have HSS := HSS2
     clear HSS2
     have hy4c : y4 < 40 := by omega
     clear hy4b
     refine take_y 15 26 (v := ?_) rfl ?_ ?_; rotate_left; focus (intro w hSw; (try dsimp only at hSw); go_simp; (try rw [if_neg (by omega)]); (try with_reducible rfl))
     try simp only [Act.put, zp1, zp2, zp3]
     refine take_y 17 28 (v := ?_) rfl ?_ ?_; rotate_left; focus (intro w hSw; (try dsimp only at hSw); go_simp; (try rw [if_neg (by omega)]); (try with_reducible rfl))
     try simp only [Act.put, zp1, zp2, zp3]
     refine take_y 18 29 (v := ?_) rfl ?_ ?_; rotate_left; focus (intro w hSw; (try dsimp only at hSw); go_simp; (try rw [if_neg (by omega)]); (try with_reducible rfl))
     try simp only [Act.put, zp1, zp2, zp3]
     refine take_y 19 30 (v := ?_) rfl ?_ ?_; rotate_left; focus (intro w hSw; (try dsimp only at hSw); go_simp; (try rw [if_neg (by omega)]); (try with_reducible rfl))
     try simp only [Act.put, zp1, zp2, zp3]
     obtain ⟨hA, hAb⟩ := HSS.out.al _ rfl
     obtain ⟨hB, hBb⟩ := HSS.out.sl _ rfl
     have hnab : nb ≠ na := fun e => by
      subst e
      have h1 : w35.heap[nb]? = _ := hA
      have h2 : w35.heap[nb]? = _ := hB
      rw [h1] at h2
      injection h2 with h2
      injection h2 with h2 h3
      cases h2
     obtain ⟨r0, r1, r2, f0, f1, f2, rlt⟩ := hA.three
     refine wpAnyH_ready (rs := [21]) (by kernel_rfl) (by simp) ?_
     refine AllReadyH.cons rfl (fun K hK => ?_) AllReadyH.nil
     go_simp
     refine hK.out _ _ (by (try dsimp only); exact ((((hB.other (a := ⟨na, 0, none⟩) (u := _) hnab).other (a := ⟨na, 1, none⟩) (u := _) hnab).other (a := ⟨na, 2, none⟩) (u := _) hnab).at _).trans HX.out) (fun hHeld2 => ?_)
     clear hHeld hK K; have hHeld := hHeld2; clear hHeld2; try simp only [Act.put, zp1, zp2, zp3]
     refine wpAnyH_done (by kernel_rfl) ?_ _
     clear hHeld
     go_wp2_with fail
     go_meet
     exact ⟨_, _, _, rfl, ((hA.set (i := 0) rfl).set (i := 1) rfl).set (i := 2) rfl, ((HSS.out.b.set _ hAb).set _ hAb).set _ hAb, hAb⟩
   ·
    go_simp
    refine (pick_any rb (p + 1) _ _ HSS.out.b.rdr (by omega) (by omega)).mono ?_
    rintro e w36 ⟨y2, rfl, hy2a, hy2b, hr36, hg36⟩
    have hS2 := HSS.out.pick hr36 hg36
    refine hK.out _ _ trivial (fun hHeld2 => ?_)
    clear hHeld hK K; have hHeld := hHeld2; clear hHeld2; try simp only [Act.put, zp1, zp2, zp3]
    have HSS2 := Lib.hid hS2
    clear hS2 hr36 hg36
    clear HSS
    have HSS := HSS2
    clear HSS2
    have hy2c : y2 < 60 := by omega
    clear hy2b
    refine take_y 7 18 (v := ?_) rfl ?_ ?_; rotate_left; focus (intro w hSw; (try dsimp only at hSw); go_simp; (try rw [if_neg (by omega)]); (try with_reducible rfl))
    try simp only [Act.put, zp1, zp2, zp3]
    refine take_y 8 19 (v := ?_) rfl ?_ ?_; rotate_left; focus (intro w hSw; (try dsimp only at hSw); go_simp; (try rw [if_neg (by omega)]); (try with_reducible rfl))
    try simp only [Act.put, zp1, zp2, zp3]
    refine wpAnyH_ready (rs := [0, 12, 20]) (by kernel_rfl) (by simp) ?_
    refine AllReadyH.cons rfl (fun K hK => ?_) (AllReadyH.cons rfl (fun K hK => ?_) (AllReadyH.cons rfl (fun K hK => ?_) AllReadyH.nil))
    ·
     go_simp
     have hS2 := HSS.out.newB
     refine hK.out _ _ trivial (fun hHeld2 => ?_)
     clear hHeld hK K; have hHeld := hHeld2; clear hHeld2; try simp only [Act.put, zp1, zp2, zp3]
     have HSS2 := Lib.hid hS2
     clear hS2
     clear HSS
     have HSS := HSS2
     clear HSS2
     generalize World.alloc w36 (.cells #[.int .i64 0, .int .i64 0, .int .i64 0, .int .i64 0, .int .i64 1, .int .i64 1, .int .i64 2] 3) = W37 at HSS hHeld ⊢
     generalize w36.heap.size = nb at HSS hHeld ⊢
     obtain ⟨x, hx⟩ := seven_at y1 hy1a hy1c
     have HX := Lib.hid hx
     clear hx
     refine wpAnyH_weak (S' := fun w' => w'.cell? ⟨nb, y1.toNat, none⟩ = some (.int .i64 x)) (fun _ _ => trivial) _ _ _ _ ?_
     clear hHeld
     have hHeld := ((HSS.out.sl _ rfl).1.at y1.toNat).trans HX.out
     refine take_y 3 14 (v := ?_) rfl ?_ ?_; rotate_left; focus (intro w hSw; (try dsimp only at hSw); go_simp; (try rw [if_neg (by omega)]); (try with_reducible rfl))
     try simp only [Act.put, zp1, zp2, zp3]
     refine take_y 4 15 (v := ?_) rfl ?_ ?_; rotate_left; focus (intro w hSw; (try dsimp only at hSw); go_simp; (try rw [if_neg (by omega)]); (try with_reducible rfl))
     try simp only [Act.put, zp1, zp2, zp3]
     refine take_y 9 20 (v := ?_) rfl ?_ ?_; rotate_left; focus (intro w hSw; (try dsimp only at hSw); go_simp; (try rw [if_neg (by omega)]); (try with_reducible rfl))
     try simp only [Act.put, zp1, zp2, zp3]
     refine wpAnyH_ready (rs := [12, 20]) (by kernel_rfl) (by simp) ?_
     refine AllReadyH.cons rfl (fun K hK => ?_) (AllReadyH.cons rfl (fun K hK => ?_) AllReadyH.nil)
     ·
      go_simp
      refine (pick_any rb (p + 2) _ _ HSS.out.b.rdr (by omega) (by omega)).mono ?_
      rintro e w38 ⟨y3, rfl, hy3a, hy3b, hr38, hg38⟩
      have hS2 := HSS.out.pick hr38 hg38
      refine hK.out _ _ (((hS2.sl _ rfl).1.at _).trans HX.out) (fun hHeld2 => ?_)
      clear hHeld hK K; have hHeld := hHeld2; clear hHeld2; try simp only [Act.put, zp1, zp2, zp3]
      have HSS2 := Lib.hid hS2
      clear hS2 hr38 hg38
      clear HSS
      have HSS := HSS2
      clear HSS2
      have hy3c : y3 < L := by omega
      clear hy3b
      refine wpAnyH_ready (rs := [14, 20]) (by kernel_rfl) (by simp) ?_
      refine AllReadyH.cons rfl (fun K hK => ?_) (AllReadyH.cons rfl (fun K hK => ?_) AllReadyH.nil)
      ·
       go_simp
       refine (pick_any rb (p + 3) _ _ HSS.out.b.rdr (by omega) (by omega)).mono ?_
       rintro e w39 ⟨y4, rfl, hy4a, hy4b, hr39, hg39⟩
       have hS2 := HSS.out.pick hr39 hg39
       refine hK.out _ _ (((hS2.sl _ rfl).1.at _).trans HX.out) (fun hHeld2 => ?_)
       clear hHeld hK K; have hHeld := hHeld2; clear hHeld2; try simp only [Act.put, zp1, zp2, zp3]
       have HSS2 := Lib.hid hS2
       clear hS2 hr39 hg39
       clear HSS
       have HSS := HSS2
       clear HSS2
       have hy4c : y4 < 40 := by omega
       clear hy4b
       refine take_y 15 26 (v := ?_) rfl ?_ ?_; rotate_left; focus (intro w hSw; (try dsimp only at hSw); go_simp; (try rw [if_neg (by omega)]); (try with_reducible rfl))
       try simp only [Act.put, zp1, zp2, zp3]
       refine take_y 17 28 (v := ?_) rfl ?_ ?_; rotate_left; focus (intro w hSw; (try dsimp only at hSw); go_simp; (try rw [if_neg (by omega)]); (try with_reducible rfl))
       try simp only [Act.put, zp1, zp2, zp3]
       refine take_y 18 29 (v := ?_) rfl ?_ ?_; rotate_left; focus (intro w hSw; (try dsimp only at hSw); go_simp; (try rw [if_neg (by omega)]); (try with_reducible rfl))
       try simp only [Act.put, zp1, zp2, zp3]
       refine take_y 19 30 (v := ?_) rfl ?_ ?_; rotate_left; focus (intro w hSw; (try dsimp only at hSw); go_simp; (try rw [if_neg (by omega)]); (try with_reducible rfl))
       try simp only [Act.put, zp1, zp2, zp3]
       refine wpAnyH_ready (rs := [20]) (by kernel_rfl) (by simp) ?_
       refine AllReadyH.cons rfl (fun K hK => ?_) AllReadyH.nil
       go_simp
       have hS2 := HSS.out.newA
       refine hK.out _ _ (((hS2.sl _ rfl).1.at _).trans HX.out) (fun hHeld2 => ?_)
       clear hHeld hK K; have hHeld := hHeld2; clear hHeld2; try simp only [Act.put, zp1, zp2, zp3]
       have HSS2 := Lib.hid hS2
       clear hS2
       clear HSS
       have HSS := HSS2
       clear HSS2
       generalize World.alloc w39 (.cells #[.int .i64 0, .int .i64 0, .string ⟨#[]⟩] 26) = W40 at HSS hHeld ⊢
       generalize w39.heap.size = na at HSS hHeld ⊢
       obtain ⟨hA, hAb⟩ := HSS.out.al _ rfl
       obtain ⟨hB, hBb⟩ := HSS.out.sl _ rfl
       have hnab : nb ≠ na := fun e => by
        subst e
        have h1 : W40.heap[nb]? = _ := hA
        have h2 : W40.heap[nb]? = _ := hB
        rw [h1] at h2
        injection h2 with h2
        injection h2 with h2 h3
        cases h2
       obtain ⟨r0, r1, r2, f0, f1, f2, rlt⟩ := hA.three
       refine wpAnyH_ready (rs := [21]) (by kernel_rfl) (by simp) ?_
       refine AllReadyH.cons rfl (fun K hK => ?_) AllReadyH.nil
       go_simp
       refine hK.out _ _ (by (try dsimp only); exact ((((hB.other (a := ⟨na, 0, none⟩) (u := _) hnab).other (a := ⟨na, 1, none⟩) (u := _) hnab).other (a := ⟨na, 2, none⟩) (u := _) hnab).at _).trans HX.out) (fun hHeld2 => ?_)
       clear hHeld hK K; have hHeld := hHeld2; clear hHeld2; try simp only [Act.put, zp1, zp2, zp3]
       refine wpAnyH_done (by kernel_rfl) ?_ _
       clear hHeld
       go_wp2_with fail
       go_meet
       exact ⟨_, _, _, rfl, ((hA.set (i := 0) rfl).set (i := 1) rfl).set (i := 2) rfl, ((HSS.out.b.set _ hAb).set _ hAb).set _ hAb, hAb⟩
      ·
       go_simp
       have hS2 := HSS.out.newA
       refine hK.out _ _ (((hS2.sl _ rfl).1.at _).trans HX.out) (fun hHeld2 => ?_)
       clear hHeld hK K; have hHeld := hHeld2; clear hHeld2; try simp only [Act.put, zp1, zp2, zp3]
       have HSS2 := Lib.hid hS2
       clear hS2
       clear HSS
       have HSS := HSS2
       clear HSS2
       generalize World.alloc w38 (.cells #[.int .i64 0, .int .i64 0, .string ⟨#[]⟩] 26) = W41 at HSS hHeld ⊢
       generalize w38.heap.size = na at HSS hHeld ⊢
       refine wpAnyH_ready (rs := [14]) (by kernel_rfl) (by simp) ?_
       refine AllReadyH.cons rfl (fun K hK => ?_) AllReadyH.nil
       go_simp
       refine (pick_any rb (p + 3) _ _ HSS.out.b.rdr (by omega) (by omega)).mono ?_
       rintro e w42 ⟨y4, rfl, hy4a, hy4b, hr42, hg42⟩
       have hS2 := HSS.out.pick hr42 hg42
       refine hK.out _ _ (((hS2.sl _ rfl).1.at _).trans HX.out) (fun hHeld2 => ?_)
       clear hHeld hK K; have hHeld := hHeld2; clear hHeld2; try simp only [Act.put, zp1, zp2, zp3]
       have HSS2 := Lib.hid hS2
       clear hS2 hr42 hg42
       clear HSS
       have HSS := HSS2
       clear HSS2
       have hy4c : y4 < 40 := by omega
       clear hy4b
       refine take_y 15 26 (v := ?_) rfl ?_ ?_; rotate_left; focus (intro w hSw; (try dsimp only at hSw); go_simp; (try rw [if_neg (by omega)]); (try with_reducible rfl))
       try simp only [Act.put, zp1, zp2, zp3]
       refine take_y 17 28 (v := ?_) rfl ?_ ?_; rotate_left; focus (intro w hSw; (try dsimp only at hSw); go_simp; (try rw [if_neg (by omega)]); (try with_reducible rfl))
       try simp only [Act.put, zp1, zp2, zp3]
       refine take_y 18 29 (v := ?_) rfl ?_ ?_; rotate_left; focus (intro w hSw; (try dsimp only at hSw); go_simp; (try rw [if_neg (by omega)]); (try with_reducible rfl))
       try simp only [Act.put, zp1, zp2, zp3]
       refine take_y 19 30 (v := ?_) rfl ?_ ?_; rotate_left; focus (intro w hSw; (try dsimp only at hSw); go_simp; (try rw [if_neg (by omega)]); (try with_reducible rfl))
       try simp only [Act.put, zp1, zp2, zp3]
       obtain ⟨hA, hAb⟩ := HSS.out.al _ rfl
       obtain ⟨hB, hBb⟩ := HSS.out.sl _ rfl
       have hnab : nb ≠ na := fun e => by
        subst e
        have h1 : w42.heap[nb]? = _ := hA
        have h2 : w42.heap[nb]? = _ := hB
        rw [h1] at h2
        injection h2 with h2
        injection h2 with h2 h3
        cases h2
       obtain ⟨r0, r1, r2, f0, f1, f2, rlt⟩ := hA.three
       refine wpAnyH_ready (rs := [21]) (by kernel_rfl) (by simp) ?_
       refine AllReadyH.cons rfl (fun K hK => ?_) AllReadyH.nil
       go_simp
       refine hK.out _ _ (by (try dsimp only); exact ((((hB.other (a := ⟨na, 0, none⟩) (u := _) hnab).other (a := ⟨na, 1, none⟩) (u := _) hnab).other (a := ⟨na, 2, none⟩) (u := _) hnab).at _).trans HX.out) (fun hHeld2 => ?_)
       clear hHeld hK K; have hHeld := hHeld2; clear hHeld2; try simp only [Act.put, zp1, zp2, zp3]
       refine wpAnyH_done (by kernel_rfl) ?_ _
       clear hHeld
       go_wp2_with fail
       go_meet
       exact ⟨_, _, _, rfl, ((hA.set (i := 0) rfl).set (i := 1) rfl).set (i := 2) rfl, ((HSS.out.b.set _ hAb).set _ hAb).set _ hAb, hAb⟩
     ·
      go_simp
      have hS2 := HSS.out.newA
      refine hK.out _ _ (((hS2.sl _ rfl).1.at _).trans HX.out) (fun hHeld2 => ?_)
      clear hHeld hK K; have hHeld := hHeld2; clear hHeld2; try simp only [Act.put, zp1, zp2, zp3]
      have HSS2 := Lib.hid hS2
      clear hS2
      clear HSS
      have HSS := HSS2
      clear HSS2
      generalize World.alloc W37 (.cells #[.int .i64 0, .int .i64 0, .string ⟨#[]⟩] 26) = W43 at HSS hHeld ⊢
      generalize W37.heap.size = na at HSS hHeld ⊢
      refine wpAnyH_ready (rs := [12]) (by kernel_rfl) (by simp) ?_
      refine AllReadyH.cons rfl (fun K hK => ?_) AllReadyH.nil
      go_simp
      refine (pick_any rb (p + 2) _ _ HSS.out.b.rdr (by omega) (by omega)).mono ?_
      rintro e w44 ⟨y3, rfl, hy3a, hy3b, hr44, hg44⟩
      have hS2 := HSS.out.pick hr44 hg44
      refine hK.out _ _ (((hS2.sl _ rfl).1.at _).trans HX.out) (fun hHeld2 => ?_)
      clear hHeld hK K; have hHeld := hHeld2; clear hHeld2; try simp only [Act.put, zp1, zp2, zp3]
      have HSS2 := Lib.hid hS2
      clear hS2 hr44 hg44
      clear HSS
      have HSS := HSS2
      clear HSS2
      have hy3c : y3 < L := by omega
      clear hy3b
      refine wpAnyH_ready (rs := [14]) (by kernel_rfl) (by simp) ?_
      refine AllReadyH.cons rfl (fun K hK => ?_) AllReadyH.nil
      go_simp
      refine (pick_any rb (p + 3) _ _ HSS.out.b.rdr (by omega) (by omega)).mono ?_
      rintro e w45 ⟨y4, rfl, hy4a, hy4b, hr45, hg45⟩
      have hS2 := HSS.out.pick hr45 hg45
      refine hK.out _ _ (((hS2.sl _ rfl).1.at _).trans HX.out) (fun hHeld2 => ?_)
      clear hHeld hK K; have hHeld := hHeld2; clear hHeld2; try simp only [Act.put, zp1, zp2, zp3]
      have HSS2 := Lib.hid hS2
      clear hS2 hr45 hg45
      clear HSS
      have HSS := HSS2
      clear HSS2
      have hy4c : y4 < 40 := by omega
      clear hy4b
      refine take_y 15 26 (v := ?_) rfl ?_ ?_; rotate_left; focus (intro w hSw; (try dsimp only at hSw); go_simp; (try rw [if_neg (by omega)]); (try with_reducible rfl))
      try simp only [Act.put, zp1, zp2, zp3]
      refine take_y 17 28 (v := ?_) rfl ?_ ?_; rotate_left; focus (intro w hSw; (try dsimp only at hSw); go_simp; (try rw [if_neg (by omega)]); (try with_reducible rfl))
      try simp only [Act.put, zp1, zp2, zp3]
      refine take_y 18 29 (v := ?_) rfl ?_ ?_; rotate_left; focus (intro w hSw; (try dsimp only at hSw); go_simp; (try rw [if_neg (by omega)]); (try with_reducible rfl))
      try simp only [Act.put, zp1, zp2, zp3]
      refine take_y 19 30 (v := ?_) rfl ?_ ?_; rotate_left; focus (intro w hSw; (try dsimp only at hSw); go_simp; (try rw [if_neg (by omega)]); (try with_reducible rfl))
      try simp only [Act.put, zp1, zp2, zp3]
      obtain ⟨hA, hAb⟩ := HSS.out.al _ rfl
      obtain ⟨hB, hBb⟩ := HSS.out.sl _ rfl
      have hnab : nb ≠ na := fun e => by
       subst e
       have h1 : w45.heap[nb]? = _ := hA
       have h2 : w45.heap[nb]? = _ := hB
       rw [h1] at h2
       injection h2 with h2
       injection h2 with h2 h3
       cases h2
      obtain ⟨r0, r1, r2, f0, f1, f2, rlt⟩ := hA.three
      refine wpAnyH_ready (rs := [21]) (by kernel_rfl) (by simp) ?_
      refine AllReadyH.cons rfl (fun K hK => ?_) AllReadyH.nil
      go_simp
      refine hK.out _ _ (by (try dsimp only); exact ((((hB.other (a := ⟨na, 0, none⟩) (u := _) hnab).other (a := ⟨na, 1, none⟩) (u := _) hnab).other (a := ⟨na, 2, none⟩) (u := _) hnab).at _).trans HX.out) (fun hHeld2 => ?_)
      clear hHeld hK K; have hHeld := hHeld2; clear hHeld2; try simp only [Act.put, zp1, zp2, zp3]
      refine wpAnyH_done (by kernel_rfl) ?_ _
      clear hHeld
      go_wp2_with fail
      go_meet
      exact ⟨_, _, _, rfl, ((hA.set (i := 0) rfl).set (i := 1) rfl).set (i := 2) rfl, ((HSS.out.b.set _ hAb).set _ hAb).set _ hAb, hAb⟩
    ·
     go_simp
     refine (pick_any rb (p + 2) _ _ HSS.out.b.rdr (by omega) (by omega)).mono ?_
     rintro e w46 ⟨y3, rfl, hy3a, hy3b, hr46, hg46⟩
     have hS2 := HSS.out.pick hr46 hg46
     refine hK.out _ _ trivial (fun hHeld2 => ?_)
     clear hHeld hK K; have hHeld := hHeld2; clear hHeld2; try simp only [Act.put, zp1, zp2, zp3]
     have HSS2 := Lib.hid hS2
     clear hS2 hr46 hg46
     clear HSS
     have HSS := HSS2
     clear HSS2
     have hy3c : y3 < L := by omega
     clear hy3b
     refine wpAnyH_ready (rs := [0, 14, 20]) (by kernel_rfl) (by simp) ?_
     refine AllReadyH.cons rfl (fun K hK => ?_) (AllReadyH.cons rfl (fun K hK => ?_) (AllReadyH.cons rfl (fun K hK => ?_) AllReadyH.nil))
     ·
      go_simp
      have hS2 := HSS.out.newB
      refine hK.out _ _ trivial (fun hHeld2 => ?_)
      clear hHeld hK K; have hHeld := hHeld2; clear hHeld2; try simp only [Act.put, zp1, zp2, zp3]
      have HSS2 := Lib.hid hS2
      clear hS2
      clear HSS
      have HSS := HSS2
      clear HSS2
      generalize World.alloc w46 (.cells #[.int .i64 0, .int .i64 0, .int .i64 0, .int .i64 0, .int .i64 1, .int .i64 1, .int .i64 2] 3) = W47 at HSS hHeld ⊢
      generalize w46.heap.size = nb at HSS hHeld ⊢
      obtain ⟨x, hx⟩ := seven_at y1 hy1a hy1c
      have HX := Lib.hid hx
      clear hx
      refine wpAnyH_weak (S' := fun w' => w'.cell? ⟨nb, y1.toNat, none⟩ = some (.int .i64 x)) (fun _ _ => trivial) _ _ _ _ ?_
      clear hHeld
      have hHeld := ((HSS.out.sl _ rfl).1.at y1.toNat).trans HX.out
      refine take_y 3 14 (v := ?_) rfl ?_ ?_; rotate_left; focus (intro w hSw; (try dsimp only at hSw); go_simp; (try rw [if_neg (by omega)]); (try with_reducible rfl))
      try simp only [Act.put, zp1, zp2, zp3]
      refine take_y 4 15 (v := ?_) rfl ?_ ?_; rotate_left; focus (intro w hSw; (try dsimp only at hSw); go_simp; (try rw [if_neg (by omega)]); (try with_reducible rfl))
      try simp only [Act.put, zp1, zp2, zp3]
      refine take_y 9 20 (v := ?_) rfl ?_ ?_; rotate_left; focus (intro w hSw; (try dsimp only at hSw); go_simp; (try rw [if_neg (by omega)]); (try with_reducible rfl))
      try simp only [Act.put, zp1, zp2, zp3]
      refine wpAnyH_ready (rs := [14, 20]) (by kernel_rfl) (by simp) ?_
      refine AllReadyH.cons rfl (fun K hK => ?_) (AllReadyH.cons rfl (fun K hK => ?_) AllReadyH.nil)
      ·
       go_simp
       refine (pick_any rb (p + 3) _ _ HSS.out.b.rdr (by omega) (by omega)).mono ?_
       rintro e w48 ⟨y4, rfl, hy4a, hy4b, hr48, hg48⟩
       have hS2 := HSS.out.pick hr48 hg48
       refine hK.out _ _ (((hS2.sl _ rfl).1.at _).trans HX.out) (fun hHeld2 => ?_)
       clear hHeld hK K; have hHeld := hHeld2; clear hHeld2; try simp only [Act.put, zp1, zp2, zp3]
       have HSS2 := Lib.hid hS2
       clear hS2 hr48 hg48
       clear HSS
       have HSS := HSS2
       clear HSS2
       have hy4c : y4 < 40 := by omega
       clear hy4b
       refine take_y 15 26 (v := ?_) rfl ?_ ?_; rotate_left; focus (intro w hSw; (try dsimp only at hSw); go_simp; (try rw [if_neg (by omega)]); (try with_reducible rfl))
       try simp only [Act.put, zp1, zp2, zp3]
       refine take_y 17 28 (v := ?_) rfl ?_ ?_; rotate_left; focus (intro w hSw; (try dsimp only at hSw); go_simp; (try rw [if_neg (by omega)]); (try with_reducible rfl))
       try simp only [Act.put, zp1, zp2, zp3]
       refine take_y 18 29 (v := ?_) rfl ?_ ?_; rotate_left; focus (intro w hSw; (try dsimp only at hSw); go_simp; (try rw [if_neg (by omega)]); (try with_reducible rfl))
       try simp only [Act.put, zp1, zp2, zp3]
       refine take_y 19 30 (v := ?_) rfl ?_ ?_; rotate_left; focus (intro w hSw; (try dsimp only at hSw); go_simp; (try rw [if_neg (by omega)]); (try with_reducible rfl))
       try simp only [Act.put, zp1, zp2, zp3]
       refine wpAnyH_ready (rs := [20]) (by kernel_rfl) (by simp) ?_
       refine AllReadyH.cons rfl (fun K hK => ?_) AllReadyH.nil
       go_simp
       have hS2 := HSS.out.newA
       refine hK.out _ _ (((hS2.sl _ rfl).1.at _).trans HX.out) (fun hHeld2 => ?_)
       clear hHeld hK K; have hHeld := hHeld2; clear hHeld2; try simp only [Act.put, zp1, zp2, zp3]
       have HSS2 := Lib.hid hS2
       clear hS2
       clear HSS
       have HSS := HSS2
       clear HSS2
       generalize World.alloc w48 (.cells #[.int .i64 0, .int .i64 0, .string ⟨#[]⟩] 26) = W49 at HSS hHeld ⊢
       generalize w48.heap.size = na at HSS hHeld ⊢
       obtain ⟨hA, hAb⟩ := HSS.out.al _ rfl
       obtain ⟨hB, hBb⟩ := HSS.out.sl _ rfl
       have hnab : nb ≠ na := fun e => by
        subst e
        have h1 : W49.heap[nb]? = _ := hA
        have h2 : W49.heap[nb]? = _ := hB
        rw [h1] at h2
        injection h2 with h2
        injection h2 with h2 h3
        cases h2
       obtain ⟨r0, r1, r2, f0, f1, f2, rlt⟩ := hA.three
       refine wpAnyH_ready (rs := [21]) (by kernel_rfl) (by simp) ?_
       refine AllReadyH.cons rfl (fun K hK => ?_) AllReadyH.nil
       go_simp
       refine hK.out _ _ (by (try dsimp only); exact ((((hB.other (a := ⟨na, 0, none⟩) (u := _) hnab).other (a := ⟨na, 1, none⟩) (u := _) hnab).other (a := ⟨na, 2, none⟩) (u := _) hnab).at _).trans HX.out) (fun hHeld2 => ?_)
       clear hHeld hK K; have hHeld := hHeld2; clear hHeld2; try simp only [Act.put, zp1, zp2, zp3]
       refine wpAnyH_done (by kernel_rfl) ?_ _
       clear hHeld
       go_wp2_with fail
       go_meet
       exact ⟨_, _, _, rfl, ((hA.set (i := 0) rfl).set (i := 1) rfl).set (i := 2) rfl, ((HSS.out.b.set _ hAb).set _ hAb).set _ hAb, hAb⟩
      ·
       go_simp
       have hS2 := HSS.out.newA
       refine hK.out _ _ (((hS2.sl _ rfl).1.at _).trans HX.out) (fun hHeld2 => ?_)
       clear hHeld hK K; have hHeld := hHeld2; clear hHeld2; try simp only [Act.put, zp1, zp2, zp3]
       have HSS2 := Lib.hid hS2
       clear hS2
       clear HSS
       have HSS := HSS2
       clear HSS2
       generalize World.alloc W47 (.cells #[.int .i64 0, .int .i64 0, .string ⟨#[]⟩] 26) = W50 at HSS hHeld ⊢
       generalize W47.heap.size = na at HSS hHeld ⊢
       refine wpAnyH_ready (rs := [14]) (by kernel_rfl) (by simp) ?_
       refine AllReadyH.cons rfl (fun K hK => ?_) AllReadyH.nil
       go_simp
       refine (pick_any rb (p + 3) _ _ HSS.out.b.rdr (by omega) (by omega)).mono ?_
       rintro e w51 ⟨y4, rfl, hy4a, hy4b, hr51, hg51⟩
       have hS2 := HSS.out.pick hr51 hg51
       refine hK.out _ _ (((hS2.sl _ rfl).1.at _).trans HX.out) (fun hHeld2 => ?_)
       clear hHeld hK K; have hHeld := hHeld2; clear hHeld2; try simp only [Act.put, zp1, zp2, zp3]
       have HSS2 := Lib.hid hS2
       clear hS2 hr51 hg51
       clear HSS
       have HSS := HSS2
       clear HSS2
       have hy4c : y4 < 40 := by omega
       clear hy4b
       refine take_y 15 26 (v := ?_) rfl ?_ ?_; rotate_left; focus (intro w hSw; (try dsimp only at hSw); go_simp; (try rw [if_neg (by omega)]); (try with_reducible rfl))
       try simp only [Act.put, zp1, zp2, zp3]
       refine take_y 17 28 (v := ?_) rfl ?_ ?_; rotate_left; focus (intro w hSw; (try dsimp only at hSw); go_simp; (try rw [if_neg (by omega)]); (try with_reducible rfl))
       try simp only [Act.put, zp1, zp2, zp3]
       refine take_y 18 29 (v := ?_) rfl ?_ ?_; rotate_left; focus (intro w hSw; (try dsimp only at hSw); go_simp; (try rw [if_neg (by omega)]); (try with_reducible rfl))
       try simp only [Act.put, zp1, zp2, zp3]
       refine take_y 19 30 (v := ?_) rfl ?_ ?_; rotate_left; focus (intro w hSw; (try dsimp only at hSw); go_simp; (try rw [if_neg (by omega)]); (try with_reducible rfl))
       try simp only [Act.put, zp1, zp2, zp3]
       obtain ⟨hA, hAb⟩ := HSS.out.al _ rfl
       obtain ⟨hB, hBb⟩ := HSS.out.sl _ rfl
       have hnab : nb ≠ na := fun e => by
        subst e
        have h1 : w51.heap[nb]? = _ := hA
        have h2 : w51.heap[nb]? = _ := hB
        rw [h1] at h2
        injection h2 with h2
        injection h2 with h2 h3
        cases h2
       obtain ⟨r0, r1, r2, f0, f1, f2, rlt⟩ := hA.three
       refine wpAnyH_ready (rs := [21]) (by kernel_rfl) (by simp) ?_
       refine AllReadyH.cons rfl (fun K hK => ?_) AllReadyH.nil
       go_simp
       refine hK.out _ _ (by (try dsimp only); exact ((((hB.other (a := ⟨na, 0, none⟩) (u := _) hnab).other (a := ⟨na, 1, none⟩) (u := _) hnab).other (a := ⟨na, 2, none⟩) (u := _) hnab).at _).trans HX.out) (fun hHeld2 => ?_)
       clear hHeld hK K; have hHeld := hHeld2; clear hHeld2; try simp only [Act.put, zp1, zp2, zp3]
       refine wpAnyH_done (by kernel_rfl) ?_ _
       clear hHeld
       go_wp2_with fail
       go_meet
       exact ⟨_, _, _, rfl, ((hA.set (i := 0) rfl).set (i := 1) rfl).set (i := 2) rfl, ((HSS.out.b.set _ hAb).set _ hAb).set _ hAb, hAb⟩
     ·
      go_simp
      refine (pick_any rb (p + 3) _ _ HSS.out.b.rdr (by omega) (by omega)).mono ?_
      rintro e w52 ⟨y4, rfl, hy4a, hy4b, hr52, hg52⟩
      have hS2 := HSS.out.pick hr52 hg52
      refine hK.out _ _ trivial (fun hHeld2 => ?_)
      clear hHeld hK K; have hHeld := hHeld2; clear hHeld2; try simp only [Act.put, zp1, zp2, zp3]
      have HSS2 := Lib.hid hS2
      clear hS2 hr52 hg52
      clear HSS
      have HSS := HSS2
      clear HSS2
      have hy4c : y4 < 40 := by omega
      clear hy4b
      refine take_y 15 26 (v := ?_) rfl ?_ ?_; rotate_left; focus (intro w hSw; (try dsimp only at hSw); go_simp; (try rw [if_neg (by omega)]); (try with_reducible rfl))
      try simp only [Act.put, zp1, zp2, zp3]
      refine take_y 17 28 (v := ?_) rfl ?_ ?_; rotate_left; focus (intro w hSw; (try dsimp only at hSw); go_simp; (try rw [if_neg (by omega)]); (try with_reducible rfl))
      try simp only [Act.put, zp1, zp2, zp3]
      refine take_y 18 29 (v := ?_) rfl ?_ ?_; rotate_left; focus (intro w hSw; (try dsimp only at hSw); go_simp; (try rw [if_neg (by omega)]); (try with_reducible rfl))
      try simp only [Act.put, zp1, zp2, zp3]
      refine wpAnyH_ready (rs := [0, 20]) (by kernel_rfl) (by simp) ?_
      refine AllReadyH.cons rfl (fun K hK => ?_) (AllReadyH.cons rfl (fun K hK => ?_) AllReadyH.nil)
      ·
       go_simp
       have hS2 := HSS.out.newB
       refine hK.out _ _ trivial (fun hHeld2 => ?_)
       clear hHeld hK K; have hHeld := hHeld2; clear hHeld2; try simp only [Act.put, zp1, zp2, zp3]
       have HSS2 := Lib.hid hS2
       clear hS2
       clear HSS
       have HSS := HSS2
       clear HSS2
       generalize World.alloc w52 (.cells #[.int .i64 0, .int .i64 0, .int .i64 0, .int .i64 0, .int .i64 1, .int .i64 1, .int .i64 2] 3) = W53 at HSS hHeld ⊢
       generalize w52.heap.size = nb at HSS hHeld ⊢
       obtain ⟨x, hx⟩ := seven_at y1 hy1a hy1c
       have HX := Lib.hid hx
       clear hx
       refine wpAnyH_weak (S' := fun w' => w'.cell? ⟨nb, y1.toNat, none⟩ = some (.int .i64 x)) (fun _ _ => trivial) _ _ _ _ ?_
       clear hHeld
       have hHeld := ((HSS.out.sl _ rfl).1.at y1.toNat).trans HX.out
       refine take_y 3 14 (v := ?_) rfl ?_ ?_; rotate_left; focus (intro w hSw; (try dsimp only at hSw); go_simp; (try rw [if_neg (by omega)]); (try with_reducible rfl))
       try simp only [Act.put, zp1, zp2, zp3]
       refine take_y 4 15 (v := ?_) rfl ?_ ?_; rotate_left; focus (intro w hSw; (try dsimp only at hSw); go_simp; (try rw [if_neg (by omega)]); (try with_reducible rfl))
       try simp only [Act.put, zp1, zp2, zp3]
       refine take_y 9 20 (v := ?_) rfl ?_ ?_; rotate_left; focus (intro w hSw; (try dsimp only at hSw); go_simp; (try rw [if_neg (by omega)]); (try with_reducible rfl))
       try simp only [Act.put, zp1, zp2, zp3]
       refine take_y 19 30 (v := ?_) rfl ?_ ?_; rotate_left; focus (intro w hSw; (try dsimp only at hSw); go_simp; (try rw [if_neg (by omega)]); (try with_reducible rfl))
       try simp only [Act.put, zp1, zp2, zp3]
       refine wpAnyH_ready (rs := [20]) (by kernel_rfl) (by simp) ?_
       refine AllReadyH.cons rfl (fun K hK => ?_) AllReadyH.nil
       go_simp
       have hS2 := HSS.out.newA
       refine hK.out _ _ (((hS2.sl _ rfl).1.at _).trans HX.out) (fun hHeld2 => ?_)
       clear hHeld hK K; have hHeld := hHeld2; clear hHeld2; try simp only [Act.put, zp1, zp2, zp3]
       have HSS2 := Lib.hid hS2
       clear hS2
       clear HSS
       have HSS := HSS2
       clear HSS2
       generalize World.alloc W53 (.cells #[.int .i64 0, .int .i64 0, .string ⟨#[]⟩] 26) = W54 at HSS hHeld ⊢
       generalize W53.heap.size = na at HSS hHeld ⊢
       obtain ⟨hA, hAb⟩ := HSS.out.al _ rfl
       obtain ⟨hB, hBb⟩ := HSS.out.sl _ rfl
       have hnab : nb ≠ na := fun e => by
        subst e
        have h1 : W54.heap[nb]? = _ := hA
        have h2 : W54.heap[nb]? = _ := hB
        rw [h1] at h2
        injection h2 with h2
        injection h2 with h2 h3
        cases h2
       obtain ⟨r0, r1, r2, f0, f1, f2, rlt⟩ := hA.three
       refine wpAnyH_ready (rs := [21]) (by kernel_rfl) (by simp) ?_
       refine AllReadyH.cons rfl (fun K hK => ?_) AllReadyH.nil
       go_simp
       refine hK.out _ _ (by (try dsimp only); exact ((((hB.other (a := ⟨na, 0, none⟩) (u := _) hnab).other (a := ⟨na, 1, none⟩) (u := _) hnab).other (a := ⟨na, 2, none⟩) (u := _) hnab).at _).trans HX.out) (fun hHeld2 => ?_)
       clear hHeld hK K; have hHeld := hHeld2; clear hHeld2; try simp only [Act.put, zp1, zp2, zp3]
       refine wpAnyH_done (by kernel_rfl) ?_ _
       clear hHeld
       go_wp2_with fail
       go_meet
       exact ⟨_, _, _, rfl, ((hA.set (i := 0) rfl).set (i := 1) rfl).set (i := 2) rfl, ((HSS.out.b.set _ hAb).set _ hAb).set _ hAb, hAb⟩
      ·
       go_simp
       have hS2 := HSS.out.newA
       refine hK.out _ _ trivial (fun hHeld2 => ?_)
       clear hHeld hK K; have hHeld := hHeld2; clear hHeld2; try simp only [Act.put, zp1, zp2, zp3]
       have HSS2 := Lib.hid hS2
       clear hS2
       clear HSS
       have HSS := HSS2
       clear HSS2
       generalize World.alloc w52 (.cells #[.int .i64 0, .int .i64 0, .string ⟨#[]⟩] 26) = W55 at HSS hHeld ⊢
       generalize w52.heap.size = na at HSS hHeld ⊢
       refine wpAnyH_ready (rs := [0]) (by kernel_rfl) (by simp) ?_
       refine AllReadyH.cons rfl (fun K hK => ?_) AllReadyH.nil
       go_simp
       have hS2 := HSS.out.newB
       refine hK.out _ _ trivial (fun hHeld2 => ?_)
       clear hHeld hK K; have hHeld := hHeld2; clear hHeld2; try simp only [Act.put, zp1, zp2, zp3]
       have HSS2 := Lib.hid hS2
       clear hS2
       clear HSS
       have HSS := HSS2
       clear HSS2
       generalize World.alloc W55 (.cells #[.int .i64 0, .int .i64 0, .int .i64 0, .int .i64 0, .int .i64 1, .int .i64 1, .int .i64 2] 3) = W56 at HSS hHeld ⊢
       generalize W55.heap.size = nb at HSS hHeld ⊢
       obtain ⟨x, hx⟩ := seven_at y1 hy1a hy1c
       have HX := Lib.hid hx
       clear hx
       refine wpAnyH_weak (S' := fun w' => w'.cell? ⟨nb, y1.toNat, none⟩ = some (.int .i64 x)) (fun _ _ => trivial) _ _ _ _ ?_
       clear hHeld
       have hHeld := ((HSS.out.sl _ rfl).1.at y1.toNat).trans HX.out
       refine take_y 3 14 (v := ?_) rfl ?_ ?_; rotate_left; focus (intro w hSw; (try dsimp only at hSw); go_simp; (try rw [if_neg (by omega)]); (try with_reducible rfl))
       try simp only [Act.put, zp1, zp2, zp3]
       refine take_y 4 15 (v := ?_) rfl ?_ ?_; rotate_left; focus (intro w hSw; (try dsimp only at hSw); go_simp; (try rw [if_neg (by omega)]); (try with_reducible rfl))
       try simp only [Act.put, zp1, zp2, zp3]
       refine take_y 9 20 (v := ?_) rfl ?_ ?_; rotate_left; focus (intro w hSw; (try dsimp only at hSw); go_simp; (try rw [if_neg (by omega)]); (try with_reducible rfl))
       try simp only [Act.put, zp1, zp2, zp3]
       refine take_y 19 30 (v := ?_) rfl ?_ ?_; rotate_left; focus (intro w hSw; (try dsimp only at hSw); go_simp; (try rw [if_neg (by omega)]); (try with_reducible rfl))
       try simp only [Act.put, zp1, zp2, zp3]
       obtain ⟨hA, hAb⟩ := HSS.out.al _ rfl
       obtain ⟨hB, hBb⟩ := HSS.out.sl _ rfl
       have hnab : nb ≠ na := fun e => by
        subst e
        have h1 : W56.heap[nb]? = _ := hA
        have h2 : W56.heap[nb]? = _ := hB
        rw [h1] at h2
        injection h2 with h2
        injection h2 with h2 h3
        cases h2
       obtain ⟨r0, r1, r2, f0, f1, f2, rlt⟩ := hA.three
       refine wpAnyH_ready (rs := [21]) (by kernel_rfl) (by simp) ?_
       refine AllReadyH.cons rfl (fun K hK => ?_) AllReadyH.nil
       go_simp
       refine hK.out _ _ (by (try dsimp only); exact ((((hB.other (a := ⟨na, 0, none⟩) (u := _) hnab).other (a := ⟨na, 1, none⟩) (u := _) hnab).other (a := ⟨na, 2, none⟩) (u := _) hnab).at _).trans HX.out) (fun hHeld2 => ?_)
       clear hHeld hK K; have hHeld := hHeld2; clear hHeld2; try simp only [Act.put, zp1, zp2, zp3]
       refine wpAnyH_done (by kernel_rfl) ?_ _
       clear hHeld
       go_wp2_with fail
       go_meet
       exact ⟨_, _, _, rfl, ((hA.set (i := 0) rfl).set (i := 1) rfl).set (i := 2) rfl, ((HSS.out.b.set _ hAb).set _ hAb).set _ hAb, hAb⟩
     ·
      go_simp
      have hS2 := HSS.out.newA
      refine hK.out _ _ trivial (fun hHeld2 => ?_)
      clear hHeld hK K; have hHeld := hHeld2; clear hHeld2; try simp only [Act.put, zp1, zp2, zp3]
      have HSS2 := Lib.hid hS2
      clear hS2
      clear HSS
      have HSS := HSS2
      clear HSS2
      generalize World.alloc w46 (.cells #[.int .i64 0, .int .i64 0, .string ⟨#[]⟩] 26) = W57 at HSS hHeld ⊢
      generalize w46.heap.size = na at HSS hHeld ⊢
      refine wpAnyH_ready (rs := [0, 14]) (by kernel_rfl) (by simp) ?_
      refine AllReadyH.cons rfl (fun K hK => ?_) (AllReadyH.cons rfl (fun K hK => ?_) AllReadyH.nil)
      ·
       go_simp
       have hS2 := HSS.out.newB
       refine hK.out _ _ trivial (fun hHeld2 => ?_)
       clear hHeld hK K; have hHeld := hHeld2; clear hHeld2; try simp only [Act.put, zp1, zp2, zp3]
       have HSS2 := Lib.hid hS2
       clear hS2
       clear HSS
       have HSS := HSS2
       clear HSS2
       generalize World.alloc W57 (.cells #[.int .i64 0, .int .i64 0, .int .i64 0, .int .i64 0, .int .i64 1, .int .i64 1, .int .i64 2] 3) = W58 at HSS hHeld ⊢
       generalize W57.heap.size = nb at HSS hHeld ⊢
       obtain ⟨x, hx⟩ := seven_at y1 hy1a hy1c
       have HX := Lib.hid hx
       clear hx
       refine wpAnyH_weak (S' := fun w' => w'.cell? ⟨nb, y1.toNat, none⟩ = some (.int .i64 x)) (fun _ _ => trivial) _ _ _ _ ?_
       clear hHeld
       have hHeld := ((HSS.out.sl _ rfl).1.at y1.toNat).trans HX.out
       refine take_y 3 14 (v := ?_) rfl ?_ ?_; rotate_left; focus (intro w hSw; (try dsimp only at hSw); go_simp; (try rw [if_neg (by omega)]); (try with_reducible rfl))
       try simp only [Act.put, zp1, zp2, zp3]
       refine take_y 4 15 (v := ?_) rfl ?_ ?_; rotate_left; focus (intro w hSw; (try dsimp only at hSw); go_simp; (try rw [if_neg (by omega)]); (try with_reducible rfl))
       try simp only [Act.put, zp1, zp2, zp3]
       refine take_y 9 20 (v := ?_) rfl ?_ ?_; rotate_left; focus (intro w hSw; (try dsimp only at hSw); go_simp; (try rw [if_neg (by omega)]); (try with_reducible rfl))
       try simp only [Act.put, zp1, zp2, zp3]
       refine wpAnyH_ready (rs := [14]) (by kernel_rfl) (by simp) ?_
       refine AllReadyH.cons rfl (fun K hK => ?_) AllReadyH.nil
       go_simp
       refine (pick_any rb (p + 3) _ _ HSS.out.b.rdr (by omega) (by omega)).mono ?_
       rintro e w59 ⟨y4, rfl, hy4a, hy4b, hr59, hg59⟩
       have hS2 := HSS.out.pick hr59 hg59
       refine hK.out _ _ (((hS2.sl _ rfl).1.at _).trans HX.out) (fun hHeld2 => ?_)
       clear hHeld hK K; have hHeld := hHeld2; clear hHeld2; try simp only [Act.put, zp1, zp2, zp3]
       have HSS2 := Lib.hid hS2
       clear hS2 hr59 hg59
       clear HSS
       have HSS := HSS2
       clear HSS2
       have hy4c : y4 < 40 := by omega
       clear hy4b
       refine take_y 15 26 (v := ?_) rfl ?_ ?_; rotate_left; focus (intro w hSw; (try dsimp only at hSw); go_simp; (try rw [if_neg (by omega)]); (try with_reducible rfl))
       try simp only [Act.put, zp1, zp2, zp3]
       refine take_y 17 28 (v := ?_) rfl ?_ ?_; rotate_left; focus (intro w hSw; (try dsimp only at hSw); go_simp; (try rw [if_neg (by omega)]); (try with_reducible rfl))
       try simp only [Act.put, zp1, zp2, zp3]
       refine take_y 18 29 (v := ?_) rfl ?_ ?_; rotate_left; focus (intro w hSw; (try dsimp only at hSw); go_simp; (try rw [if_neg (by omega)]); (try with_reducible rfl))
       try simp only [Act.put, zp1, zp2, zp3]
       refine take_y 19 30 (v := ?_) rfl ?_ ?_; rotate_left; focus (intro w hSw; (try dsimp only at hSw); go_simp; (try rw [if_neg (by omega)]); (try with_reducible rfl))
       try simp only [Act.put, zp1, zp2, zp3]
       obtain ⟨hA, hAb⟩ := HSS.out.al _ rfl
       obtain ⟨hB, hBb⟩ := HSS.out.sl _ rfl
       have hnab : nb ≠ na := fun e => by
        subst e
        have h1 : w59.heap[nb]? = _ := hA
        have h2 : w59.heap[nb]? = _ := hB
        rw [h1] at h2
        injection h2 with h2
        injection h2 with h2 h3
        cases h2
       obtain ⟨r0, r1, r2, f0, f1, f2, rlt⟩ := hA.three
       refine wpAnyH_ready (rs := [21]) (by kernel_rfl) (by simp) ?_
       refine AllReadyH.cons rfl (fun K hK => ?_) AllReadyH.nil
       go_simp
       refine hK.out _ _ (by (try dsimp only); exact ((((hB.other (a := ⟨na, 0, none⟩) (u := _) hnab).other (a := ⟨na, 1, none⟩) (u := _) hnab).other (a := ⟨na, 2, none⟩) (u := _) hnab).at _).trans HX.out) (fun hHeld2 => ?_)
       clear hHeld hK K; have hHeld := hHeld2; clear hHeld2; try simp only [Act.put, zp1, zp2, zp3]
       refine wpAnyH_done (by kernel_rfl) ?_ _
       clear hHeld
       go_wp2_with fail
       go_meet
       exact ⟨_, _, _, rfl, ((hA.set (i := 0) rfl).set (i := 1) rfl).set (i := 2) rfl, ((HSS.out.b.set _ hAb).set _ hAb).set _ hAb, hAb⟩
      ·
       go_simp
       refine (pick_any rb (p + 3) _ _ HSS.out.b.rdr (by omega) (by omega)).mono ?_
       rintro e w60 ⟨y4, rfl, hy4a, hy4b, hr60, hg60⟩
       have hS2 := HSS.out.pick hr60 hg60
       refine hK.out _ _ trivial (fun hHeld2 => ?_)
       clear hHeld hK K; have hHeld := hHeld2; clear hHeld2; try simp only [Act.put, zp1, zp2, zp3]
       have HSS2 := Lib.hid hS2
       clear hS2 hr60 hg60
       clear HSS
       have HSS := HSS2
       clear HSS2
       have hy4c : y4 < 40 := by omega
       clear hy4b
       refine take_y 15 26 (v := ?_) rfl ?_ ?_; rotate_left; focus (intro w hSw; (try dsimp only at hSw); go_simp; (try rw [if_neg (by omega)]); (try with_reducible rfl))
       try simp only [Act.put, zp1, zp2, zp3]
       refine take_y 17 28 (v := ?_) rfl ?_ ?_; rotate_left; focus (intro w hSw; (try dsimp only at hSw); go_simp; (try rw [if_neg (by omega)]); (try with_reducible rfl))
       try simp only [Act.put, zp1, zp2, zp3]
       refine take_y 18 29 (v := ?_) rfl ?_ ?_; rotate_left; focus (intro w hSw; (try dsimp only at hSw); go_simp; (try rw [if_neg (by omega)]); (try with_reducible rfl))
       try simp only [Act.put, zp1, zp2, zp3]
       refine wpAnyH_ready (rs := [0]) (by kernel_rfl) (by simp) ?_
       refine AllReadyH.cons rfl (fun K hK => ?_) AllReadyH.nil
       go_simp
       have hS2 := HSS.out.newB
       refine hK.out _ _ trivial (fun hHeld2 => ?_)
       clear hHeld hK K; have hHeld := hHeld2; clear hHeld2; try simp only [Act.put, zp1, zp2, zp3]
       have HSS2 := Lib.hid hS2
       clear hS2
       clear HSS
       have HSS := HSS2
       clear HSS2
       generalize World.alloc w60 (.cells #[.int .i64 0, .int .i64 0, .int .i64 0, .int .i64 0, .int .i64 1, .int .i64 1, .int .i64 2] 3) = W61 at HSS hHeld ⊢
       generalize w60.heap.size = nb at HSS hHeld ⊢
       obtain ⟨x, hx⟩ := seven_at y1 hy1a hy1c
       have HX := Lib.hid hx
       clear hx
       refine wpAnyH_weak (S' := fun w' => w'.cell? ⟨nb, y1.toNat, none⟩ = some (.int .i64 x)) (fun _ _ => trivial) _ _ _ _ ?_
       clear hHeld
       have hHeld := ((HSS.out.sl _ rfl).1.at y1.toNat).trans HX.out
       refine take_y 3 14 (v := ?_) rfl ?_ ?_; rotate_left; focus (intro w hSw; (try dsimp only at hSw); go_simp; (try rw [if_neg (by omega)]); (try with_reducible rfl))
       try simp only [Act.put, zp1, zp2, zp3]
       refine take_y 4 15 (v := ?_) rfl ?_ ?_; rotate_left; focus (intro w hSw; (try dsimp only at hSw); go_simp; (try rw [if_neg (by omega)]); (try with_reducible rfl))
       try simp only [Act.put, zp1, zp2, zp3]
       refine take_y 9 20 (v := ?_) rfl ?_ ?_; rotate_left; focus (intro w hSw; (try dsimp only at hSw); go_simp; (try rw [if_neg (by omega)]); (try with_reducible rfl))
       try simp only [Act.put, zp1, zp2, zp3]
       refine take_y 19 30 (v := ?_) rfl ?_ ?_; rotate_left; focus (intro w hSw; (try dsimp only at hSw); go_simp; (try rw [if_neg (by omega)]); (try with_reducible rfl))
       try simp only [Act.put, zp1, zp2, zp3]
       obtain ⟨hA, hAb⟩ := HSS.out.al _ rfl
       obtain ⟨hB, hBb⟩ := HSS.out.sl _ rfl
       have hnab : nb ≠ na := fun e => by
        subst e
        have h1 : W61.heap[nb]? = _ := hA
        have h2 : W61.heap[nb]? = _ := hB
        rw [h1] at h2
        injection h2 with h2
        injection h2 with h2 h3
        cases h2
       obtain ⟨r0, r1, r2, f0, f1, f2, rlt⟩ := hA.three
       refine wpAnyH_ready (rs := [21]) (by kernel_rfl) (by simp) ?_
       refine AllReadyH.cons rfl (fun K hK => ?_) AllReadyH.nil
       go_simp
       refine hK.out _ _ (by (try dsimp only); exact ((((hB.other (a := ⟨na, 0, none⟩) (u := _) hnab).other (a := ⟨na, 1, none⟩) (u := _) hnab).other (a := ⟨na, 2, none⟩) (u := _) hnab).at _).trans HX.out) (fun hHeld2 => ?_)
       clear hHeld hK K; have hHeld := hHeld2; clear hHeld2; try simp only [Act.put, zp1, zp2, zp3]
       refine wpAnyH_done (by kernel_rfl) ?_ _
       clear hHeld
       go_wp2_with fail
       go_meet
       exact ⟨_, _, _, rfl, ((hA.set (i := 0) rfl).set (i := 1) rfl).set (i := 2) rfl, ((HSS.out.b.set _ hAb).set _ hAb).set _ hAb, hAb⟩
    ·
     go_simp
     have hS2 := HSS.out.newA
     refine hK.out _ _ trivial (fun hHeld2 => ?_)
     clear hHeld hK K; have hHeld := hHeld2; clear hHeld2; try simp only [Act.put, zp1, zp2, zp3]
     have HSS2 := Lib.hid hS2
     clear hS2
     clear HSS
     have HSS := HSS2
     clear HSS2
     generalize World.alloc w36 (.cells #[.int .i64 0, .int .i64 0, .string ⟨#[]⟩] 26) = W62 at HSS hHeld ⊢
     generalize w36.heap.size = na at HSS hHeld ⊢
     refine wpAnyH_ready (rs := [0, 12]) (by kernel_rfl) (by simp) ?_
     refine AllReadyH.cons rfl (fun K hK => ?_) (AllReadyH.cons rfl (fun K hK => ?_) AllReadyH.nil)
     ·
      go_simp
      have hS2 := HSS.out.newB
      refine hK.out _ _ trivial (fun hHeld2 => ?_)
      clear hHeld hK K; have hHeld := hHeld2; clear hHeld2; try simp only [Act.put, zp1, zp2, zp3]
      have HSS2 := Lib.hid hS2
      clear hS2
      clear HSS
      have HSS := HSS2
      clear HSS2
      generalize World.alloc W62 (.cells #[.int .i64 0, .int .i64 0, .int .i64 0, .int .i64 0, .int .i64 1, .int .i64 1, .int .i64 2] 3) = W63 at HSS hHeld ⊢
      generalize W62.heap.size = nb at HSS hHeld ⊢
      obtain ⟨x, hx⟩ := seven_at y1 hy1a hy1c
      have HX := Lib.hid hx
      clear hx
      refine wpAnyH_weak (S' := fun w' => w'.cell? ⟨nb, y1.toNat, none⟩ = some (.int .i64 x)) (fun _ _ => trivial) _ _ _ _ ?_
      clear hHeld
      have hHeld := ((HSS.out.sl _ rfl).1.at y1.toNat).trans HX.out
      refine take_y 3 14 (v := ?_) rfl ?_ ?_; rotate_left; focus (intro w hSw; (try dsimp only at hSw); go_simp; (try rw [if_neg (by omega)]); (try with_reducible rfl))
      try simp only [Act.put, zp1, zp2, zp3]
      refine take_y 4 15 (v := ?_) rfl ?_ ?_; rotate_left; focus (intro w hSw; (try dsimp only at hSw); go_simp; (try rw [if_neg (by omega)]); (try with_reducible rfl))
      try simp only [Act.put, zp1, zp2, zp3]
      refine take_y 9 20 (v := ?_) rfl ?_ ?_; rotate_left; focus (intro w hSw; (try dsimp only at hSw); go_simp; (try rw [if_neg (by omega)]); (try with_reducible rfl))
      try simp only [Act.put, zp1, zp2, zp3]
      refine wpAnyH_ready (rs := [12]) (by kernel_rfl) (by simp) ?_
      refine AllReadyH.cons rfl (fun K hK => ?_) AllReadyH.nil
      go_simp
      refine (pick_any rb (p + 2) _ _ HSS.out.b.rdr (by omega) (by omega)).mono ?_
      rintro e w64 ⟨y3, rfl, hy3a, hy3b, hr64, hg64⟩
      have hS2 := HSS.out.pick hr64 hg64
      refine hK.out _ _ (((hS2.sl _ rfl).1.at _).trans HX.out) (fun hHeld2 => ?_)
      clear hHeld hK K; have hHeld := hHeld2; clear hHeld2; try simp only [Act.put, zp1, zp2, zp3]
      have HSS2 := Lib.hid hS2
      clear hS2 hr64 hg64
      clear HSS
      have HSS := HSS2
      clear HSS2
      have hy3c : y3 < L := by omega
      clear hy3b
      refine wpAnyH_ready (rs := [14]) (by kernel_rfl) (by simp) ?_
      refine AllReadyH.cons rfl (fun K hK => ?_) AllReadyH.nil
      go_simp
      refine (pick_any rb (p + 3) _ _ HSS.out.b.rdr (by omega) (by omega)).mono ?_
      rintro e w65 ⟨y4, rfl, hy4a, hy4b, hr65, hg65⟩
      have hS2 := HSS.out.pick hr65 hg65
      refine hK.out _ _ (((hS2.sl _ rfl).1.at _).trans HX.out) (fun hHeld2 => ?_)
      clear hHeld hK K; have hHeld := hHeld2; clear hHeld2; try simp only [Act.put, zp1, zp2, zp3]
      have HSS2 := Lib.hid hS2
      clear hS2 hr65 hg65
      clear HSS
      have HSS := HSS2
      clear HSS2
      have hy4c : y4 < 40 := by omega
      clear hy4b
      refine take_y 15 26 (v := ?_) rfl ?_ ?_; rotate_left; focus (intro w hSw; (try dsimp only at hSw); go_simp; (try rw [if_neg (by omega)]); (try with_reducible rfl))
      try simp only [Act.put, zp1, zp2, zp3]
      refine take_y 17 28 (v := ?_) rfl ?_ ?_; rotate_left; focus (intro w hSw; (try dsimp only at hSw); go_simp; (try rw [if_neg (by omega)]); (try with_reducible rfl))
      try simp only [Act.put, zp1, zp2, zp3]
      refine take_y 18 29 (v := ?_) rfl ?_ ?_; rotate_left; focus (intro w hSw; (try dsimp only at hSw); go_simp; (try rw [if_neg (by omega)]); (try with_reducible rfl))
      try simp only [Act.put, zp1, zp2, zp3]
      refine take_y 19 30 (v := ?_) rfl ?_ ?_; rotate_left; focus (intro w hSw; (try dsimp only at hSw); go_simp; (try rw [if_neg (by omega)]); (try with_reducible rfl))
      try simp only [Act.put, zp1, zp2, zp3]
      obtain ⟨hA, hAb⟩ := HSS.out.al _ rfl
      obtain ⟨hB, hBb⟩ := HSS.out.sl _ rfl
      have hnab : nb ≠ na := fun e => by
       subst e
       have h1 : w65.heap[nb]? = _ := hA
       have h2 : w65.heap[nb]? = _ := hB
       rw [h1] at h2
       injection h2 with h2
       injection h2 with h2 h3
       cases h2
      obtain ⟨r0, r1, r2, f0, f1, f2, rlt⟩ := hA.three
      refine wpAnyH_ready (rs := [21]) (by kernel_rfl) (by simp) ?_
      refine AllReadyH.cons rfl (fun K hK => ?_) AllReadyH.nil
      go_simp
      refine hK.out _ _ (by (try dsimp only); exact ((((hB.other (a := ⟨na, 0, none⟩) (u := _) hnab).other (a := ⟨na, 1, none⟩) (u := _) hnab).other (a := ⟨na, 2, none⟩) (u := _) hnab).at _).trans HX.out) (fun hHeld2 => ?_)
      clear hHeld hK K; have hHeld := hHeld2; clear hHeld2; try simp only [Act.put, zp1, zp2, zp3]
      refine wpAnyH_done (by kernel_rfl) ?_ _
      clear hHeld
      go_wp2_with fail
      go_meet
      exact ⟨_, _, _, rfl, ((hA.set (i := 0) rfl).set (i := 1) rfl).set (i := 2) rfl, ((HSS.out.b.set _ hAb).set _ hAb).set _ hAb, hAb⟩
     ·
      go_simp
      refine (pick_any rb (p + 2) _ _ HSS.out.b.rdr (by omega) (by omega)).mono ?_
      rintro e w66 ⟨y3, rfl, hy3a, hy3b, hr66, hg66⟩
      have hS2 := HSS.out.pick hr66 hg66
      refine hK.out _ _ trivial (fun hHeld2 => ?_)
      clear hHeld hK K; have hHeld := hHeld2; clear hHeld2; try simp only [Act.put, zp1, zp2, zp3]
      have HSS2 := Lib.hid hS2
      clear hS2 hr66 hg66
      clear HSS
      have HSS := HSS2
      clear HSS2
      have hy3c : y3 < L := by omega
      clear hy3b
      refine wpAnyH_ready (rs := [0, 14]) (by kernel_rfl) (by simp) ?_
      refine AllReadyH.cons rfl (fun K hK => ?_) (AllReadyH.cons rfl (fun K hK => ?_) AllReadyH.nil)
      ·
       go_simp
       have hS2 := HSS.out.newB
       refine hK.out _ _ trivial (fun hHeld2 => ?_)
       clear hHeld hK K; have hHeld := hHeld2; clear hHeld2; try simp only [Act.put, zp1, zp2, zp3]
       have HSS2 := Lib.hid hS2
       clear hS2
       clear HSS
       have HSS := HSS2
       clear HSS2
       generalize World.alloc w66 (.cells #[.int .i64 0, .int .i64 0, .int .i64 0, .int .i64 0, .int .i64 1, .int .i64 1, .int .i64 2] 3) = W67 at HSS hHeld ⊢
       generalize w66.heap.size = nb at HSS hHeld ⊢
       obtain ⟨x, hx⟩ := seven_at y1 hy1a hy1c
       have HX := Lib.hid hx
       clear hx
       refine wpAnyH_weak (S' := fun w' => w'.cell? ⟨nb, y1.toNat, none⟩ = some (.int .i64 x)) (fun _ _ => trivial) _ _ _ _ ?_
       clear hHeld
       have hHeld := ((HSS.out.sl _ rfl).1.at y1.toNat).trans HX.out
       refine take_y 3 14 (v := ?_) rfl ?_ ?_; rotate_left; focus (intro w hSw; (try dsimp only at hSw); go_simp; (try rw [if_neg (by omega)]); (try with_reducible rfl))
       try simp only [Act.put, zp1, zp2, zp3]
       refine take_y 4 15 (v := ?_) rfl ?_ ?_; rotate_left; focus (intro w hSw; (try dsimp only at hSw); go_simp; (try rw [if_neg (by omega)]); (try with_reducible rfl))
       try simp only [Act.put, zp1, zp2, zp3]
       refine take_y 9 20 (v := ?_) rfl ?_ ?_; rotate_left; focus (intro w hSw; (try dsimp only at hSw); go_simp; (try rw [if_neg (by omega)]); (try with_reducible rfl))
       try simp only [Act.put, zp1, zp2, zp3]
       refine wpAnyH_ready (rs := [14]) (by kernel_rfl) (by simp) ?_
       refine AllReadyH.cons rfl (fun K hK => ?_) AllReadyH.nil
       go_simp
       refine (pick_any rb (p + 3) _ _ HSS.out.b.rdr (by omega) (by omega)).mono ?_
       rintro e w68 ⟨y4, rfl, hy4a, hy4b, hr68, hg68⟩
       have hS2 := HSS.out.pick hr68 hg68
       refine hK.out _ _ (((hS2.sl _ rfl).1.at _).trans HX.out) (fun hHeld2 => ?_)
       clear hHeld hK K; have hHeld := hHeld2; clear hHeld2; try simp only [Act.put, zp1, zp2, zp3]
       have HSS2 := Lib.hid hS2
       clear hS2 hr68 hg68
       clear HSS
       have HSS := HSS2
       clear HSS2
       have hy4c : y4 < 40 := by omega
       clear hy4b
       refine take_y 15 26 (v := ?_) rfl ?_ ?_; rotate_left; focus (intro w hSw; (try dsimp only at hSw); go_simp; (try rw [if_neg (by omega)]); (try with_reducible rfl))
       try simp only [Act.put, zp1, zp2, zp3]
       refine take_y 17 28 (v := ?_) rfl ?_ ?_; rotate_left; focus (intro w hSw; (try dsimp only at hSw); go_simp; (try rw [if_neg (by omega)]); (try with_reducible rfl))
       try simp only [Act.put, zp1, zp2, zp3]
       refine take_y 18 29 (v := ?_) rfl ?_ ?_; rotate_left; focus (intro w hSw; (try dsimp only at hSw); go_simp; (try rw [if_neg (by omega)]); (try with_reducible rfl))
       try simp only [Act.put, zp1, zp2, zp3]
       refine take_y 19 30 (v := ?_) rfl ?_ ?_; rotate_left; focus (intro w hSw; (try dsimp only at hSw); go_simp; (try rw [if_neg (by omega)]); (try with_reducible rfl))
       try simp only [Act.put, zp1, zp2, zp3]
       obtain ⟨hA, hAb⟩ := HSS.out.al _ rfl
       obtain ⟨hB, hBb⟩ := HSS.out.sl _ rfl
       have hnab : nb ≠ na := fun e => by
        subst e
        have h1 : w68.heap[nb]? = _ := hA
        have h2 : w68.heap[nb]? = _ := hB
        rw [h1] at h2
        injection h2 with h2
        injection h2 with h2 h3
        cases h2
       obtain ⟨r0, r1, r2, f0, f1, f2, rlt⟩ := hA.three
       refine wpAnyH_ready (rs := [21]) (by kernel_rfl) (by simp) ?_
       refine AllReadyH.cons rfl (fun K hK => ?_) AllReadyH.nil
       go_simp
       refine hK.out _ _ (by (try dsimp only); exact ((((hB.other (a := ⟨na, 0, none⟩) (u := _) hnab).other (a := ⟨na, 1, none⟩) (u := _) hnab).other (a := ⟨na, 2, none⟩) (u := _) hnab).at _).trans HX.out) (fun hHeld2 => ?_)
       clear hHeld hK K; have hHeld := hHeld2; clear hHeld2; try simp only [Act.put, zp1, zp2, zp3]
       refine wpAnyH_done (by kernel_rfl) ?_ _
       clear hHeld
       go_wp2_with fail
       go_meet
       exact ⟨_, _, _, rfl, ((hA.set (i := 0) rfl).set (i := 1) rfl).set (i := 2) rfl, ((HSS.out.b.set _ hAb).set _ hAb).set _ hAb, hAb⟩
      ·
       go_simp
       refine (pick_any rb (p + 3) _ _ HSS.out.b.rdr (by omega) (by omega)).mono ?_
       rintro e w69 ⟨y4, rfl, hy4a, hy4b, hr69, hg69⟩
       have hS2 := HSS.out.pick hr69 hg69
       refine hK.out _ _ trivial (fun hHeld2 => ?_)
       clear hHeld hK K; have hHeld := hHeld2; clear hHeld2; try simp only [Act.put, zp1, zp2, zp3]
       have HSS2 := Lib.hid hS2
       clear hS2 hr69 hg69
       clear HSS
       have HSS := HSS2
       clear HSS2
       have hy4c : y4 < 40 := by omega
       clear hy4b
       refine take_y 15 26 (v := ?_) rfl ?_ ?_; rotate_left; focus (intro w hSw; (try dsimp only at hSw); go_simp; (try rw [if_neg (by omega)]); (try with_reducible rfl))
       try simp only [Act.put, zp1, zp2, zp3]
       refine take_y 17 28 (v := ?_) rfl ?_ ?_; rotate_left; focus (intro w hSw; (try dsimp only at hSw); go_simp; (try rw [if_neg (by omega)]); (try with_reducible rfl))
       try simp only [Act.put, zp1, zp2, zp3]
       refine take_y 18 29 (v := ?_) rfl ?_ ?_; rotate_left; focus (intro w hSw; (try dsimp only at hSw); go_simp; (try rw [if_neg (by omega)]); (try with_reducible rfl))
       try simp only [Act.put, zp1, zp2, zp3]
       refine wpAnyH_ready (rs := [0]) (by kernel_rfl) (by simp) ?_
       refine AllReadyH.cons rfl (fun K hK => ?_) AllReadyH.nil
       go_simp
       have hS2 := HSS.out.newB
       refine hK.out _ _ trivial (fun hHeld2 => ?_)
       clear hHeld hK K; have hHeld := hHeld2; clear hHeld2; try simp only [Act.put, zp1, zp2, zp3]
       have HSS2 := Lib.hid hS2
       clear hS2
       clear HSS
       have HSS := HSS2
       clear HSS2
       generalize World.alloc w69 (.cells #[.int .i64 0, .int .i64 0, .int .i64 0, .int .i64 0, .int .i64 1, .int .i64 1, .int .i64 2] 3) = W70 at HSS hHeld ⊢
       generalize w69.heap.size = nb at HSS hHeld ⊢
       obtain ⟨x, hx⟩ := seven_at y1 hy1a hy1c
       have HX := Lib.hid hx
       clear hx
       refine wpAnyH_weak (S' := fun w' => w'.cell? ⟨nb, y1.toNat, none⟩ = some (.int .i64 x)) (fun _ _ => trivial) _ _ _ _ ?_
       clear hHeld
       have hHeld := ((HSS.out.sl _ rfl).1.at y1.toNat).trans HX.out
       refine take_y 3 14 (v := ?_) rfl ?_ ?_; rotate_left; focus (intro w hSw; (try dsimp only at hSw); go_simp; (try rw [if_neg (by omega)]); (try with_reducible rfl))
       try simp only [Act.put, zp1, zp2, zp3]
       refine take_y 4 15 (v := ?_) rfl ?_ ?_; rotate_left; focus (intro w hSw; (try dsimp only at hSw); go_simp; (try rw [if_neg (by omega)]); (try with_reducible rfl))
       try simp only [Act.put, zp1, zp2, zp3]
       refine take_y 9 20 (v := ?_) rfl ?_ ?_; rotate_left; focus (intro w hSw; (try dsimp only at hSw); go_simp; (try rw [if_neg (by omega)]); (try with_reducible rfl))
       try simp only [Act.put, zp1, zp2, zp3]
       refine take_y 19 30 (v := ?_) rfl ?_ ?_; rotate_left; focus (intro w hSw; (try dsimp only at hSw); go_simp; (try rw [if_neg (by omega)]); (try with_reducible rfl))
       try simp only [Act.put, zp1, zp2, zp3]
       obtain ⟨hA, hAb⟩ := HSS.out.al _ rfl
       obtain ⟨hB, hBb⟩ := HSS.out.sl _ rfl
       have hnab : nb ≠ na := fun e => by
        subst e
        have h1 : W70.heap[nb]? = _ := hA
        have h2 : W70.heap[nb]? = _ := hB
        rw [h1] at h2
        injection h2 with h2
        injection h2 with h2 h3
        cases h2
       obtain ⟨r0, r1, r2, f0, f1, f2, rlt⟩ := hA.three
       refine wpAnyH_ready (rs := [21]) (by kernel_rfl) (by simp) ?_
       refine AllReadyH.cons rfl (fun K hK => ?_) AllReadyH.nil
       go_simp
       refine hK.out _ _ (by (try dsimp only); exact ((((hB.other (a := ⟨na, 0, none⟩) (u := _) hnab).other (a := ⟨na, 1, none⟩) (u := _) hnab).other (a := ⟨na, 2, none⟩) (u := _) hnab).at _).trans HX.out) (fun hHeld2 => ?_)
       clear hHeld hK K; have hHeld := hHeld2; clear hHeld2; try simp only [Act.put, zp1, zp2, zp3]
       refine wpAnyH_done (by kernel_rfl) ?_ _
       clear hHeld
       go_wp2_with fail
       go_meet
       exact ⟨_, _, _, rfl, ((hA.set (i := 0) rfl).set (i := 1) rfl).set (i := 2) rfl, ((HSS.out.b.set _ hAb).set _ hAb).set _ hAb, hAb⟩
   ·
    go_simp
    have hS2 := HSS.out.newA
    refine hK.out _ _ trivial (fun hHeld2 => ?_)
    clear hHeld hK K; have hHeld := hHeld2; clear hHeld2; try simp only [Act.put, zp1, zp2, zp3]
    have HSS2 := Lib.hid hS2
    clear hS2
    clear HSS
    have HSS := HSS2
    clear HSS2
    generalize World.alloc w21 (.cells #[.int .i64 0, .int .i64 0, .string ⟨#[]⟩] 26) = W71 at HSS hHeld ⊢
    generalize w21.heap.size = na at HSS hHeld ⊢
    refine wpAnyH_ready (rs := [0, 6]) (by kernel_rfl) (by simp) ?_
    refine AllReadyH.cons rfl (fun K hK => ?_) (AllReadyH.cons rfl (fun K hK => ?_) AllReadyH.nil)
    ·
     go_simp
     have hS2 := HSS.out.newB
     refine hK.out _ _ trivial (fun hHeld2 => ?_)
     clear hHeld hK K; have hHeld := hHeld2; clear hHeld2; try simp only [Act.put, zp1, zp2, zp3]
     have HSS2 := Lib.hid hS2
     clear hS2
     clear HSS
     have HSS := HSS2
     clear HSS2
     generalize World.alloc W71 (.cells #[.int .i64 0, .int .i64 0, .int .i64 0, .int .i64 0, .int .i64 1, .int .i64 1, .int .i64 2] 3) = W72 at HSS hHeld ⊢
     generalize W71.heap.size = nb at HSS hHeld ⊢
     obtain ⟨x, hx⟩ := seven_at y1 hy1a hy1c
     have HX := Lib.hid hx
     clear hx
     refine wpAnyH_weak (S' := fun w' => w'.cell? ⟨nb, y1.toNat, none⟩ = some (.int .i64 x)) (fun _ _ => trivial) _ _ _ _ ?_
     clear hHeld
     have hHeld := ((HSS.out.sl _ rfl).1.at y1.toNat).trans HX.out
     refine take_y 3 14 (v := ?_) rfl ?_ ?_; rotate_left; focus (intro w hSw; (try dsimp only at hSw); go_simp; (try rw [if_neg (by omega)]); (try with_reducible rfl))
     try simp only [Act.put, zp1, zp2, zp3]
     refine take_y 4 15 (v := ?_) rfl ?_ ?_; rotate_left; focus (intro w hSw; (try dsimp only at hSw); go_simp; (try rw [if_neg (by omega)]); (try with_reducible rfl))
     try simp only [Act.put, zp1, zp2, zp3]
     refine wpAnyH_ready (rs := [6]) (by kernel_rfl) (by simp) ?_
     refine AllReadyH.cons rfl (fun K hK => ?_) AllReadyH.nil
     go_simp
     refine (pick_any rb (p + 1) _ _ HSS.out.b.rdr (by omega) (by omega)).mono ?_
     rintro e w73 ⟨y2, rfl, hy2a, hy2b, hr73, hg73⟩
     have hS2 := HSS.out.pick hr73 hg73
     refine hK.out _ _ (((hS2.sl _ rfl).1.at _).trans HX.out) (fun hHeld2 => ?_)
     clear hHeld hK K; have hHeld := hHeld2; clear hHeld2; try simp only [Act.put, zp1, zp2, zp3]
     have HSS2 := Lib.hid hS2
     clear hS2 hr73 hg73
     clear HSS
     have HSS := HSS2
     clear HSS2
     have hy2c : y2 < 60 := by omega
     clear hy2b
     refine take_y 7 18 (v := ?_) rfl ?_ ?_; rotate_left; focus (intro w hSw; (try dsimp only at hSw); go_simp; (try rw [if_neg (by omega)]); (try with_reducible rfl))
     try simp only [Act.put, zp1, zp2, zp3]
     refine take_y 8 19 (v := ?_) rfl ?_ ?_; rotate_left; focus (intro w hSw; (try dsimp only at hSw); go_simp; (try rw [if_neg (by omega)]); (try with_reducible rfl))
     try simp only [Act.put, zp1, zp2, zp3]
     refine take_y 9 20 (v := ?_) rfl ?_ ?_; rotate_left; focus (intro w hSw; (try dsimp only at hSw); go_simp; (try rw [if_neg (by omega)]); (try with_reducible rfl))
     try simp only [Act.put, zp1, zp2, zp3]
     refine wpAnyH_ready (rs := [12]) (by kernel_rfl) (by simp) ?_
     refine AllReadyH.cons rfl (fun K hK => ?_) AllReadyH.nil
     go_simp
     refine (pick_any rb (p + 2) _ _ HSS.out.b.rdr (by omega) (by omega)).mono ?_
     rintro e w74 ⟨y3, rfl, hy3a, hy3b, hr74, hg74⟩
     have hS2 := HSS.out.pick hr74 hg74
     refine hK.out _ _ (((hS2.sl _ rfl).1.at _).trans HX.out) (fun hHeld2 => ?_)
     clear hHeld hK K; have hHeld := hHeld2; clear hHeld2; try simp only [Act.put, zp1, zp2, zp3]
     have HSS2 := Lib.hid hS2
     clear hS2 hr74 hg74
     clear HSS
     have HSS := HSS2
     clear HSS2
     have hy3c : y3 < L := by omega
     clear hy3b
     refine wpAnyH_ready (rs := [14]) (by kernel_rfl) (by simp) ?_
     refine AllReadyH.cons rfl (fun K hK => ?_) AllReadyH.nil
     go_simp
     refine (pick_any rb (p + 3) _ _ HSS.out.b.rdr (by omega) (by omega)).mono ?_
     rintro e w75 ⟨y4, rfl, hy4a, hy4b, hr75, hg75⟩
     have hS2 := HSS.out.pick hr75 hg75
     refine hK.out _ _ (((hS2.sl _ rfl).1.at _).trans HX.out) (fun hHeld2 => ?_)
     clear hHeld hK K; have hHeld := hHeld2; clear hHeld2; try simp only [Act.put, zp1, zp2, zp3]
     have HSS2 := Lib.hid hS2
     clear hS2 hr75 hg75
     clear HSS
     have HSS := HSS2
     clear HSS2
     have hy4c : y4 < 40 := by omega
     clear hy4b
     refine take_y 15 26 (v := ?_) rfl ?_ ?_; rotate_left; focus (intro w hSw; (try dsimp only at hSw); go_simp; (try rw [if_neg (by omega)]); (try with_reducible rfl))
     try simp only [Act.put, zp1, zp2, zp3]
     refine take_y 17 28 (v := ?_) rfl ?_ ?_; rotate_left; focus (intro w hSw; (try dsimp only at hSw); go_simp; (try rw [if_neg (by omega)]); (try with_reducible rfl))
     try simp only [Act.put, zp1, zp2, zp3]
     refine take_y 18 29 (v := ?_) rfl ?_ ?_; rotate_left; focus (intro w hSw; (try dsimp only at hSw); go_simp; (try rw [if_neg (by omega)]); (try with_reducible rfl))
     try simp only [Act.put, zp1, zp2, zp3]
     refine take_y 19 30 (v := ?_) rfl ?_ ?_; rotate_left; focus (intro w hSw; (try dsimp only at hSw); go_simp; (try rw [if_neg (by omega)]); (try with_reducible rfl))
     try simp only [Act.put, zp1, zp2, zp3]
     obtain ⟨hA, hAb⟩ := HSS.out.al _ rfl
     obtain ⟨hB, hBb⟩ := HSS.out.sl _ rfl
     have hnab : nb ≠ na := fun e => by
      subst e
      have h1 : w75.heap[nb]? = _ := hA
      have h2 : w75.heap[nb]? = _ := hB
      rw [h1] at h2
      injection h2 with h2
      injection h2 with h2 h3
      cases h2
     obtain ⟨r0, r1, r2, f0, f1, f2, rlt⟩ := hA.three
     refine wpAnyH_ready (rs := [21]) (by kernel_rfl) (by simp) ?_
     refine AllReadyH.cons rfl (fun K hK => ?_) AllReadyH.nil
     go_simp
     refine hK.out _ _ (by (try dsimp only); exact ((((hB.other (a := ⟨na, 0, none⟩) (u := _) hnab).other (a := ⟨na, 1, none⟩) (u := _) hnab).other (a := ⟨na, 2, none⟩) (u := _) hnab).at _).trans HX.out) (fun hHeld2 => ?_)
     clear hHeld hK K; have hHeld := hHeld2; clear hHeld2; try simp only [Act.put, zp1, zp2, zp3]
     refine wpAnyH_done (by kernel_rfl) ?_ _
     clear hHeld
     go_wp2_with fail
     go_meet
     exact ⟨_, _, _, rfl, ((hA.set (i := 0) rfl).set (i := 1) rfl).set (i := 2) rfl, ((HSS.out.b.set _ hAb).set _ hAb).set _ hAb, hAb⟩
    ·
     go_simp
     refine (pick_any rb (p + 1) _ _ HSS.out.b.rdr (by omega) (by omega)).mono ?_
     rintro e w76 ⟨y2, rfl, hy2a, hy2b, hr76, hg76⟩
     have hS2 := HSS.out.pick hr76 hg76
     refine hK.out _ _ trivial (fun hHeld2 => ?_)
     clear hHeld hK K; have hHeld := hHeld2; clear hHeld2; try simp only [Act.put, zp1, zp2, zp3]
     have HSS2 := Lib.hid hS2
     clear hS2 hr76 hg76
     clear HSS
     have HSS := HSS2
     clear HSS2
     have hy2c : y2 < 60 := by omega
     clear hy2b
     refine take_y 7 18 (v := ?_) rfl ?_ ?_; rotate_left; focus (intro w hSw; (try dsimp only at hSw); go_simp; (try rw [if_neg (by omega)]); (try with_reducible rfl))
     try simp only [Act.put, zp1, zp2, zp3]
     refine take_y 8 19 (v := ?_) rfl ?_ ?_; rotate_left; focus (intro w hSw; (try dsimp only at hSw); go_simp; (try rw [if_neg (by omega)]); (try with_reducible rfl))
     try simp only [Act.put, zp1, zp2, zp3]
     refine wpAnyH_ready (rs := [0, 12]) (by kernel_rfl) (by simp) ?_
     refine AllReadyH.cons rfl (fun K hK => ?_) (AllReadyH.cons rfl (fun K hK => ?_) AllReadyH.nil)
     ·
      go_simp
      have hS2 := HSS.out.newB
      refine hK.out _ _ trivial (fun hHeld2 => ?_)
      clear hHeld hK K; have hHeld := hHeld2; clear hHeld2; try simp only [Act.put, zp1, zp2, zp3]
      have HSS2 := Lib.hid hS2
      clear hS2
      clear HSS
      have HSS := HSS2
      clear HSS2
      generalize World.alloc w76 (.cells #[.int .i64 0, .int .i64 0, .int .i64 0, .int .i64 0, .int .i64 1, .int .i64 1, .int .i64 2] 3) = W77 at HSS hHeld ⊢
      generalize w76.heap.size = nb at HSS hHeld ⊢
      obtain ⟨x, hx⟩ := seven_at y1 hy1a hy1c
      have HX := Lib.hid hx
      clear hx
      refine wpAnyH_weak (S' := fun w' => w'.cell? ⟨nb, y1.toNat, none⟩ = some (.int .i64 x)) (fun _ _ => trivial) _ _ _ _ ?_
      clear hHeld
      have hHeld := ((HSS.out.sl _ rfl).1.at y1.toNat).trans HX.out
      refine take_y 3 14 (v := ?_) rfl ?_ ?_; rotate_left; focus (intro w hSw; (try dsimp only at hSw); go_simp; (try rw [if_neg (by omega)]); (try with_reducible rfl))
      try simp only [Act.put, zp1, zp2, zp3]
      refine take_y 4 15 (v := ?_) rfl ?_ ?_; rotate_left; focus (intro w hSw; (try dsimp only at hSw); go_simp; (try rw [if_neg (by omega)]); (try with_reducible rfl))
      try simp only [Act.put, zp1, zp2, zp3]
      refine take_y 9 20 (v := ?_) rfl ?_ ?_; rotate_left; focus (intro w hSw; (try dsimp only at hSw); go_simp; (try rw [if_neg (by omega)]); (try with_reducible rfl))
      try simp only [Act.put, zp1, zp2, zp3]
      refine wpAnyH_ready (rs := [12]) (by kernel_rfl) (by simp) ?_
      refine AllReadyH.cons rfl (fun K hK => ?_) AllReadyH.nil
      go_simp
      refine (pick_any rb (p + 2) _ _ HSS.out.b.rdr (by omega) (by omega)).mono ?_
      rintro e w78 ⟨y3, rfl, hy3a, hy3b, hr78, hg78⟩
      have hS2 := HSS.out.pick hr78 hg78
      refine hK.out _ _ (((hS2.sl _ rfl).1.at _).trans HX.out) (fun hHeld2 => ?_)
      clear hHeld hK K; have hHeld := hHeld2; clear hHeld2; try simp only [Act.put, zp1, zp2, zp3]
      have HSS2 := Lib.hid hS2
      clear hS2 hr78 hg78
      clear HSS
      have HSS := HSS2
      clear HSS2
      have hy3c : y3 < L := by omega
      clear hy3b
      refine wpAnyH_ready (rs := [14]) (by kernel_rfl) (by simp) ?_
      refine AllReadyH.cons rfl (fun K hK => ?_) AllReadyH.nil
      go_simp
      refine (pick_any rb (p + 3) _ _ HSS.out.b.rdr (by omega) (by omega)).mono ?_
      rintro e w79 ⟨y4, rfl, hy4a, hy4b, hr79, hg79⟩
      have hS2 := HSS.out.pick hr79 hg79
      refine hK.out _ _ (((hS2.sl _ rfl).1.at _).trans HX.out) (fun hHeld2 => ?_)
      clear hHeld hK K; have hHeld := hHeld2; clear hHeld2; try simp only [Act.put, zp1, zp2, zp3]
      have HSS2 := Lib.hid hS2
      clear hS2 hr79 hg79
      clear HSS
      have HSS := HSS2
      clear HSS2
      have hy4c : y4 < 40 := by omega
      clear hy4b
      refine take_y 15 26 (v := ?_) rfl ?_ ?_; rotate_left; focus (intro w hSw; (try dsimp only at hSw); go_simp; (try rw [if_neg (by omega)]); (try with_reducible rfl))
      try simp only [Act.put, zp1, zp2, zp3]
      refine take_y 17 28 (v := ?_) rfl ?_ ?_; rotate_left; focus (intro w hSw; (try dsimp only at hSw); go_simp; (try rw [if_neg (by omega)]); (try with_reducible rfl))
      try simp only [Act.put, zp1, zp2, zp3]
      refine take_y 18 29 (v := ?_) rfl ?_ ?_; rotate_left; focus (intro w hSw; (try dsimp only at hSw); go_simp; (try rw [if_neg (by omega)]); (try with_reducible rfl))
      try simp only [Act.put, zp1, zp2, zp3]
      refine take_y 19 30 (v := ?_) rfl ?_ ?_; rotate_left; focus (intro w hSw; (try dsimp only at hSw); go_simp; (try rw [if_neg (by omega)]); (try with_reducible rfl))
      try simp only [Act.put, zp1, zp2, zp3]
      obtain ⟨hA, hAb⟩ := HSS.out.al _ rfl
      obtain ⟨hB, hBb⟩ := HSS.out.sl _ rfl
      have hnab : nb ≠ na := fun e => by
       subst e
       have h1 : w79.heap[nb]? = _ := hA
       have h2 : w79.heap[nb]? = _ := hB
       rw [h1] at h2
       injection h2 with h2
       injection h2 with h2 h3
       cases h2
      obtain ⟨r0, r1, r2, f0, f1, f2, rlt⟩ := hA.three
      refine wpAnyH_ready (rs := [21]) (by kernel_rfl) (by simp) ?_
      refine AllReadyH.cons rfl (fun K hK => ?_) AllReadyH.nil
      go_simp
      refine hK.out _ _ (by (try dsimp only); exact ((((hB.other (a := ⟨na, 0, none⟩) (u := _) hnab).other (a := ⟨na, 1, none⟩) (u := _) hnab).other (a := ⟨na, 2, none⟩) (u := _) hnab).at _).trans HX.out) (fun hHeld2 => ?_)
      clear hHeld hK K; have hHeld := hHeld2; clear hHeld2; try simp only [Act.put, zp1, zp2, zp3]
      refine wpAnyH_done (by kernel_rfl) ?_ _
      clear hHeld
      go_wp2_with fail
      go_meet
      exact ⟨_, _, _, rfl, ((hA.set (i := 0) rfl).set (i := 1) rfl).set (i := 2) rfl, ((HSS.out.b.set _ hAb).set _ hAb).set _ hAb, hAb⟩
     ·
      go_simp
      refine (pick_any rb (p + 2) _ _ HSS.out.b.rdr (by omega) (by omega)).mono ?_
      rintro e w80 ⟨y3, rfl, hy3a, hy3b, hr80, hg80⟩
      have hS2 := HSS.out.pick hr80 hg80
      refine hK.out _ _ trivial (fun hHeld2 => ?_)
      clear hHeld hK K; have hHeld := hHeld2; clear hHeld2; try simp only [Act.put, zp1, zp2, zp3]
      have HSS2 := Lib.hid hS2
      clear hS2 hr80 hg80
      clear HSS
      have HSS := HSS2
      clear HSS2
      have hy3c : y3 < L := by omega
      clear hy3b
      refine wpAnyH_ready (rs := [0, 14]) (by kernel_rfl) (by simp) ?_
      refine AllReadyH.cons rfl (fun K hK => ?_) (AllReadyH.cons rfl (fun K hK => ?_) AllReadyH.nil)
      ·
       go_simp
       have hS2 := HSS.out.newB
       refine hK.out _ _ trivial (fun hHeld2 => ?_)
       clear hHeld hK K; have hHeld := hHeld2; clear hHeld2; try simp only [Act.put, zp1, zp2, zp3]
       have HSS2 := Lib.hid hS2
       clear hS2
       clear HSS
       have HSS := HSS2
       clear HSS2
       generalize World.alloc w80 (.cells #[.int .i64 0, .int .i64 0, .int .i64 0, .int .i64 0, .int .i64 1, .int .i64 1, .int .i64 2] 3) = W81 at HSS hHeld ⊢
       generalize w80.heap.size = nb at HSS hHeld ⊢
       obtain ⟨x, hx⟩ := seven_at y1 hy1a hy1c
       have HX := Lib.hid hx
       clear hx
       refine wpAnyH_weak (S' := fun w' => w'.cell? ⟨nb, y1.toNat, none⟩ = some (.int .i64 x)) (fun _ _ => trivial) _ _ _ _ ?_
       clear hHeld
       have hHeld := ((HSS.out.sl _ rfl).1.at y1.toNat).trans HX.out
       refine take_y 3 14 (v := ?_) rfl ?_ ?_; rotate_left; focus (intro w hSw; (try dsimp only at hSw); go_simp; (try rw [if_neg (by omega)]); (try with_reducible rfl))
       try simp only [Act.put, zp1, zp2, zp3]
       refine take_y 4 15 (v := ?_) rfl ?_ ?_; rotate_left; focus (intro w hSw; (try dsimp only at hSw); go_simp; (try rw [if_neg (by omega)]); (try with_reducible rfl))
       try simp only [Act.put, zp1, zp2, zp3]
       refine take_y 9 20 (v := ?_) rfl ?_ ?_; rotate_left; focus (intro w hSw; (try dsimp only at hSw); go_simp; (try rw [if_neg (by omega)]); (try with_reducible rfl))
       try simp only [Act.put, zp1, zp2, zp3]
       refine wpAnyH_ready (rs := [14]) (by kernel_rfl) (by simp) ?_
       refine AllReadyH.cons rfl (fun K hK => ?_) AllReadyH.nil
       go_simp
       refine (pick_any rb (p + 3) _ _ HSS.out.b.rdr (by omega) (by omega)).mono ?_
       rintro e w82 ⟨y4, rfl, hy4a, hy4b, hr82, hg82⟩
       have hS2 := HSS.out.pick hr82 hg82
       refine hK.out _ _ (((hS2.sl _ rfl).1.at _).trans HX.out) (fun hHeld2 => ?_)
       clear hHeld hK K; have hHeld := hHeld2; clear hHeld2; try simp only [Act.put, zp1, zp2, zp3]
       have HSS2 := Lib.hid hS2
       clear hS2 hr82 hg82
       clear HSS
       have HSS := HSS2
       clear HSS2
       have hy4c : y4 < 40 := by omega
       clear hy4b
       refine take_y 15 26 (v := ?_) rfl ?_ ?_; rotate_left; focus (intro w hSw; (try dsimp only at hSw); go_simp; (try rw [if_neg (by omega)]); (try with_reducible rfl))
       try simp only [Act.put, zp1, zp2, zp3]
       refine take_y 17 28 (v := ?_) rfl ?_ ?_; rotate_left; focus (intro w hSw; (try dsimp only at hSw); go_simp; (try rw [if_neg (by omega)]); (try with_reducible rfl))
       try simp only [Act.put, zp1, zp2, zp3]
       refine take_y 18 29 (v := ?_) rfl ?_ ?_; rotate_left; focus (intro w hSw; (try dsimp only at hSw); go_simp; (try rw [if_neg (by omega)]); (try with_reducible rfl))
       try simp only [Act.put, zp1, zp2, zp3]
       refine take_y 19 30 (v := ?_) rfl ?_ ?_; rotate_left; focus (intro w hSw; (try dsimp only at hSw); go_simp; (try rw [if_neg (by omega)]); (try with_reducible rfl))
       try simp only [Act.put, zp1, zp2, zp3]
       obtain ⟨hA, hAb⟩ := HSS.out.al _ rfl
       obtain ⟨hB, hBb⟩ := HSS.out.sl _ rfl
       have hnab : nb ≠ na := fun e => by
        subst e
        have h1 : w82.heap[nb]? = _ := hA
        have h2 : w82.heap[nb]? = _ := hB
        rw [h1] at h2
        injection h2 with h2
        injection h2 with h2 h3
        cases h2
       obtain ⟨r0, r1, r2, f0, f1, f2, rlt⟩ := hA.three
       refine wpAnyH_ready (rs := [21]) (by kernel_rfl) (by simp) ?_
       refine AllReadyH.cons rfl (fun K hK => ?_) AllReadyH.nil
       go_simp
       refine hK.out _ _ (by (try dsimp only); exact ((((hB.other (a := ⟨na, 0, none⟩) (u := _) hnab).other (a := ⟨na, 1, none⟩) (u := _) hnab).other (a := ⟨na, 2, none⟩) (u := _) hnab).at _).trans HX.out) (fun hHeld2 => ?_)
       clear hHeld hK K; have hHeld := hHeld2; clear hHeld2; try simp only [Act.put, zp1, zp2, zp3]
       refine wpAnyH_done (by kernel_rfl) ?_ _
       clear hHeld
       go_wp2_with fail
       go_meet
       exact ⟨_, _, _, rfl, ((hA.set (i := 0) rfl).set (i := 1) rfl).set (i := 2) rfl, ((HSS.out.b.set _ hAb).set _ hAb).set _ hAb, hAb⟩
      ·
       go_simp
       refine (pick_any rb (p + 3) _ _ HSS.out.b.rdr (by omega) (by omega)).mono ?_
       rintro e w83 ⟨y4, rfl, hy4a, hy4b, hr83, hg83⟩
       have hS2 := HSS.out.pick hr83 hg83
       refine hK.out _ _ trivial (fun hHeld2 => ?_)
       clear hHeld hK K; have hHeld := hHeld2; clear hHeld2; try simp only [Act.put, zp1, zp2, zp3]
       have HSS2 := Lib.hid hS2
       clear hS2 hr83 hg83
       clear HSS
       have HSS := HSS2
       clear HSS2
       have hy4c : y4 < 40 := by omega
       clear hy4b
       refine take_y 15 26 (v := ?_) rfl ?_ ?_; rotate_left; focus (intro w hSw; (try dsimp only at hSw); go_simp; (try rw [if_neg (by omega)]); (try with_reducible rfl))
       try simp only [Act.put, zp1, zp2, zp3]
       refine take_y 17 28 (v := ?_) rfl ?_ ?_; rotate_left; focus (intro w hSw; (try dsimp only at hSw); go_simp; (try rw [if_neg (by omega)]); (try with_reducible rfl))
       try simp only [Act.put, zp1, zp2, zp3]
       refine take_y 18 29 (v := ?_) rfl ?_ ?_; rotate_left; focus (intro w hSw; (try dsimp only at hSw); go_simp; (try rw [if_neg (by omega)]); (try with_reducible rfl))
       try simp only [Act.put, zp1, zp2, zp3]
       refine wpAnyH_ready (rs := [0]) (by kernel_rfl) (by simp) ?_
       refine AllReadyH.cons rfl (fun K hK => ?_) AllReadyH.nil
       go_simp
       have hS2 := HSS.out.newB
       refine hK.out _ _ trivial (fun hHeld2 => ?_)
       clear hHeld hK K; have hHeld := hHeld2; clear hHeld2; try simp only [Act.put, zp1, zp2, zp3]
       have HSS2 := Lib.hid hS2
       clear hS2
       clear HSS
       have HSS := HSS2
       clear HSS2
       generalize World.alloc w83 (.cells #[.int .i64 0, .int .i64 0, .int .i64 0, .int .i64 0, .int .i64 1, .int .i64 1, .int .i64 2] 3) = W84 at HSS hHeld ⊢
       generalize w83.heap.size = nb at HSS hHeld ⊢
       obtain ⟨x, hx⟩ := seven_at y1 hy1a hy1c
       have HX := Lib.hid hx
       clear hx
       refine wpAnyH_weak (S' := fun w' => w'.cell? ⟨nb, y1.toNat, none⟩ = some (.int .i64 x)) (fun _ _ => trivial) _ _ _ _ ?_
       clear hHeld
       have hHeld := ((HSS.out.sl _ rfl).1.at y1.toNat).trans HX.out
       refine take_y 3 14 (v := ?_) rfl ?_ ?_; rotate_left; focus (intro w hSw; (try dsimp only at hSw); go_simp; (try rw [if_neg (by omega)]); (try with_reducible rfl))
       try simp only [Act.put, zp1, zp2, zp3]
       refine take_y 4 15 (v := ?_) rfl ?_ ?_; rotate_left; focus (intro w hSw; (try dsimp only at hSw); go_simp; (try rw [if_neg (by omega)]); (try with_reducible rfl))
       try simp only [Act.put, zp1, zp2, zp3]
       refine take_y 9 20 (v := ?_) rfl ?_ ?_; rotate_left; focus (intro w hSw; (try dsimp only at hSw); go_simp; (try rw [if_neg (by omega)]); (try with_reducible rfl))
       try simp only [Act.put, zp1, zp2, zp3]
       refine take_y 19 30 (v := ?_) rfl ?_ ?_; rotate_left; focus (intro w hSw; (try dsimp only at hSw); go_simp; (try rw [if_neg (by omega)]); (try with_reducible rfl))
       try simp only [Act.put, zp1, zp2, zp3]
       obtain ⟨hA, hAb⟩ := HSS.out.al _ rfl
       obtain ⟨hB, hBb⟩ := HSS.out.sl _ rfl
       have hnab : nb ≠ na := fun e => by
        subst e
        have h1 : W84.heap[nb]? = _ := hA
        have h2 : W84.heap[nb]? = _ := hB
        rw [h1] at h2
        injection h2 with h2
        injection h2 with h2 h3
        cases h2
       obtain ⟨r0, r1, r2, f0, f1, f2, rlt⟩ := hA.three
       refine wpAnyH_ready (rs := [21]) (by kernel_rfl) (by simp) ?_
       refine AllReadyH.cons rfl (fun K hK => ?_) AllReadyH.nil
       go_simp
       refine hK.out _ _ (by (try dsimp only); exact ((((hB.other (a := ⟨na, 0, none⟩) (u := _) hnab).other (a := ⟨na, 1, none⟩) (u := _) hnab).other (a := ⟨na, 2, none⟩) (u := _) hnab).at _).trans HX.out) (fun hHeld2 => ?_)
       clear hHeld hK K; have hHeld := hHeld2; clear hHeld2; try simp only [Act.put, zp1, zp2, zp3]
       refine wpAnyH_done (by kernel_rfl) ?_ _
       clear hHeld
       go_wp2_with fail
       go_meet
       exact ⟨_, _, _, rfl, ((hA.set (i := 0) rfl).set (i := 1) rfl).set (i := 2) rfl, ((HSS.out.b.set _ hAb).set _ hAb).set _ hAb, hAb⟩
  ·
   go_simp
   have hS2 := HSS.out.newA
   refine hK.out _ _ trivial (fun hHeld2 => ?_)
   clear hHeld hK K; have hHeld := hHeld2; clear hHeld2; try simp only [Act.put, zp1, zp2, zp3]
   have HSS2 := Lib.hid hS2
   clear hS2
   clear HSS
   have HSS := HSS2
   clear HSS2
   generalize World.alloc W0 (.cells #[.int .i64 0, .int .i64 0, .string ⟨#[]⟩] 26) = W85 at HSS hHeld ⊢
   generalize W0.heap.size = na at HSS hHeld ⊢
   refine wpAnyH_ready (rs := [0, 2]) (by kernel_rfl) (by simp) ?_
   refine AllReadyH.cons rfl (fun K hK => ?_) (AllReadyH.cons rfl (fun K hK => ?_) AllReadyH.nil)
   ·
    go_simp
    have hS2 := HSS.out.newB
    refine hK.out _ _ trivial (fun hHeld2 => ?_)
    clear hHeld hK K; have hHeld := hHeld2; clear hHeld2; try simp only [Act.put, zp1, zp2, zp3]
    have HSS2 := Lib.hid hS2
    clear hS2
    clear HSS
    have HSS := HSS2
    clear HSS2
    generalize World.alloc W85 (.cells #[.int .i64 0, .int .i64 0, .int .i64 0, .int .i64 0, .int .i64 1, .int .i64 1, .int .i64 2] 3) = W86 at HSS hHeld ⊢
    generalize W85.heap.size = nb at HSS hHeld ⊢
    refine wpAnyH_ready (rs := [2]) (by kernel_rfl) (by simp) ?_
    refine AllReadyH.cons rfl (fun K hK => ?_) AllReadyH.nil
    go_simp
    refine (pick_any rb (p + 0) _ _ HSS.out.b.rdr (by omega) (by omega)).mono ?_
    rintro e w87 ⟨y1, rfl, hy1a, hy1b, hr87, hg87⟩
    have hS2 := HSS.out.pick hr87 hg87
    refine hK.out _ _ trivial (fun hHeld2 => ?_)
    clear hHeld hK K; have hHeld := hHeld2; clear hHeld2; try simp only [Act.put, zp1, zp2, zp3]
    have HSS2 := Lib.hid hS2
    clear hS2 hr87 hg87
    clear HSS
    have HSS := HSS2
    clear HSS2
    have hy1c : y1 < 7 := by omega
    clear hy1b
    obtain ⟨x, hx⟩ := seven_at y1 hy1a hy1c
    have HX := Lib.hid hx
    clear hx
    refine wpAnyH_weak (S' := fun w' => w'.cell? ⟨nb, y1.toNat, none⟩ = some (.int .i64 x)) (fun _ _ => trivial) _ _ _ _ ?_
    clear hHeld
    have hHeld := ((HSS.out.sl _ rfl).1.at y1.toNat).trans HX.out
    refine take_y 3 14 (v := ?_) rfl ?_ ?_; rotate_left; focus (intro w hSw; (try dsimp only at hSw); go_simp; (try rw [if_neg (by omega)]); (try with_reducible rfl))
    try simp only [Act.put, zp1, zp2, zp3]
    refine take_y 4 15 (v := ?_) rfl ?_ ?_; rotate_left; focus (intro w hSw; (try dsimp only at hSw); go_simp; (try rw [if_neg (by omega)]); (try with_reducible rfl))
    try simp only [Act.put, zp1, zp2, zp3]
    refine wpAnyH_ready (rs := [6]) (by kernel_rfl) (by simp) ?_
    refine AllReadyH.cons rfl (fun K hK => ?_) AllReadyH.nil
    go_simp
    refine (pick_any rb (p + 1) _ _ HSS.out.b.rdr (by omega) (by omega)).mono ?_
    rintro e w88 ⟨y2, rfl, hy2a, hy2b, hr88, hg88⟩
    have hS2 := HSS.out.pick hr88 hg88
    refine hK.out _ _ (((hS2.sl _ rfl).1.at _).trans HX.out) (fun hHeld2 => ?_)
    clear hHeld hK K; have hHeld := hHeld2; clear hHeld2; try simp only [Act.put, zp1, zp2, zp3]
    have HSS2 := Lib.hid hS2
    clear hS2 hr88 hg88
    clear HSS
    have HSS := HSS2
    clear HSS2
    have hy2c : y2 < 60 := by omega
    clear hy2b
    refine take_y 7 18 (v := ?_) rfl ?_ ?_; rotate_left; focus (intro w hSw; (try dsimp only at hSw); go_simp; (try rw [if_neg (by omega)]); (try with_reducible rfl))
    try simp only [Act.put, zp1, zp2, zp3]
    refine take_y 8 19 (v := ?_) rfl ?_ ?_; rotate_left; focus (intro w hSw; (try dsimp only at hSw); go_simp; (try rw [if_neg (by omega)]); (try with_reducible rfl))
    try simp only [Act.put, zp1, zp2, zp3]
    refine take_y 9 20 (v := ?_) rfl ?_ ?_; rotate_left; focus (intro w hSw; (try dsimp only at hSw); go_simp; (try rw [if_neg (by omega)]); (try with_reducible rfl))
    try simp only [Act.put, zp1, zp2, zp3]
    refine wpAnyH_ready (rs := [12]) (by kernel_rfl) (by simp) ?_
    refine AllReadyH.cons rfl (fun K hK => ?_) AllReadyH.nil
    go_simp
    refine (pick_any rb (p + 2) _ _ HSS.out.b.rdr (by omega) (by omega)).mono ?_
    rintro e w89 ⟨y3, rfl, hy3a, hy3b, hr89, hg89⟩
    have hS2 := HSS.out.pick hr89 hg89
    refine hK.out _ _ (((hS2.sl _ rfl).1.at _).trans HX.out) (fun hHeld2 => ?_)
    clear hHeld hK K; have hHeld := hHeld2; clear hHeld2; try simp only [Act.put, zp1, zp2, zp3]
    have HSS2 := Lib.hid hS2
    clear hS2 hr89 hg89
    clear HSS
    have HSS := HSS2
    clear HSS2
    have hy3c : y3 < L := by omega
    clear hy3b
    refine wpAnyH_ready (rs := [14]) (by kernel_rfl) (by simp) ?_
    refine AllReadyH.cons rfl (fun K hK => ?_) AllReadyH.nil
    go_simp
    refine (pick_any rb (p + 3) _ _ HSS.out.b.rdr (by omega) (by omega)).mono ?_
    rintro e w90 ⟨y4, rfl, hy4a, hy4b, hr90, hg90⟩
    have hS2 := HSS.out.pick hr90 hg90
    refine hK.out _ _ (((hS2.sl _ rfl).1.at _).trans HX.out) (fun hHeld2 => ?_)
    clear hHeld hK K; have hHeld := hHeld2; clear hHeld2; try simp only [Act.put, zp1, zp2, zp3]
    have HSS2 := Lib.hid hS2
    clear hS2 hr90 hg90
    clear HSS
    have HSS := HSS2
    clear HSS2
    have hy4c : y4 < 40 := by omega
    clear hy4b
    refine take_y 15 26 (v := ?_) rfl ?_ ?_; rotate_left; focus (intro w hSw; (try dsimp only at hSw); go_simp; (try rw [if_neg (by omega)]); (try with_reducible rfl))
    try simp only [Act.put, zp1, zp2, zp3]
    refine take_y 17 28 (v := ?_) rfl ?_ ?_; rotate_left; focus (intro w hSw; (try dsimp only at hSw); go_simp; (try rw [if_neg (by omega)]); (try with_reducible rfl))
    try simp only [Act.put, zp1, zp2, zp3]
    refine take_y 18 29 (v := ?_) rfl ?_ ?_; rotate_left; focus (intro w hSw; (try dsimp only at hSw); go_simp; (try rw [if_neg (by omega)]); (try with_reducible rfl))
    try simp only [Act.put, zp1, zp2, zp3]
    refine take_y 19 30 (v := ?_) rfl ?_ ?_; rotate_left; focus (intro w hSw; (try dsimp only at hSw); go_simp; (try rw [if_neg (by omega)]); (try with_reducible rfl))
    try simp only [Act.put, zp1, zp2, zp3]
    obtain ⟨hA, hAb⟩ := HSS.out.al _ rfl
    obtain ⟨hB, hBb⟩ := HSS.out.sl _ rfl
    have hnab : nb ≠ na := fun e => by
     subst e
     have h1 : w90.heap[nb]? = _ := hA
     have h2 : w90.heap[nb]? = _ := hB
     rw [h1] at h2
     injection h2 with h2
     injection h2 with h2 h3
     cases h2
    obtain ⟨r0, r1, r2, f0, f1, f2, rlt⟩ := hA.three
    refine wpAnyH_ready (rs := [21]) (by kernel_rfl) (by simp) ?_
    refine AllReadyH.cons rfl (fun K hK => ?_) AllReadyH.nil
    go_simp
    refine hK.out _ _ (by (try dsimp only); exact ((((hB.other (a := ⟨na, 0, none⟩) (u := _) hnab).other (a := ⟨na, 1, none⟩) (u := _) hnab).other (a := ⟨na, 2, none⟩) (u := _) hnab).at _).trans HX.out) (fun hHeld2 => ?_)
    clear hHeld hK K; have hHeld := hHeld2; clear hHeld2; try simp only [Act.put, zp1, zp2, zp3]
    refine wpAnyH_done (by kernel_rfl) ?_ _
    clear hHeld
    go_wp2_with fail
    go_meet
    exact ⟨_, _, _, rfl, ((hA.set (i := 0) rfl).set (i := 1) rfl).set (i := 2) rfl, ((HSS.out.b.set _ hAb).set _ hAb).set _ hAb, hAb⟩
   ·
    go_simp
    refine (pick_any rb (p + 0) _ _ HSS.out.b.rdr (by omega) (by omega)).mono ?_
    rintro e w91 ⟨y1, rfl, hy1a, hy1b, hr91, hg91⟩
    have hS2 := HSS.out.pick hr91 hg91
    refine hK.out _ _ trivial (fun hHeld2 => ?_)
    clear hHeld hK K; have hHeld := hHeld2; clear hHeld2; try simp only [Act.put, zp1, zp2, zp3]
    have HSS2 := Lib.hid hS2
    clear hS2 hr91 hg91
    clear HSS
    have HSS := HSS2
    clear HSS2
    have hy1c : y1 < 7 := by omega
    clear hy1b
    refine wpAnyH_ready (rs := [0, 6]) (by kernel_rfl) (by simp) ?_
    refine AllReadyH.cons rfl (fun K hK => ?_) (AllReadyH.cons rfl (fun K hK => ?_) AllReadyH.nil)
    ·
     go_simp
     have hS2 := HSS.out.newB
     refine hK.out _ _ trivial (fun hHeld2 => ?_)
     clear hHeld hK K; have hHeld := hHeld2; clear hHeld2; try simp only [Act.put, zp1, zp2, zp3]
     have HSS2 := Lib.hid hS2
     clear hS2
     clear HSS
     have HSS := HSS2
     clear HSS2
     generalize World.alloc w91 (.cells #[.int .i64 0, .int .i64 0, .int .i64 0, .int .i64 0, .int .i64 1, .int .i64 1, .int .i64 2] 3) = W92 at HSS hHeld ⊢
     generalize w91.heap.size = nb at HSS hHeld ⊢
     obtain ⟨x, hx⟩ := seven_at y1 hy1a hy1c
     have HX := Lib.hid hx
     clear hx
     refine wpAnyH_weak (S' := fun w' => w'.cell? ⟨nb, y1.toNat, none⟩ = some (.int .i64 x)) (fun _ _ => trivial) _ _ _ _ ?_
     clear hHeld
     have hHeld := ((HSS.out.sl _ rfl).1.at y1.toNat).trans HX.out
     refine take_y 3 14 (v := ?_) rfl ?_ ?_; rotate_left; focus (intro w hSw; (try dsimp only at hSw); go_simp; (try rw [if_neg (by omega)]); (try with_reducible rfl))
     try simp only [Act.put, zp1, zp2, zp3]
     refine take_y 4 15 (v := ?_) rfl ?_ ?_; rotate_left; focus (intro w hSw; (try dsimp only at hSw); go_simp; (try rw [if_neg (by omega)]); (try with_reducible rfl))
     try simp only [Act.put, zp1, zp2, zp3]
     refine wpAnyH_ready (rs := [6]) (by kernel_rfl) (by simp) ?_
     refine AllReadyH.cons rfl (fun K hK => ?_) AllReadyH.nil
     go_simp
     refine (pick_any rb (p + 1) _ _ HSS.out.b.rdr (by omega) (by omega)).mono ?_
     rintro e w93 ⟨y2, rfl, hy2a, hy2b, hr93, hg93⟩
     have hS2 := HSS.out.pick hr93 hg93
     refine hK.out _ _ (((hS2.sl _ rfl).1.at _).trans HX.out) (fun hHeld2 => ?_)
     clear hHeld hK K; have hHeld := hHeld2; clear hHeld2; try simp only [Act.put, zp1, zp2, zp3]
     have HSS2 := Lib.hid hS2
     clear hS2 hr93 hg93
     clear HSS
     have HSS := HSS2
     clear HSS2
     have hy2c : y2 < 60 := by omega
     clear hy2b
     refine take_y 7 18 (v := ?_) rfl ?_ ?_; rotate_left; focus (intro w hSw; (try dsimp only at hSw); go_simp; (try rw [if_neg (by omega)]); (try with_reducible rfl))
     try simp only [Act.put, zp1, zp2, zp3]
     refine take_y 8 19 (v := ?_) rfl ?_ ?_; rotate_left; focus (intro w hSw; (try dsimp only at hSw); go_simp; (try rw [if_neg (by omega)]); (try with_reducible rfl))
     try simp only [Act.put, zp1, zp2, zp3]
     refine take_y 9 20 (v := ?_) rfl ?_ ?_; rotate_left; focus (intro w hSw; (try dsimp only at hSw); go_simp; (try rw [if_neg (by omega)]); (try with_reducible rfl))
     try simp only [Act.put, zp1, zp2, zp3]
     refine wpAnyH_ready (rs := [12]) (by kernel_rfl) (by simp) ?_
     refine AllReadyH.cons rfl (fun K hK => ?_) AllReadyH.nil
     go_simp
     refine (pick_any rb (p + 2) _ _ HSS.out.b.rdr (by omega) (by omega)).mono ?_
     rintro e w94 ⟨y3, rfl, hy3a, hy3b, hr94, hg94⟩
     have hS2 := HSS.out.pick hr94 hg94
     refine hK.out _ _ (((hS2.sl _ rfl).1.at _).trans HX.out) (fun hHeld2 => ?_)
     clear hHeld hK K; have hHeld := hHeld2; clear hHeld2; try simp only [Act.put, zp1, zp2, zp3]
     have HSS2 := Lib.hid hS2
     clear hS2 hr94 hg94
     clear HSS
     have HSS := HSS2
     clear HSS2
     have hy3c : y3 < L := by omega
     clear hy3b
     refine wpAnyH_ready (rs := [14]) (by kernel_rfl) (by simp) ?_
     refine AllReadyH.cons rfl (fun K hK => ?_) AllReadyH.nil
     go_simp
     refine (pick_any rb (p + 3) _ _ HSS.out.b.rdr (by omega) (by omega)).mono ?_
     rintro e w95 ⟨y4, rfl, hy4a, hy4b, hr95, hg95⟩
     have hS2 := HSS.out.pick hr95 hg95
     refine hK.out _ _ (((hS2.sl _ rfl).1.at _).trans HX.out) (fun hHeld2 => ?_)
     clear hHeld hK K; have hHeld := hHeld2; clear hHeld2; try simp only [Act.put, zp1, zp2, zp3]
     have HSS2 := Lib.hid hS2
     clear hS2 hr95 hg95
     clear HSS
     have HSS := HSS2
     clear HSS2
     have hy4c : y4 < 40 := by omega
     clear hy4b
     refine take_y 15 26 (v := ?_) rfl ?_ ?_; rotate_left; focus (intro w hSw; (try dsimp only at hSw); go_simp; (try rw [if_neg (by omega)]); (try with_reducible rfl))
     try simp only [Act.put, zp1, zp2, zp3]
     refine take_y 17 28 (v := ?_) rfl ?_ ?_; rotate_left; focus (intro w hSw; (try dsimp only at hSw); go_simp; (try rw [if_neg (by omega)]); (try with_reducible rfl))
     try simp only [Act.put, zp1, zp2, zp3]
     refine take_y 18 29 (v := ?_) rfl ?_ ?_; rotate_left; focus (intro w hSw; (try dsimp only at hSw); go_simp; (try rw [if_neg (by omega)]); (try with_reducible rfl))
     try simp only [Act.put, zp1, zp2, zp3]
     refine take_y 19 30 (v := ?_) rfl ?_ ?_; rotate_left; focus (intro w hSw; (try dsimp only at hSw); go_simp; (try rw [if_neg (by omega)]); (try with_reducible rfl))
     try simp only [Act.put, zp1, zp2, zp3]
     obtain ⟨hA, hAb⟩ := HSS.out.al _ rfl
     obtain ⟨hB, hBb⟩ := HSS.out.sl _ rfl
     have hnab : nb ≠ na := fun e => by
      subst e
      have h1 : w95.heap[nb]? = _ := hA
      have h2 : w95.heap[nb]? = _ := hB
      rw [h1] at h2
      injection h2 with h2
      injection h2 with h2 h3
      cases h2
     obtain ⟨r0, r1, r2, f0, f1, f2, rlt⟩ := hA.three
     refine wpAnyH_ready (rs := [21]) (by kernel_rfl) (by simp) ?_
     refine AllReadyH.cons rfl (fun K hK => ?_) AllReadyH.nil
     go_simp
     refine hK.out _ _ (by (try dsimp only); exact ((((hB.other (a := ⟨na, 0, none⟩) (u := _) hnab).other (a := ⟨na, 1, none⟩) (u := _) hnab).other (a := ⟨na, 2, none⟩) (u := _) hnab).at _).trans HX.out) (fun hHeld2 => ?_)
     clear hHeld hK K; have hHeld := hHeld2; clear hHeld2; try simp only [Act.put, zp1, zp2, zp3]
     refine wpAnyH_done (by kernel_rfl) ?_ _
     clear hHeld
     go_wp2_with fail
     go_meet
     exact ⟨_, _, _, rfl, ((hA.set (i := 0) rfl).set (i := 1) rfl).set (i := 2) rfl, ((HSS.out.b.set _ hAb).set _ hAb).set _ hAb, hAb⟩
    ·
     go_simp
     refine (pick_any rb (p + 1) _ _ HSS.out.b.rdr (by omega) (by omega)).mono ?_
     rintro e w96 ⟨y2, rfl, hy2a, hy2b, hr96, hg96⟩
     have hS2 := HSS.out.pick hr96 hg96
     refine hK.out _ _ trivial (fun hHeld2 => ?_)
     clear hHeld hK K; have hHeld := hHeld2; clear hHeld2; try simp only [Act.put, zp1, zp2, zp3]
     have HSS2 := Lib.hid hS2
     clear hS2 hr96 hg96
     clear HSS
     have HSS := HSS2
     clear HSS2
     have hy2c : y2 < 60 := by omega
     clear hy2b
     refine take_y 7 18 (v := ?_) rfl ?_ ?_; rotate_left; focus (intro w hSw; (try dsimp only at hSw); go_simp; (try rw [if_neg (by omega)]); (try with_reducible rfl))
     try simp only [Act.put, zp1, zp2, zp3]
     refine take_y 8 19 (v := ?_) rfl ?_ ?_; rotate_left; focus (intro w hSw; (try dsimp only at hSw); go_simp; (try rw [if_neg (by omega)]); (try with_reducible rfl))
     try simp only [Act.put, zp1, zp2, zp3]
     refine wpAnyH_ready (rs := [0, 12]) (by kernel_rfl) (by simp) ?_
     refine AllReadyH.cons rfl (fun K hK => ?_) (AllReadyH.cons rfl (fun K hK => ?_) AllReadyH.nil)
     ·
      go_simp
      have hS2 := HSS.out.newB
      refine hK.out _ _ trivial (fun hHeld2 => ?_)
      clear hHeld hK K; have hHeld := hHeld2; clear hHeld2; try simp only [Act.put, zp1, zp2, zp3]
      have HSS2 := Lib.hid hS2
      clear hS2
      clear HSS
      have HSS := HSS2
      clear HSS2
      generalize World.alloc w96 (.cells #[.int .i64 0, .int .i64 0, .int .i64 0, .int .i64 0, .int .i64 1, .int .i64 1, .int .i64 2] 3) = W97 at HSS hHeld ⊢
      generalize w96.heap.size = nb at HSS hHeld ⊢
      obtain ⟨x, hx⟩ := seven_at y1 hy1a hy1c
      have HX := Lib.hid hx
      clear hx
      refine wpAnyH_weak (S' := fun w' => w'.cell? ⟨nb, y1.toNat, none⟩ = some (.int .i64 x)) (fun _ _ => trivial) _ _ _ _ ?_
      clear hHeld
      have hHeld := ((HSS.out.sl _ rfl).1.at y1.toNat).trans HX.out
      refine take_y 3 14 (v := ?_) rfl ?_ ?_; rotate_left; focus (intro w hSw; (try dsimp only at hSw); go_simp; (try rw [if_neg (by omega)]); (try with_reducible rfl))
      try simp only [Act.put, zp1, zp2, zp3]
      refine take_y 4 15 (v := ?_) rfl ?_ ?_; rotate_left; focus (intro w hSw; (try dsimp only at hSw); go_simp; (try rw [if_neg (by omega)]); (try with_reducible rfl))
      try simp only [Act.put, zp1, zp2, zp3]
      refine take_y 9 20 (v := ?_) rfl ?_ ?_; rotate_left; focus (intro w hSw; (try dsimp only at hSw); go_simp; (try rw [if_neg (by omega)]); (try with_reducible rfl))
      try simp only [Act.put, zp1, zp2, zp3]
      refine wpAnyH_ready (rs := [12]) (by kernel_rfl) (by simp) ?_
      refine AllReadyH.cons rfl (fun K hK => ?_) AllReadyH.nil
      go_simp
      refine (pick_any rb (p + 2) _ _ HSS.out.b.rdr (by omega) (by omega)).mono ?_
      rintro e w98 ⟨y3, rfl, hy3a, hy3b, hr98, hg98⟩
      have hS2 := HSS.out.pick hr98 hg98
      refine hK.out _ _ (((hS2.sl _ rfl).1.at _).trans HX.out) (fun hHeld2 => ?_)
      clear hHeld hK K; have hHeld := hHeld2; clear hHeld2; try simp only [Act.put, zp1, zp2, zp3]
      have HSS2 := Lib.hid hS2
      clear hS2 hr98 hg98
      clear HSS
      have HSS := HSS2
      clear HSS2
      have hy3c : y3 < L := by omega
      clear hy3b
      refine wpAnyH_ready (rs := [14]) (by kernel_rfl) (by simp) ?_
      refine AllReadyH.cons rfl (fun K hK => ?_) AllReadyH.nil
      go_simp
      refine (pick_any rb (p + 3) _ _ HSS.out.b.rdr (by omega) (by omega)).mono ?_
      rintro e w99 ⟨y4, rfl, hy4a, hy4b, hr99, hg99⟩
      have hS2 := HSS.out.pick hr99 hg99
      refine hK.out _ _ (((hS2.sl _ rfl).1.at _).trans HX.out) (fun hHeld2 => ?_)
      clear hHeld hK K; have hHeld := hHeld2; clear hHeld2; try simp only [Act.put, zp1, zp2, zp3]
      have HSS2 := Lib.hid hS2
      clear hS2 hr99 hg99
      clear HSS
      have HSS := HSS2
      clear HSS2
      have hy4c : y4 < 40 := by omega
      clear hy4b
      refine take_y 15 26 (v := ?_) rfl ?_ ?_; rotate_left; focus (intro w hSw; (try dsimp only at hSw); go_simp; (try rw [if_neg (by omega)]); (try with_reducible rfl))
      try simp only [Act.put, zp1, zp2, zp3]
      refine take_y 17 28 (v := ?_) rfl ?_ ?_; rotate_left; focus (intro w hSw; (try dsimp only at hSw); go_simp; (try rw [if_neg (by omega)]); (try with_reducible rfl))
      try simp only [Act.put, zp1, zp2, zp3]
      refine take_y 18 29 (v := ?_) rfl ?_ ?_; rotate_left; focus (intro w hSw; (try dsimp only at hSw); go_simp; (try rw [if_neg (by omega)]); (try with_reducible rfl))
      try simp only [Act.put, zp1, zp2, zp3]
      refine take_y 19 30 (v := ?_) rfl ?_ ?_; rotate_left; focus (intro w hSw; (try dsimp only at hSw); go_simp; (try rw [if_neg (by omega)]); (try with_reducible rfl))
      try simp only [Act.put, zp1, zp2, zp3]
      obtain ⟨hA, hAb⟩ := HSS.out.al _ rfl
      obtain ⟨hB, hBb⟩ := HSS.out.sl _ rfl
      have hnab : nb ≠ na := fun e => by
       subst e
       have h1 : w99.heap[nb]? = _ := hA
       have h2 : w99.heap[nb]? = _ := hB
       rw [h1] at h2
       injection h2 with h2
       injection h2 with h2 h3
       cases h2
      obtain ⟨r0, r1, r2, f0, f1, f2, rlt⟩ := hA.three
      refine wpAnyH_ready (rs := [21]) (by kernel_rfl) (by simp) ?_
      refine AllReadyH.cons rfl (fun K hK => ?_) AllReadyH.nil
      go_simp
      refine hK.out _ _ (by (try dsimp only); exact ((((hB.other (a := ⟨na, 0, none⟩) (u := _) hnab).other (a := ⟨na, 1, none⟩) (u := _) hnab).other (a := ⟨na, 2, none⟩) (u := _) hnab).at _).trans HX.out) (fun hHeld2 => ?_)
      clear hHeld hK K; have hHeld := hHeld2; clear hHeld2; try simp only [Act.put, zp1, zp2, zp3]
      refine wpAnyH_done (by kernel_rfl) ?_ _
      clear hHeld
      go_wp2_with fail
      go_meet
      exact ⟨_, _, _, rfl, ((hA.set (i := 0) rfl).set (i := 1) rfl).set (i := 2) rfl, ((HSS.out.b.set _ hAb).set _ hAb).set _ hAb, hAb⟩
     ·
      go_simp
      refine (pick_any rb (p + 2) _ _ HSS.out.b.rdr (by omega) (by omega)).mono ?_
      rintro e w100 ⟨y3, rfl, hy3a, hy3b, hr100, hg100⟩
      have hS2 := HSS.out.pick hr100 hg100
      refine hK.out _ _ trivial (fun hHeld2 => ?_)
      clear hHeld hK K; have hHeld := hHeld2; clear hHeld2; try simp only [Act.put, zp1, zp2, zp3]
      have HSS2 := Lib.hid hS2
      clear hS2 hr100 hg100
      clear HSS
      have HSS := HSS2
      clear HSS2
      have hy3c : y3 < L := by omega
      clear hy3b
      refine wpAnyH_ready (rs := [0, 14]) (by kernel_rfl) (by simp) ?_
      refine AllReadyH.cons rfl (fun K hK => ?_) (AllReadyH.cons rfl (fun K hK => ?_) AllReadyH.nil)
      ·
       go_simp
       have hS2 := HSS.out.newB
       refine hK.out _ _ trivial (fun hHeld2 => ?_)
       clear hHeld hK K; have hHeld := hHeld2; clear hHeld2; try simp only [Act.put, zp1, zp2, zp3]
       have HSS2 := Lib.hid hS2
       clear hS2
       clear HSS
       have HSS := HSS2
       clear HSS2
       generalize World.alloc w100 (.cells #[.int .i64 0, .int .i64 0, .int .i64 0, .int .i64 0, .int .i64 1, .int .i64 1, .int .i64 2] 3) = W101 at HSS hHeld ⊢
       generalize w100.heap.size = nb at HSS hHeld ⊢
       obtain ⟨x, hx⟩ := seven_at y1 hy1a hy1c
       have HX := Lib.hid hx
       clear hx
       refine wpAnyH_weak (S' := fun w' => w'.cell? ⟨nb, y1.toNat, none⟩ = some (.int .i64 x)) (fun _ _ => trivial) _ _ _ _ ?_
       clear hHeld
       have hHeld := ((HSS.out.sl _ rfl).1.at y1.toNat).trans HX.out
       refine take_y 3 14 (v := ?_) rfl ?_ ?_; rotate_left; focus (intro w hSw; (try dsimp only at hSw); go_simp; (try rw [if_neg (by omega)]); (try with_reducible rfl))
       try simp only [Act.put, zp1, zp2, zp3]
       refine take_y 4 15 (v := ?_) rfl ?_ ?_; rotate_left; focus (intro w hSw; (try dsimp only at hSw); go_simp; (try rw [if_neg (by omega)]); (try with_reducible rfl))
       try simp only [Act.put, zp1, zp2, zp3]
       refine take_y 9 20 (v := ?_) rfl ?_ ?_; rotate_left; focus (intro w hSw; (try dsimp only at hSw); go_simp; (try rw [if_neg (by omega)]); (try with_reducible rfl))
       try simp only [Act.put, zp1, zp2, zp3]
       refine wpAnyH_ready (rs := [14]) (by kernel_rfl) (by simp) ?_
       refine AllReadyH.cons rfl (fun K hK => ?_) AllReadyH.nil
       go_simp
       refine (pick_any rb (p + 3) _ _ HSS.out.b.rdr (by omega) (by omega)).mono ?_
       rintro e w102 ⟨y4, rfl, hy4a, hy4b, hr102, hg102⟩
       have hS2 := HSS.out.pick hr102 hg102
       refine hK.out _ _ (((hS2.sl _ rfl).1.at _).trans HX.out) (fun hHeld2 => ?_)
       clear hHeld hK K; have hHeld := hHeld2; clear hHeld2; try simp only [Act.put, zp1, zp2, zp3]
       have HSS2 := Lib.hid hS2
       clear hS2 hr102 hg102
       clear HSS
       have HSS := HSS2
       clear HSS2
       have hy4c : y4 < 40 := by omega
       clear hy4b
       refine take_y 15 26 (v := ?_) rfl ?_ ?_; rotate_left; focus (intro w hSw; (try dsimp only at hSw); go_simp; (try rw [if_neg (by omega)]); (try with_reducible rfl))
       try simp only [Act.put, zp1, zp2, zp3]
       refine take_y 17 28 (v := ?_) rfl ?_ ?_; rotate_left; focus (intro w hSw; (try dsimp only at hSw); go_simp; (try rw [if_neg (by omega)]); (try with_reducible rfl))
       try simp only [Act.put, zp1, zp2, zp3]
       refine take_y 18 29 (v := ?_) rfl ?_ ?_; rotate_left; focus (intro w hSw; (try dsimp only at hSw); go_simp; (try rw [if_neg (by omega)]); (try with_reducible rfl))
       try simp only [Act.put, zp1, zp2, zp3]
       refine take_y 19 30 (v := ?_) rfl ?_ ?_; rotate_left; focus (intro w hSw; (try dsimp only at hSw); go_simp; (try rw [if_neg (by omega)]); (try with_reducible rfl))
       try simp only [Act.put, zp1, zp2, zp3]
       obtain ⟨hA, hAb⟩ := HSS.out.al _ rfl
       obtain ⟨hB, hBb⟩ := HSS.out.sl _ rfl
       have hnab : nb ≠ na := fun e => by
        subst e
        have h1 : w102.heap[nb]? = _ := hA
        have h2 : w102.heap[nb]? = _ := hB
        rw [h1] at h2
        injection h2 with h2
        injection h2 with h2 h3
        cases h2
       obtain ⟨r0, r1, r2, f0, f1, f2, rlt⟩ := hA.three
       refine wpAnyH_ready (rs := [21]) (by kernel_rfl) (by simp) ?_
       refine AllReadyH.cons rfl (fun K hK => ?_) AllReadyH.nil
       go_simp
       refine hK.out _ _ (by (try dsimp only); exact ((((hB.other (a := ⟨na, 0, none⟩) (u := _) hnab).other (a := ⟨na, 1, none⟩) (u := _) hnab).other (a := ⟨na, 2, none⟩) (u := _) hnab).at _).trans HX.out) (fun hHeld2 => ?_)
       clear hHeld hK K; have hHeld := hHeld2; clear hHeld2; try simp only [Act.put, zp1, zp2, zp3]
       refine wpAnyH_done (by kernel_rfl) ?_ _
       clear hHeld
       go_wp2_with fail
       go_meet
       exact ⟨_, _, _, rfl, ((hA.set (i := 0) rfl).set (i := 1) rfl).set (i := 2) rfl, ((HSS.out.b.set _ hAb).set _ hAb).set _ hAb, hAb⟩
      ·
       go_simp
       refine (pick_any rb (p + 3) _ _ HSS.out.b.rdr (by omega) (by omega)).mono ?_
       rintro e w103 ⟨y4, rfl, hy4a, hy4b, hr103, hg103⟩
       have hS2 := HSS.out.pick hr103 hg103
       refine hK.out _ _ trivial (fun hHeld2 => ?_)
       clear hHeld hK K; have hHeld := hHeld2; clear hHeld2; try simp only [Act.put, zp1, zp2, zp3]
       have HSS2 := Lib.hid hS2
       clear hS2 hr103 hg103
       clear HSS
       have HSS := HSS2
       clear HSS2
       have hy4c : y4 < 40 := by omega
       clear hy4b
       refine take_y 15 26 (v := ?_) rfl ?_ ?_; rotate_left; focus (intro w hSw; (try dsimp only at hSw); go_simp; (try rw [if_neg (by omega)]); (try with_reducible rfl))
       try simp only [Act.put, zp1, zp2, zp3]
       refine take_y 17 28 (v := ?_) rfl ?_ ?_; rotate_left; focus (intro w hSw; (try dsimp only at hSw); go_simp; (try rw [if_neg (by omega)]); (try with_reducible rfl))
       try simp only [Act.put, zp1, zp2, zp3]
       refine take_y 18 29 (v := ?_) rfl ?_ ?_; rotate_left; focus (intro w hSw; (try dsimp only at hSw); go_simp; (try rw [if_neg (by omega)]); (try with_reducible rfl))
       try simp only [Act.put, zp1, zp2, zp3]
       refine wpAnyH_ready (rs := [0]) (by kernel_rfl) (by simp) ?_
       refine AllReadyH.cons rfl (fun K hK => ?_) AllReadyH.nil
       go_simp
       have hS2 := HSS.out.newB
       refine hK.out _ _ trivial (fun hHeld2 => ?_)
       clear hHeld hK K; have hHeld := hHeld2; clear hHeld2; try simp only [Act.put, zp1, zp2, zp3]
       have HSS2 := Lib.hid hS2
       clear hS2
       clear HSS
       have HSS := HSS2
       clear HSS2
       generalize World.alloc w103 (.cells #[.int .i64 0, .int .i64 0, .int .i64 0, .int .i64 0, .int .i64 1, .int .i64 1, .int .i64 2] 3) = W104 at HSS hHeld ⊢
       generalize w103.heap.size = nb at HSS hHeld ⊢
       obtain ⟨x, hx⟩ := seven_at y1 hy1a hy1c
       have HX := Lib.hid hx
       clear hx
       refine wpAnyH_weak (S' := fun w' => w'.cell? ⟨nb, y1.toNat, none⟩ = some (.int .i64 x)) (fun _ _ => trivial) _ _ _ _ ?_
       clear hHeld
       have hHeld := ((HSS.out.sl _ rfl).1.at y1.toNat).trans HX.out
       refine take_y 3 14 (v := ?_) rfl ?_ ?_; rotate_left; focus (intro w hSw; (try dsimp only at hSw); go_simp; (try rw [if_neg (by omega)]); (try with_reducible rfl))
       try simp only [Act.put, zp1, zp2, zp3]
       refine take_y 4 15 (v := ?_) rfl ?_ ?_; rotate_left; focus (intro w hSw; (try dsimp only at hSw); go_simp; (try rw [if_neg (by omega)]); (try with_reducible rfl))
       try simp only [Act.put, zp1, zp2, zp3]
       refine take_y 9 20 (v := ?_) rfl ?_ ?_; rotate_left; focus (intro w hSw; (try dsimp only at hSw); go_simp; (try rw [if_neg (by omega)]); (try with_reducible rfl))
       try simp only [Act.put, zp1, zp2, zp3]
       refine take_y 19 30 (v := ?_) rfl ?_ ?_; rotate_left; focus (intro w hSw; (try dsimp only at hSw); go_simp; (try rw [if_neg (by omega)]); (try with_reducible rfl))
       try simp only [Act.put, zp1, zp2, zp3]
       obtain ⟨hA, hAb⟩ := HSS.out.al _ rfl
       obtain ⟨hB, hBb⟩ := HSS.out.sl _ rfl
       have hnab : nb ≠ na := fun e => by
        subst e
        have h1 : W104.heap[nb]? = _ := hA
        have h2 : W104.heap[nb]? = _ := hB
        rw [h1] at h2
        injection h2 with h2
        injection h2 with h2 h3
        cases h2
       obtain ⟨r0, r1, r2, f0, f1, f2, rlt⟩ := hA.three
       refine wpAnyH_ready (rs := [21]) (by kernel_rfl) (by simp) ?_
       refine AllReadyH.cons rfl (fun K hK => ?_) AllReadyH.nil
       go_simp
       refine hK.out _ _ (by (try dsimp only); exact ((((hB.other (a := ⟨na, 0, none⟩) (u := _) hnab).other (a := ⟨na, 1, none⟩) (u := _) hnab).other (a := ⟨na, 2, none⟩) (u := _) hnab).at _).trans HX.out) (fun hHeld2 => ?_)
       clear hHeld hK K; have hHeld := hHeld2; clear hHeld2; try simp only [Act.put, zp1, zp2, zp3]
       refine wpAnyH_done (by kernel_rfl) ?_ _
       clear hHeld
       go_wp2_with fail
       go_meet
       exact ⟨_, _, _, rfl, ((hA.set (i := 0) rfl).set (i := 1) rfl).set (i := 2) rfl, ((HSS.out.b.set _ hAb).set _ hAb).set _ hAb, hAb⟩
 case rest =>
  obtain ⟨wd, rfl⟩ : ∃ wo : World, wo = wc := ⟨_, rfl⟩
  obtain ⟨nb, k, l, rfl, hD, hX, hbig⟩ := hcut
  clear b0 b1 b2 b3 b4 blt HST0
  obtain ⟨b0, b1, b2, b3, b4, -, -, -, -, -, blt⟩ := hX.box.five
  obtain ⟨d0, d1, d2, e0, e1, e2, dlt⟩ := hD.three
  by_cases hA : k = 0 ∧ 0 < n
  ·
   obtain ⟨rfl, hn0⟩ := hA
   have hLn := HLN.out hn0
   subst hLn
   go_wp2_with fail
   refine (pick_any rb (p + 4) _ _ hX.rdr (by omega) (by omega)).mono ?_
   rintro e w2 ⟨y, rfl, hy0, hy1, hr2, hg2⟩
   have hX2 := hX.pick hr2 hg2
   have hD2 := hD.gb hg2 (by omega)
   clear hX hD hr2 hg2 b0 b1 b2 b3 b4 blt d0 d1 d2 e0 e1 e2 dlt
   have hX := hX2
   have hD := hD2
   clear hX2 hD2
   obtain ⟨b0, b1, b2, b3, b4, -, -, -, -, -, blt⟩ := hX.box.five
   obtain ⟨d0, d1, d2, e0, e1, e2, dlt⟩ := hD.three
   by_cases hy : 0 < y
   ·
    clear hy0 hy1
    rcases HC1.out with h0 | ⟨b, off, rfl, hb, hc1⟩
    ·
     omega
    have hneb : b ≠ rb := fun e => HNE.out _ _ _ rfl (by rw [e])
    have HCE : Hid (∀ i, i < n → ∃ s : ByteArray, w2.cell? ⟨b, off + i, none⟩ = some (.string s) ∧ s.size ≤ 8) := by
     intro i hi
     obtain ⟨s, hs⟩ : ∃ s, ps[i]? = some s := ⟨_, List.getElem?_eq_getElem (by rw [HN.out]; omega)⟩
     refine ⟨s, ?_, HSM.out s (List.mem_of_getElem? hs)⟩
     have h1 := hc1 i (by omega)
     rw [strs_at ps i s hs] at h1
     exact (World.cell?_of_block (a := ⟨b, off + i, none⟩) (hX.gb.block b hb (by simpa using hneb))).trans h1
    have HB := Lib.hid hb
    clear hc1
    go_wp2_with fail
    refine wp_region_held_drew (S := fun w' => w'.cell? ⟨w.heap.size, 3, none⟩ = some (.slice (some ⟨b, off, none⟩) n c1)) (by kernel_rfl) b3 (fun hHeld => ?_)
    refine take_y 0 46 (v := ?_) rfl ?_ ?_; rotate_left; focus (intro w hSw; (try dsimp only at hSw); go_simp; (try rw [if_neg (by omega)]); (try with_reducible rfl))
    try simp only [Act.put, zp1, zp2, zp3]
    refine take_y 1 47 (v := ?_) rfl ?_ ?_; rotate_left; focus (intro w hSw; (try dsimp only at hSw); go_simp; (try rw [if_neg (by omega)]); (try with_reducible rfl))
    try simp only [Act.put, zp1, zp2, zp3]
    refine take_y 2 48 (v := ?_) rfl ?_ ?_; rotate_left; focus (intro w hSw; (try dsimp only at hSw); go_simp; (try rw [if_neg (by omega)]); (try with_reducible rfl))
    try simp only [Act.put, zp1, zp2, zp3]
    refine take_y 3 49 (v := ?_) rfl ?_ ?_; rotate_left; focus (intro w hSw; (try dsimp only at hSw); go_simp; (try rw [if_neg (by omega)]); (try with_reducible rfl))
    try simp only [Act.put, zp1, zp2, zp3]
    refine wpAnyH_ready (rs := [4]) (by kernel_rfl) (by simp) ?_
    refine AllReadyH.cons rfl (fun K hK => ?_) AllReadyH.nil
    go_simp
    refine (pick_any rb (p + 5) _ _ hX.rdr.drew (by omega) (by omega)).mono ?_
    rintro e w3 ⟨y2, rfl, hz0, hz1, hr3, hg3⟩
    have hg4 : w2.grownBy w3 (some rb) := ⟨hg3.os, hg3.tape, hg3.output, hg3.size, hg3.block⟩
    have hX3 := hX.pick hr3 hg4
    have hD3 := hD.gb hg4 (by omega)
    obtain ⟨t, rfl⟩ := Int.eq_ofNat_of_zero_le hz0
    have ht : t < n := by omega
    obtain ⟨s, hs, hs8⟩ := HCE.out t ht
    have hs3 : w3.cell? ⟨b, off + t, none⟩ = some (.string s) := (World.cell?_of_block (a := ⟨b, off + t, none⟩) (hg3.block b (by have := hX.gb.size; have := HB.out; exact (by simpa using (show b < w2.heap.size by omega))) (by simpa using hneb))).trans hs
    have j1 : (0 : Int) ≤ (t : Int) := by omega
    have j2 : (t : Int) < (n : Int) := by omega
    clear hX hD hr3 hg3 hg4 hs hz1 b0 b1 b2 b3 b4 blt d0 d1 d2 e0 e1 e2 dlt
    obtain ⟨b0, b1, b2, b3, b4, -, -, -, -, -, blt⟩ := hX3.box.five
    obtain ⟨d0, d1, d2, e0, e1, e2, dlt⟩ := hD3.three
    refine hK.out _ _ b3 (fun hHeld2 => ?_)
    clear hHeld hK K; have hHeld := hHeld2; clear hHeld2; try simp only [Act.put, zp1, zp2, zp3]
    refine take_y 5 51 (v := ?_) rfl ?_ ?_; rotate_left; focus (intro w hSw; (try dsimp only at hSw); go_simp; (try rw [if_neg (by omega)]); (try with_reducible rfl))
    try simp only [Act.put, zp1, zp2, zp3]
    refine wpAnyH_ready (rs := [6]) (by kernel_rfl) (by simp) ?_
    refine AllReadyH.cons rfl (fun K hK => ?_) AllReadyH.nil
    go_simp
    refine hK.out _ _ b3 (fun hHeld2 => ?_)
    clear hHeld hK K; have hHeld := hHeld2; clear hHeld2; try simp only [Act.put, zp1, zp2, zp3]
    have hX := hX3.set (i := 2) (.string s) hbig
    have hD := hD3.set (i := 2) (u := .string s) rfl
    refine take_y 7 53 (v := ?_) rfl ?_ ?_; rotate_left; focus (intro w hSw; (try dsimp only at hSw); go_simp; (try rw [if_neg (by omega)]); (try with_reducible rfl))
    try simp only [Act.put, zp1, zp2, zp3]
    refine wpAnyH_ready (rs := [8]) (by kernel_rfl) (by simp) ?_
    refine AllReadyH.cons rfl (fun K hK => ?_) AllReadyH.nil
    go_simp
    refine hK.out _ _ (hX.box.five).2.2.2.1 (fun hHeld2 => ?_)
    clear hHeld hK K; have hHeld := hHeld2; clear hHeld2; try simp only [Act.put, zp1, zp2, zp3]
    refine wpAnyH_done (by kernel_rfl) ?_ _
    clear hHeld
    obtain ⟨R0, R1, R2, F0, F1, F2, Rlt⟩ := hX3.res.three
    clear hX3 hD3
    obtain ⟨d0, d1, d2, e0, e1, e2, dlt⟩ := hD.three
    obtain ⟨r0, r1, r2, f0, f1, f2, rlt⟩ := hX.res.three
    (try simp only []); repeat first | go_values | go_skip | go_guarded | go_step | go_upon
    obtain ⟨z0, z1, z2, -⟩ := (((hX.res.set (i := 0) (u := .int .i64 0) rfl).set (i := 1) (u := .int .i64 l) rfl).set (i := 2) (u := .string s) rfl).three
    refine bodyPost_ret (v := .agg #[.int .i64 0, .int .i64 l, .string s]) (by simp [results, Tryd.results45, go_sem, z0, z1, z2]) rfl ?_
    exact ⟨0, l, s, p + 6, rfl, hs8, by omega, by omega, ((hX.rdr.other (by show rb < w.heap.size + 1; omega)).other (by show rb < w.heap.size + 1; omega)).other (by show rb < w.heap.size + 1; omega), gb_new (by show _ ≤ w.heap.size + 1; omega) (gb_new (by show _ ≤ w.heap.size + 1; omega) (gb_new (by show _ ≤ w.heap.size + 1; omega) hX.gb))⟩
   ·
    have hy00 : y = 0 := by omega
    subst hy00
    go_wp2_with fail
    refine (l20Digits_any rb (p + 5) 3 _ hX.rdr (by omega) (by omega) (by omega)).mono ?_
    rintro e wz ⟨sz, qz, rfl, hsz, -, hqa, hqb, hrz, hgz⟩
    have hXz := hX.pick hrz hgz
    have hDz := hD.gb hgz (by omega)
    have hsz8 : sz.size ≤ 8 := by omega
    clear hX hD hrz hgz b0 b1 b2 b3 b4 blt d0 d1 d2 e0 e1 e2 dlt
    have hX := hXz.set (i := 2) (.string sz) hbig
    have hD := hDz.set (i := 2) (u := .string sz) rfl
    obtain ⟨b0, b1, b2, b3, b4, -, -, -, -, -, blt⟩ := hXz.box.five
    obtain ⟨D0, D1, D2, E0, E1, E2, Dlt⟩ := hDz.three
    obtain ⟨R0, R1, R2, F0, F1, F2, Rlt⟩ := hXz.res.three
    clear hXz hDz
    obtain ⟨d0, d1, d2, e0, e1, e2, dlt⟩ := hD.three
    obtain ⟨r0, r1, r2, f0, f1, f2, rlt⟩ := hX.res.three
    (try simp only []); repeat first | go_values | go_skip | go_guarded | go_step | go_upon
    obtain ⟨z0, z1, z2, -⟩ := (((hX.res.set (i := 0) (u := .int .i64 0) rfl).set (i := 1) (u := .int .i64 l) rfl).set (i := 2) (u := .string sz) rfl).three
    refine bodyPost_ret (v := .agg #[.int .i64 0, .int .i64 l, .string sz]) (by simp [results, Tryd.results45, go_sem, z0, z1, z2]) rfl ?_
    exact ⟨0, l, sz, qz, rfl, hsz8, by omega, by omega, ((hX.rdr.other (by show rb < w.heap.size + 1; omega)).other (by show rb < w.heap.size + 1; omega)).other (by show rb < w.heap.size + 1; omega), gb_new (by show _ ≤ w.heap.size + 1; omega) (gb_new (by show _ ≤ w.heap.size + 1; omega) (gb_new (by show _ ≤ w.heap.size + 1; omega) hX.gb))⟩
  ·
   have hB : (k = 0 ∧ n = 0) ∨ k ≠ 0 := by omega
   by_cases hk1 : k = 1
   ·
    subst hk1
    go_wp2_with fail
    refine (odd_any rb (p + 4) _ _ hX.rdr (by omega) (by omega)).mono ?_
    rintro e w2 ⟨o, q2, rfl, -, hq1, hq2, hr2, hg2⟩
    have hX2 := hX.pick hr2 hg2
    have hD2 := hD.gb hg2 (by omega)
    clear hX hD hr2 hg2 b0 b1 b2 b3 b4 blt d0 d1 d2 e0 e1 e2 dlt
    have hX := hX2
    have hD := hD2
    clear hX2 hD2
    obtain ⟨b0, b1, b2, b3, b4, -, -, -, -, -, blt⟩ := hX.box.five
    obtain ⟨d0, d1, d2, e0, e1, e2, dlt⟩ := hD.three
    cases o
    ·
     clear d0 d1 d2 e0 e1 e2 dlt
     obtain ⟨d0, d1, d2, e0, e1, e2, dlt⟩ := hD.three
     obtain ⟨r0, r1, r2, f0, f1, f2, rlt⟩ := hX.res.three
     (try simp only []); repeat first | go_values | go_skip | go_guarded | go_step | go_upon
     obtain ⟨z0, z1, z2, -⟩ := (((hX.res.set (i := 0) (u := .int .i64 1) rfl).set (i := 1) (u := .int .i64 l) rfl).set (i := 2) (u := .string ⟨#[]⟩) rfl).three
     refine bodyPost_ret (v := .agg #[.int .i64 1, .int .i64 l, .string ⟨#[]⟩]) (by simp [results, Tryd.results45, go_sem, z0, z1, z2]) rfl ?_
     exact ⟨1, l, ⟨#[]⟩, q2, rfl, (by show 0 ≤ 8; omega), by omega, by omega, ((hX.rdr.other (by show rb < w.heap.size + 1; omega)).other (by show rb < w.heap.size + 1; omega)).other (by show rb < w.heap.size + 1; omega), gb_new (by show _ ≤ w.heap.size + 1; omega) (gb_new (by show _ ≤ w.heap.size + 1; omega) (gb_new (by show _ ≤ w.heap.size + 1; omega) hX.gb))⟩
    ·
     skip
     go_wp2_with fail
     refine (l20Digits_any rb q2 3 _ hX.rdr (by omega) (by omega) (by omega)).mono ?_
     rintro e wz ⟨sz, qz, rfl, hsz, -, hqa, hqb, hrz, hgz⟩
     have hXz := hX.pick hrz hgz
     have hDz := hD.gb hgz (by omega)
     have hsz8 : sz.size ≤ 8 := by omega
     clear hX hD hrz hgz b0 b1 b2 b3 b4 blt d0 d1 d2 e0 e1 e2 dlt
     have hX := hXz.set (i := 2) (.string sz) hbig
     have hD := hDz.set (i := 2) (u := .string sz) rfl
     obtain ⟨b0, b1, b2, b3, b4, -, -, -, -, -, blt⟩ := hXz.box.five
     obtain ⟨D0, D1, D2, E0, E1, E2, Dlt⟩ := hDz.three
     obtain ⟨R0, R1, R2, F0, F1, F2, Rlt⟩ := hXz.res.three
     clear hXz hDz
     obtain ⟨d0, d1, d2, e0, e1, e2, dlt⟩ := hD.three
     obtain ⟨r0, r1, r2, f0, f1, f2, rlt⟩ := hX.res.three
     (try simp only []); repeat first | go_values | go_skip | go_guarded | go_step | go_upon
     obtain ⟨z0, z1, z2, -⟩ := (((hX.res.set (i := 0) (u := .int .i64 1) rfl).set (i := 1) (u := .int .i64 l) rfl).set (i := 2) (u := .string sz) rfl).three
     refine bodyPost_ret (v := .agg #[.int .i64 1, .int .i64 l, .string sz]) (by simp [results, Tryd.results45, go_sem, z0, z1, z2]) rfl ?_
     exact ⟨1, l, sz, qz, rfl, hsz8, by omega, by omega, ((hX.rdr.other (by show rb < w.heap.size + 1; omega)).other (by show rb < w.heap.size + 1; omega)).other (by show rb < w.heap.size + 1; omega), gb_new (by show _ ≤ w.heap.size + 1; omega) (gb_new (by show _ ≤ w.heap.size + 1; omega) (gb_new (by show _ ≤ w.heap.size + 1; omega) hX.gb))⟩
   ·
    rcases hB with ⟨rfl, rfl⟩ | hk0
    ·
     skip
     go_wp2_with fail
     refine (l20Digits_any rb (p + 4) 3 _ hX.rdr (by omega) (by omega) (by omega)).mono ?_
     rintro e wz ⟨sz, qz, rfl, hsz, -, hqa, hqb, hrz, hgz⟩
     have hXz := hX.pick hrz hgz
     have hDz := hD.gb hgz (by omega)
     have hsz8 : sz.size ≤ 8 := by omega
     clear hX hD hrz hgz b0 b1 b2 b3 b4 blt d0 d1 d2 e0 e1 e2 dlt
     have hX := hXz.set (i := 2) (.string sz) hbig
     have hD := hDz.set (i := 2) (u := .string sz) rfl
     obtain ⟨b0, b1, b2, b3, b4, -, -, -, -, -, blt⟩ := hXz.box.five
     obtain ⟨D0, D1, D2, E0, E1, E2, Dlt⟩ := hDz.three
     obtain ⟨R0, R1, R2, F0, F1, F2, Rlt⟩ := hXz.res.three
     clear hXz hDz
     obtain ⟨d0, d1, d2, e0, e1, e2, dlt⟩ := hD.three
     obtain ⟨r0, r1, r2, f0, f1, f2, rlt⟩ := hX.res.three
     (try simp only []); repeat first | go_values | go_skip | go_guarded | go_step | go_upon
     obtain ⟨z0, z1, z2, -⟩ := (((hX.res.set (i := 0) (u := .int .i64 0) rfl).set (i := 1) (u := .int .i64 l) rfl).set (i := 2) (u := .string sz) rfl).three
     refine bodyPost_ret (v := .agg #[.int .i64 0, .int .i64 l, .string sz]) (by simp [results, Tryd.results45, go_sem, z0, z1, z2]) rfl ?_
     exact ⟨0, l, sz, qz, rfl, hsz8, by omega, by omega, ((hX.rdr.other (by show rb < w.heap.size + 1; omega)).other (by show rb < w.heap.size + 1; omega)).other (by show rb < w.heap.size + 1; omega), gb_new (by show _ ≤ w.heap.size + 1; omega) (gb_new (by show _ ≤ w.heap.size + 1; omega) (gb_new (by show _ ≤ w.heap.size + 1; omega) hX.gb))⟩
    ·
     have hq0 : ((k : Int) == 0) = false := by simpa using hk0
     have hq1 : ((k : Int) == 1) = false := by simpa using hk1
     have hq2 : ((k : Int) != 1) = true := by simpa using hk1
     go_wp2_with fail
     refine (l20Digits_any rb (p + 4) 3 _ hX.rdr (by omega) (by omega) (by omega)).mono ?_
     rintro e wz ⟨sz, qz, rfl, hsz, -, hqa, hqb, hrz, hgz⟩
     have hXz := hX.pick hrz hgz
     have hDz := hD.gb hgz (by omega)
     have hsz8 : sz.size ≤ 8 := by omega
     clear hX hD hrz hgz b0 b1 b2 b3 b4 blt d0 d1 d2 e0 e1 e2 dlt
     have hX := hXz.set (i := 2) (.string sz) hbig
     have hD := hDz.set (i := 2) (u := .string sz) rfl
     obtain ⟨b0, b1, b2, b3, b4, -, -, -, -, -, blt⟩ := hXz.box.five
     obtain ⟨D0, D1, D2, E0, E1, E2, Dlt⟩ := hDz.three
     obtain ⟨R0, R1, R2, F0, F1, F2, Rlt⟩ := hXz.res.three
     clear hXz hDz
     obtain ⟨d0, d1, d2, e0, e1, e2, dlt⟩ := hD.three
     obtain ⟨r0, r1, r2, f0, f1, f2, rlt⟩ := hX.res.three
     (try simp only []); repeat first | go_values | go_skip | go_guarded | go_step | go_upon
     obtain ⟨z0, z1, z2, -⟩ := (((hX.res.set (i := 0) (u := .int .i64 k) rfl).set (i := 1) (u := .int .i64 l) rfl).set (i := 2) (u := .string sz) rfl).three
     refine bodyPost_ret (v := .agg #[.int .i64 k, .int .i64 l, .string sz]) (by simp [results, Tryd.results45, go_sem, z0, z1, z2]) rfl ?_
     exact ⟨k, l, sz, qz, rfl, hsz8, by omega, by omega, ((hX.rdr.other (by show rb < w.heap.size + 1; omega)).other (by show rb < w.heap.size + 1; omega)).other (by show rb < w.heap.size + 1; omega), gb_new (by show _ ≤ w.heap.size + 1; omega) (gb_new (by show _ ≤ w.heap.size + 1; omega) (gb_new (by show _ ≤ w.heap.size + 1; omega) hX.gb))⟩

end Go.Proofs.YtedadhoneebfnaaDoor
