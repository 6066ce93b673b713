/- Contract of ExchangeNew of the reference. -/
import Derived.Test.YtedadhoneebfnaaJ11
import Derived.Test.YtedadhoneebfnaaJ8
set_option linter.unusedSimpArgs false
set_option linter.unusedVariables false
namespace Go.Proofs.Ytedadhoneebfnaa
open Go.RowKit

/-- Where the making of an exchange stands. -/
structure CnSt (w W : World) (O E M : Int) (rp rc : Option (Value × Nat × List Value)) (nb : Option Nat) : Prop where
 bel : Below w.heap.size w W
 box : Blk W w.heap.size #[.int .i64 O, .int .i64 E, .int .i64 M] 30
 res : Blk W (w.heap.size + 1) #[.int .i64 0, .int .i64 0, .int .i64 0, .slice none 0 0, .slice none 0 0] 33
 plan : ∀ x, rp = some x → W.ownsRow (w.heap.size + 2) 9 1 x.1 x.2.1 x.2.2
 calls : ∀ x, rc = some x → W.ownsRow (w.heap.size + 2) 57 3 x.1 x.2.1 x.2.2
 apart : ∀ x y, rp = some x → rc = some y → x.1.ownBlock = none ∨ x.1.ownBlock ≠ y.1.ownBlock
 nxt : ∀ b, nb = some b → Blk W b #[.int .i64 0, .int .i64 0, .int .i64 0, .slice none 0 0, .slice none 0 0] 33 ∧ w.heap.size + 2 ≤ b
 np : ∀ b x, nb = some b → rp = some x → x.1.ownBlock = none ∨ x.1.ownBlock ≠ some b
 nc : ∀ b x, nb = some b → rc = some x → x.1.ownBlock = none ∨ x.1.ownBlock ≠ some b
theorem own_new {w : World} {base n : Nat} {E : TypeId} {size : Nat} {v : Value} {xs : List Value} (h : w.ownsRow base E size v n xs) : v.ownBlock = none ∨ v.ownBlock ≠ some w.heap.size := by
 cases hv : v.ownBlock with
 | none => exact .inl rfl
 | some k => exact .inr (fun e => by have := own_lt h k hv; cases e; omega)
section
variable {w W W' : World} {O E M : Int} {rp rc : Option (Value × Nat × List Value)} {nb : Option Nat}
theorem CnSt.cells (h : CnSt w W O E M rp rc nb) : W.cell? ⟨w.heap.size, 0, none⟩ = some (.int .i64 O) ∧ W.cell? ⟨w.heap.size, 1, none⟩ = some (.int .i64 E) ∧ W.cell? ⟨w.heap.size, 2, none⟩ = some (.int .i64 M) := by
 obtain ⟨p0, p1, p2, -⟩ := h.box.three
 exact ⟨p0, p1, p2⟩
theorem CnSt.big (h : CnSt w W O E M rp rc nb) : w.heap.size + 2 ≤ W.heap.size := h.res.lt
theorem CnSt.newP (h : CnSt w W O E M none rc nb) : CnSt w (W.alloc (.cells #[] 9)) O E M (some (.slice (some ⟨W.heap.size, 0, none⟩) 0 0, 0, [])) rc nb := by
 have hb := h.big
 refine ⟨h.bel.alloc h.bel.size _, h.box.alloc _, h.res.alloc _, fun x hx => ?_, fun x hx => (h.calls x hx).alloc _, fun x y hx hy => ?_, fun b hb => ⟨(h.nxt b hb).1.alloc _, (h.nxt b hb).2⟩, fun b x hb hx => ?_, h.nc⟩
 ·
  cases hx; exact own_empty8 rfl hb
 ·
  cases hx
  rcases own_new (h.calls y hy) with e | e
  ·
   exact .inr (fun e2 => by rw [e] at e2; cases e2)
  ·
   exact .inr (fun e2 => e e2.symm)
 ·
  cases hx
  refine .inr (fun e => ?_)
  have := (h.nxt b hb).1.lt
  have e2 : W.heap.size = b := by simpa [Value.ownBlock] using e
  omega
theorem CnSt.newC (h : CnSt w W O E M rp none nb) : CnSt w (W.alloc (.cells #[] 57)) O E M rp (some (.slice (some ⟨W.heap.size, 0, none⟩) 0 0, 0, [])) nb := by
 have hb := h.big
 refine ⟨h.bel.alloc h.bel.size _, h.box.alloc _, h.res.alloc _, fun x hx => (h.plan x hx).alloc _, fun x hx => ?_, fun x y hx hy => ?_, fun b hb => ⟨(h.nxt b hb).1.alloc _, (h.nxt b hb).2⟩, h.np, fun b x hb hx => ?_⟩
 ·
  cases hx; exact own_empty8 rfl hb
 ·
  cases hy; exact own_new (h.plan x hx)
 ·
  cases hx
  refine .inr (fun e => ?_)
  have := (h.nxt b hb).1.lt
  have e2 : W.heap.size = b := by simpa [Value.ownBlock] using e
  omega
theorem CnSt.newN (h : CnSt w W O E M rp rc none) : CnSt w (W.alloc (.cells #[.int .i64 0, .int .i64 0, .int .i64 0, .slice none 0 0, .slice none 0 0] 33)) O E M rp rc (some W.heap.size) :=
 ⟨h.bel.alloc h.bel.size _, h.box.alloc _, h.res.alloc _, fun x hx => (h.plan x hx).alloc _, fun x hx => (h.calls x hx).alloc _, h.apart, fun b hb => by cases hb; exact ⟨Blk.new rfl, h.big⟩, fun b x hb hx => by cases hb; exact own_new (h.plan x hx), fun b x hb hx => by cases hb; exact own_new (h.calls x hx)⟩
theorem CnSt.appP {v v' : Value} {m n : Nat} {ys xs : List Value} (h : CnSt w W O E M (some (v, m, ys)) rc nb) (hnn : v.ownBlock ≠ none) (ho : W'.ownsRow (w.heap.size + 2) 9 1 v' n xs) (hg : W.grownBy W' v.ownBlock) (hv : v'.ownBlock = v.ownBlock ∨ v'.ownBlock = some W.heap.size) : CnSt w W' O E M (some (v', n, xs)) rc nb := by
 have hp := h.plan _ rfl
 have hr := own_ge hp
 have hcv : ∀ x, rc = some x → x.1.ownBlock = none ∨ x.1.ownBlock ≠ v.ownBlock := fun x hx => by
  rcases h.apart _ x rfl hx with e | e
  ·
   exact absurd e hnn
  ·
   exact .inr (fun e2 => e e2.symm)
 refine ⟨h.bel.grown hg h.bel.size (fun k hk => by have := hr k hk; omega), Blk.gbr hg (fun e => by have := hr _ e.symm; omega) h.box, Blk.gbr hg (fun e => by have := hr _ e.symm; omega) h.res, fun x hx => by cases hx; exact ho, fun x hx => (h.calls x hx).kept hg (hcv x hx), fun x y hx hy => ?_, fun b hb => ⟨Blk.gbr hg (fun e => ?_) (h.nxt b hb).1, (h.nxt b hb).2⟩, fun b x hb hx => ?_, h.nc⟩
 ·
  cases hx
  rcases hv with e | e
  ·
   rw [e]; exact h.apart _ y rfl hy
  ·
   rw [e]
   rcases own_new (h.calls y hy) with e2 | e2
   ·
    exact .inr (fun e3 => by rw [e2] at e3; cases e3)
   ·
    exact .inr (fun e3 => e2 e3.symm)
 ·
  rcases h.np b _ hb rfl with e2 | e2
  ·
   exact hnn e2
  ·
   exact e2 e.symm
 ·
  cases hx
  rcases hv with e | e
  ·
   rw [e]; exact h.np b _ hb rfl
  ·
   rw [e]
   refine .inr (fun e3 => ?_)
   have := (h.nxt b hb).1.lt
   cases e3; omega
end

theorem five_low {w : World} {b b2 : Nat} {cs : Array Value} {T : TypeId} {y0 y1 y2 y3 y4 : Value} (h : Blk w b cs T) (hne : b ≠ b2) : Blk (((((w.setCell ⟨b2, 0, none⟩ y0).setCell ⟨b2, 1, none⟩ y1).setCell ⟨b2, 2, none⟩ y2).setCell ⟨b2, 3, none⟩ y3).setCell ⟨b2, 4, none⟩ y4) b cs T :=
 ((((h.other hne).other hne).other hne).other hne).other hne

set_option maxRecDepth 100000 in
set_option maxHeartbeats 16000000 in
theorem sExchangeNew_any (O E M : Int) (v : Value) (ps : List ByteArray) (w : World) (hv : Rds w v ps.length 1 (strs ps)) (hl : ps.length ≤ 2000000) (hL : StLen ps) :
  Calls Try.prog 27 #[.agg #[.int .i64 O, .int .i64 E, .int .i64 M], v] w (NewPost O E M ps w) := by
 obtain ⟨j0, hj, hy0, hy1, hy2⟩ := info_parts infoS8
 have hS0 : CnSt w ((w.alloc (.cells #[.int .i64 O, .int .i64 E, .int .i64 M] 30)).alloc (.cells #[.int .i64 0, .int .i64 0, .int .i64 0, .slice none 0 0, .slice none 0 0] 33)) O E M none none none :=
  ⟨by (exact grownA), (Blk.new (w := w) rfl).alloc _, Blk.new (w := w.alloc (.cells #[.int .i64 O, .int .i64 E, .int .i64 M] 30)) (by simp), fun x h => (by cases h), fun x h => (by cases h), fun x y h => (by cases h), fun b h => (by cases h), fun b x h => (by cases h), fun b x h => (by cases h)⟩
 have hS : CnSt w ((w.alloc (.cells #[.int .i64 O, .int .i64 E, .int .i64 M] 30)).alloc (.cells #[.int .i64 0, .int .i64 0, .int .i64 0, .slice none 0 0, .slice none 0 0] 33)).drew O E M none none none := ⟨hS0.bel.drew, hS0.box.drew, hS0.res.drew, fun x h => (by cases h), fun x h => (by cases h), fun x y h => (by cases h), fun b h => (by cases h), fun b x h => (by cases h), fun b x h => (by cases h)⟩
 have hce := hS.cells
 have HV := Lib.hid hv
 have HL := Lib.hid hL
 have HSS := Lib.hid hS
 obtain ⟨t1, t2, t3, -, -, -, tlt⟩ := hS0.box.three
 clear hv hS hS0 hL
 go_enter Try.func27, Try.ntmps27
 go_upto_region 1 with fail
 go_cut [5] (fun t5 wc => ∃ (be : Nat) (v' v2 : Value), t5 = .pointer (some ⟨be, 0, none⟩) ∧ Blk wc be #[.int .i64 O, .int .i64 E, .int .i64 M, v', v2] 33 ∧ wc.ownsRow (w.heap.size + 2) 9 1 v' ps.length (strs ps) ∧ wc.ownsRow (w.heap.size + 2) 57 3 v2 0 [] ∧ (v'.ownBlock = none ∨ v'.ownBlock ≠ v2.ownBlock) ∧ w.heap.size + 1 < be ∧ Below w.heap.size w wc ∧ Blk wc (w.heap.size + 1) #[.int .i64 0, .int .i64 0, .int .i64 0, .slice none 0 0, .slice none 0 0] 33)
 case first =>
  go_wp2_with fail
  generalize hW0 : World.drew ((w.alloc (.cells #[.int .i64 O, .int .i64 E, .int .i64 M] 30)).alloc (.cells #[.int .i64 0, .int .i64 0, .int .i64 0, .slice none 0 0, .slice none 0 0] 33)) = W0 at hce HSS
  refine wp_region_held_drew (S := fun w' => w'.cell? ⟨w.heap.size, 0, none⟩ = some (.int .i64 O) ∧ w'.cell? ⟨w.heap.size, 1, none⟩ = some (.int .i64 E) ∧ w'.cell? ⟨w.heap.size, 2, none⟩ = some (.int .i64 M)) (by kernel_rfl) (by rw [hW0]; exact hce) (fun hHeld => ?_)
  rw [hW0] at hHeld ⊢
  clear hW0
  refine take_y 0 6 (v := ?_) rfl ?_ ?_; rotate_left; focus (intro w hSw; (try dsimp only at hSw); go_simp; (try rw [if_neg (by omega)]); (try with_reducible rfl))
  try simp only [Act.put, zp1, zp2, zp3]
  refine take_y 2 8 (v := ?_) rfl ?_ ?_; rotate_left; focus (intro w hSw; (try dsimp only at hSw); go_simp; (try rw [if_neg (by omega)]); (try with_reducible rfl))
  try simp only [Act.put, zp1, zp2, zp3]
  clear hce
  refine wpAnyH_ready (rs := [1, 4, 6]) (by kernel_rfl) (by simp) ?_
  refine AllReadyH.cons rfl (fun K hK => ?_) (AllReadyH.cons rfl (fun K hK => ?_) (AllReadyH.cons rfl (fun K hK => ?_) AllReadyH.nil))
  ·
   go_simp
   have hS2 := HSS.out.newP
   refine hK.out _ _ hS2.cells (fun hHeld2 => ?_)
   clear hHeld hK K; have hHeld := hHeld2; clear hHeld2; try simp only [Act.put, zp1, zp2, zp3]
   have HSS2 := Lib.hid hS2
   clear HSS hS2
   have HSS := HSS2
   clear HSS2
   generalize World.alloc W0 (.cells #[] 9) = W1 at HSS hHeld ⊢
   generalize W0.heap.size = b1 at HSS hHeld ⊢
   refine wpAnyH_ready (rs := [3, 4, 6]) (by kernel_rfl) (by simp) ?_
   refine AllReadyH.cons rfl (fun K hK => ?_) (AllReadyH.cons rfl (fun K hK => ?_) (AllReadyH.cons rfl (fun K hK => ?_) AllReadyH.nil))
   ·
    refine step_append_rds _ (by rfl) _ _ _ (by rfl) (w.heap.size + 2) 9 j0 _ 1 16 Try.underlying24 hj hy0 hy1 hy2 rfl (by decide) _ 0 [] (by rfl) (HSS.out.plan _ rfl) _ ps.length (strs ps) (by rfl) (HV.out.below HSS.out.bel) (strs_one8 ps) (by unfold maxLen; omega) (by omega) HSS.out.big ?_
    intro vq wq2 hoq hgq hvq
    have hS2 := HSS.out.appP (fun e => by cases e) hoq hgq hvq
    refine hK.out _ _ hS2.cells (fun hHeld2 => ?_)
    clear hHeld hK K; have hHeld := hHeld2; clear hHeld2; try simp only [Act.put, zp1, zp2, zp3]
    have HSS2 := Lib.hid hS2
    clear HSS hS2 hoq hgq hvq
    have HSS := HSS2
    clear HSS2
    refine wpAnyH_ready (rs := [4, 6]) (by kernel_rfl) (by simp) ?_
    refine AllReadyH.cons rfl (fun K hK => ?_) (AllReadyH.cons rfl (fun K hK => ?_) AllReadyH.nil)
    ·
     go_simp
     have hS2 := HSS.out.newC
     refine hK.out _ _ hS2.cells (fun hHeld2 => ?_)
     clear hHeld hK K; have hHeld := hHeld2; clear hHeld2; try simp only [Act.put, zp1, zp2, zp3]
     have HSS2 := Lib.hid hS2
     clear HSS hS2
     have HSS := HSS2
     clear HSS2
     generalize World.alloc wq2 (.cells #[] 57) = W3 at HSS hHeld ⊢
     generalize wq2.heap.size = b3 at HSS hHeld ⊢
     have hpl := HSS.out.plan _ rfl
     simp only at hpl
     rw [Nat.zero_add, List.nil_append] at hpl
     obtain ⟨a2, c2, rfl⟩ := own_len9 hpl
     clear hpl
     refine take_y 5 11 (v := ?_) rfl ?_ ?_; rotate_left; focus (intro w hSw; (try dsimp only at hSw); go_simp; (try rw [if_neg (by omega)]); (try with_reducible rfl))
     try simp only [Act.put, zp1, zp2, zp3]
     refine wpAnyH_ready (rs := [6]) (by kernel_rfl) (by simp) ?_
     refine AllReadyH.cons rfl (fun K hK => ?_) AllReadyH.nil
     go_simp
     have hS2 := HSS.out.newN
     refine hK.out _ _ hS2.cells (fun hHeld2 => ?_)
     clear hHeld hK K; have hHeld := hHeld2; clear hHeld2; try simp only [Act.put, zp1, zp2, zp3]
     have HSS2 := Lib.hid hS2
     clear HSS hS2
     have HSS := HSS2
     clear HSS2
     generalize World.alloc W3 (.cells #[.int .i64 0, .int .i64 0, .int .i64 0, .slice none 0 0, .slice none 0 0] 33) = W4 at HSS hHeld ⊢
     generalize W3.heap.size = b4 at HSS hHeld ⊢
     have hS := HSS.out
     obtain ⟨hN, hNb⟩ := hS.nxt _ rfl
     have hpl := hS.plan _ rfl
     have hcl := hS.calls _ rfl
     simp only at hpl hcl
     rw [Nat.zero_add, List.nil_append] at hpl
     have hap := hS.apart _ _ rfl rfl
     have hnp := hS.np _ _ rfl rfl
     have hnc := hS.nc _ _ rfl rfl
     simp only at hap hnp hnc
     have HB3 := Lib.hid hS.box
     have HR3 := Lib.hid hS.res
     have HBE := Lib.hid hS.bel
     have HN := Lib.hid hN
     have HPL := Lib.hid hpl
     have HCL := Lib.hid hcl
     have HAP := Lib.hid hap
     have HNP := Lib.hid hnp
     have HNC := Lib.hid hnc
     have HNB := Lib.hid hNb
     clear hS HSS hN hpl hcl hap hnp hnc hNb
     obtain ⟨p0, p1, p2, -, -, -, plt⟩ := HB3.out.three
     obtain ⟨r0, r1, r2, r3, r4, f0, f1, f2, f3, f4, rlt⟩ := HN.out.five
     refine wpAnyH_ready (rs := [7]) (by kernel_rfl) (by simp) ?_
     refine AllReadyH.cons rfl (fun K hK => ?_) AllReadyH.nil
     go_simp
     have hnb := HNB.out
     refine hK.out _ _ (by (try dsimp only); obtain ⟨q0, q1, q2, -⟩ := (five_low (y0 := .int .i64 O) (y1 := .int .i64 E) (y2 := .int .i64 M) (y3 := .slice a2 ps.length c2) (y4 := _) HB3.out (show w.heap.size ≠ b4 by omega)).three; exact ⟨q0, q1, q2⟩) (fun hHeld2 => ?_)
     clear hHeld hK K; have hHeld := hHeld2; clear hHeld2; try simp only [Act.put, zp1, zp2, zp3]
     refine wpAnyH_done (by kernel_rfl) ?_ _
     clear hHeld
     go_wp2_with fail
     go_meet
     exact ⟨_, _, _, rfl, five_set HN.out, HPL.out.kept (five_gb _ _ _ _ _ _ _) HNP.out, HCL.out.kept (five_gb _ _ _ _ _ _ _) HNC.out, HAP.out, by omega, five_below _ _ _ _ _ HBE.out (by omega), five_low HR3.out (show w.heap.size + 1 ≠ b4 by omega)⟩
    ·
     go_simp
     have hS2 := HSS.out.newN
     refine hK.out _ _ hS2.cells (fun hHeld2 => ?_)
     clear hHeld hK K; have hHeld := hHeld2; clear hHeld2; try simp only [Act.put, zp1, zp2, zp3]
     have HSS2 := Lib.hid hS2
     clear HSS hS2
     have HSS := HSS2
     clear HSS2
     generalize World.alloc wq2 (.cells #[.int .i64 0, .int .i64 0, .int .i64 0, .slice none 0 0, .slice none 0 0] 33) = W5 at HSS hHeld ⊢
     generalize wq2.heap.size = b5 at HSS hHeld ⊢
     refine wpAnyH_ready (rs := [4]) (by kernel_rfl) (by simp) ?_
     refine AllReadyH.cons rfl (fun K hK => ?_) AllReadyH.nil
     go_simp
     have hS2 := HSS.out.newC
     refine hK.out _ _ hS2.cells (fun hHeld2 => ?_)
     clear hHeld hK K; have hHeld := hHeld2; clear hHeld2; try simp only [Act.put, zp1, zp2, zp3]
     have HSS2 := Lib.hid hS2
     clear HSS hS2
     have HSS := HSS2
     clear HSS2
     generalize World.alloc W5 (.cells #[] 57) = W6 at HSS hHeld ⊢
     generalize W5.heap.size = b6 at HSS hHeld ⊢
     have hpl := HSS.out.plan _ rfl
     simp only at hpl
     rw [Nat.zero_add, List.nil_append] at hpl
     obtain ⟨a2, c2, rfl⟩ := own_len9 hpl
     clear hpl
     refine take_y 5 11 (v := ?_) rfl ?_ ?_; rotate_left; focus (intro w hSw; (try dsimp only at hSw); go_simp; (try rw [if_neg (by omega)]); (try with_reducible rfl))
     try simp only [Act.put, zp1, zp2, zp3]
     have hS := HSS.out
     obtain ⟨hN, hNb⟩ := hS.nxt _ rfl
     have hpl := hS.plan _ rfl
     have hcl := hS.calls _ rfl
     simp only at hpl hcl
     rw [Nat.zero_add, List.nil_append] at hpl
     have hap := hS.apart _ _ rfl rfl
     have hnp := hS.np _ _ rfl rfl
     have hnc := hS.nc _ _ rfl rfl
     simp only at hap hnp hnc
     have HB3 := Lib.hid hS.box
     have HR3 := Lib.hid hS.res
     have HBE := Lib.hid hS.bel
     have HN := Lib.hid hN
     have HPL := Lib.hid hpl
     have HCL := Lib.hid hcl
     have HAP := Lib.hid hap
     have HNP := Lib.hid hnp
     have HNC := Lib.hid hnc
     have HNB := Lib.hid hNb
     clear hS HSS hN hpl hcl hap hnp hnc hNb
     obtain ⟨p0, p1, p2, -, -, -, plt⟩ := HB3.out.three
     obtain ⟨r0, r1, r2, r3, r4, f0, f1, f2, f3, f4, rlt⟩ := HN.out.five
     refine wpAnyH_ready (rs := [7]) (by kernel_rfl) (by simp) ?_
     refine AllReadyH.cons rfl (fun K hK => ?_) AllReadyH.nil
     go_simp
     have hnb := HNB.out
     refine hK.out _ _ (by (try dsimp only); obtain ⟨q0, q1, q2, -⟩ := (five_low (y0 := .int .i64 O) (y1 := .int .i64 E) (y2 := .int .i64 M) (y3 := .slice a2 ps.length c2) (y4 := _) HB3.out (show w.heap.size ≠ b5 by omega)).three; exact ⟨q0, q1, q2⟩) (fun hHeld2 => ?_)
     clear hHeld hK K; have hHeld := hHeld2; clear hHeld2; try simp only [Act.put, zp1, zp2, zp3]
     refine wpAnyH_done (by kernel_rfl) ?_ _
     clear hHeld
     go_wp2_with fail
     go_meet
     exact ⟨_, _, _, rfl, five_set HN.out, HPL.out.kept (five_gb _ _ _ _ _ _ _) HNP.out, HCL.out.kept (five_gb _ _ _ _ _ _ _) HNC.out, HAP.out, by omega, five_below _ _ _ _ _ HBE.out (by omega), five_low HR3.out (show w.heap.size + 1 ≠ b5 by omega)⟩
   ·
    go_simp
    have hS2 := HSS.out.newC
    refine hK.out _ _ hS2.cells (fun hHeld2 => ?_)
    clear hHeld hK K; have hHeld := hHeld2; clear hHeld2; try simp only [Act.put, zp1, zp2, zp3]
    have HSS2 := Lib.hid hS2
    clear HSS hS2
    have HSS := HSS2
    clear HSS2
    generalize World.alloc W1 (.cells #[] 57) = W7 at HSS hHeld ⊢
    generalize W1.heap.size = b7 at HSS hHeld ⊢
    refine wpAnyH_ready (rs := [3, 6]) (by kernel_rfl) (by simp) ?_
    refine AllReadyH.cons rfl (fun K hK => ?_) (AllReadyH.cons rfl (fun K hK => ?_) AllReadyH.nil)
    ·
     refine step_append_rds _ (by rfl) _ _ _ (by rfl) (w.heap.size + 2) 9 j0 _ 1 16 Try.underlying24 hj hy0 hy1 hy2 rfl (by decide) _ 0 [] (by rfl) (HSS.out.plan _ rfl) _ ps.length (strs ps) (by rfl) (HV.out.below HSS.out.bel) (strs_one8 ps) (by unfold maxLen; omega) (by omega) HSS.out.big ?_
     intro vq wq8 hoq hgq hvq
     have hS2 := HSS.out.appP (fun e => by cases e) hoq hgq hvq
     refine hK.out _ _ hS2.cells (fun hHeld2 => ?_)
     clear hHeld hK K; have hHeld := hHeld2; clear hHeld2; try simp only [Act.put, zp1, zp2, zp3]
     have HSS2 := Lib.hid hS2
     clear HSS hS2 hoq hgq hvq
     have HSS := HSS2
     clear HSS2
     have hpl := HSS.out.plan _ rfl
     simp only at hpl
     rw [Nat.zero_add, List.nil_append] at hpl
     obtain ⟨a2, c2, rfl⟩ := own_len9 hpl
     clear hpl
     refine take_y 5 11 (v := ?_) rfl ?_ ?_; rotate_left; focus (intro w hSw; (try dsimp only at hSw); go_simp; (try rw [if_neg (by omega)]); (try with_reducible rfl))
     try simp only [Act.put, zp1, zp2, zp3]
     refine wpAnyH_ready (rs := [6]) (by kernel_rfl) (by simp) ?_
     refine AllReadyH.cons rfl (fun K hK => ?_) AllReadyH.nil
     go_simp
     have hS2 := HSS.out.newN
     refine hK.out _ _ hS2.cells (fun hHeld2 => ?_)
     clear hHeld hK K; have hHeld := hHeld2; clear hHeld2; try simp only [Act.put, zp1, zp2, zp3]
     have HSS2 := Lib.hid hS2
     clear HSS hS2
     have HSS := HSS2
     clear HSS2
     generalize World.alloc wq8 (.cells #[.int .i64 0, .int .i64 0, .int .i64 0, .slice none 0 0, .slice none 0 0] 33) = W9 at HSS hHeld ⊢
     generalize wq8.heap.size = b9 at HSS hHeld ⊢
     have hS := HSS.out
     obtain ⟨hN, hNb⟩ := hS.nxt _ rfl
     have hpl := hS.plan _ rfl
     have hcl := hS.calls _ rfl
     simp only at hpl hcl
     rw [Nat.zero_add, List.nil_append] at hpl
     have hap := hS.apart _ _ rfl rfl
     have hnp := hS.np _ _ rfl rfl
     have hnc := hS.nc _ _ rfl rfl
     simp only at hap hnp hnc
     have HB3 := Lib.hid hS.box
     have HR3 := Lib.hid hS.res
     have HBE := Lib.hid hS.bel
     have HN := Lib.hid hN
     have HPL := Lib.hid hpl
     have HCL := Lib.hid hcl
     have HAP := Lib.hid hap
     have HNP := Lib.hid hnp
     have HNC := Lib.hid hnc
     have HNB := Lib.hid hNb
     clear hS HSS hN hpl hcl hap hnp hnc hNb
     obtain ⟨p0, p1, p2, -, -, -, plt⟩ := HB3.out.three
     obtain ⟨r0, r1, r2, r3, r4, f0, f1, f2, f3, f4, rlt⟩ := HN.out.five
     refine wpAnyH_ready (rs := [7]) (by kernel_rfl) (by simp) ?_
     refine AllReadyH.cons rfl (fun K hK => ?_) AllReadyH.nil
     go_simp
     have hnb := HNB.out
     refine hK.out _ _ (by (try dsimp only); obtain ⟨q0, q1, q2, -⟩ := (five_low (y0 := .int .i64 O) (y1 := .int .i64 E) (y2 := .int .i64 M) (y3 := .slice a2 ps.length c2) (y4 := _) HB3.out (show w.heap.size ≠ b9 by omega)).three; exact ⟨q0, q1, q2⟩) (fun hHeld2 => ?_)
     clear hHeld hK K; have hHeld := hHeld2; clear hHeld2; try simp only [Act.put, zp1, zp2, zp3]
     refine wpAnyH_done (by kernel_rfl) ?_ _
     clear hHeld
     go_wp2_with fail
     go_meet
     exact ⟨_, _, _, rfl, five_set HN.out, HPL.out.kept (five_gb _ _ _ _ _ _ _) HNP.out, HCL.out.kept (five_gb _ _ _ _ _ _ _) HNC.out, HAP.out, by omega, five_below _ _ _ _ _ HBE.out (by omega), five_low HR3.out (show w.heap.size + 1 ≠ b9 by omega)⟩
    ·
     go_simp
     have hS2 := HSS.out.newN
     refine hK.out _ _ hS2.cells (fun hHeld2 => ?_)
     clear hHeld hK K; have hHeld := hHeld2; clear hHeld2; try simp only [Act.put, zp1, zp2, zp3]
     have HSS2 := Lib.hid hS2
     clear HSS hS2
     have HSS := HSS2
     clear HSS2
     generalize World.alloc W7 (.cells #[.int .i64 0, .int .i64 0, .int .i64 0, .slice none 0 0, .slice none 0 0] 33) = W10 at HSS hHeld ⊢
     generalize W7.heap.size = b10 at HSS hHeld ⊢
     refine wpAnyH_ready (rs := [3]) (by kernel_rfl) (by simp) ?_
     refine AllReadyH.cons rfl (fun K hK => ?_) AllReadyH.nil
     refine step_append_rds _ (by rfl) _ _ _ (by rfl) (w.heap.size + 2) 9 j0 _ 1 16 Try.underlying24 hj hy0 hy1 hy2 rfl (by decide) _ 0 [] (by rfl) (HSS.out.plan _ rfl) _ ps.length (strs ps) (by rfl) (HV.out.below HSS.out.bel) (strs_one8 ps) (by unfold maxLen; omega) (by omega) HSS.out.big ?_
     intro vq wq11 hoq hgq hvq
     have hS2 := HSS.out.appP (fun e => by cases e) hoq hgq hvq
     refine hK.out _ _ hS2.cells (fun hHeld2 => ?_)
     clear hHeld hK K; have hHeld := hHeld2; clear hHeld2; try simp only [Act.put, zp1, zp2, zp3]
     have HSS2 := Lib.hid hS2
     clear HSS hS2 hoq hgq hvq
     have HSS := HSS2
     clear HSS2
     have hpl := HSS.out.plan _ rfl
     simp only at hpl
     rw [Nat.zero_add, List.nil_append] at hpl
     obtain ⟨a2, c2, rfl⟩ := own_len9 hpl
     clear hpl
     refine take_y 5 11 (v := ?_) rfl ?_ ?_; rotate_left; focus (intro w hSw; (try dsimp only at hSw); go_simp; (try rw [if_neg (by omega)]); (try with_reducible rfl))
     try simp only [Act.put, zp1, zp2, zp3]
     have hS := HSS.out
     obtain ⟨hN, hNb⟩ := hS.nxt _ rfl
     have hpl := hS.plan _ rfl
     have hcl := hS.calls _ rfl
     simp only at hpl hcl
     rw [Nat.zero_add, List.nil_append] at hpl
     have hap := hS.apart _ _ rfl rfl
     have hnp := hS.np _ _ rfl rfl
     have hnc := hS.nc _ _ rfl rfl
     simp only at hap hnp hnc
     have HB3 := Lib.hid hS.box
     have HR3 := Lib.hid hS.res
     have HBE := Lib.hid hS.bel
     have HN := Lib.hid hN
     have HPL := Lib.hid hpl
     have HCL := Lib.hid hcl
     have HAP := Lib.hid hap
     have HNP := Lib.hid hnp
     have HNC := Lib.hid hnc
     have HNB := Lib.hid hNb
     clear hS HSS hN hpl hcl hap hnp hnc hNb
     obtain ⟨p0, p1, p2, -, -, -, plt⟩ := HB3.out.three
     obtain ⟨r0, r1, r2, r3, r4, f0, f1, f2, f3, f4, rlt⟩ := HN.out.five
     refine wpAnyH_ready (rs := [7]) (by kernel_rfl) (by simp) ?_
     refine AllReadyH.cons rfl (fun K hK => ?_) AllReadyH.nil
     go_simp
     have hnb := HNB.out
     refine hK.out _ _ (by (try dsimp only); obtain ⟨q0, q1, q2, -⟩ := (five_low (y0 := .int .i64 O) (y1 := .int .i64 E) (y2 := .int .i64 M) (y3 := .slice a2 ps.length c2) (y4 := _) HB3.out (show w.heap.size ≠ b10 by omega)).three; exact ⟨q0, q1, q2⟩) (fun hHeld2 => ?_)
     clear hHeld hK K; have hHeld := hHeld2; clear hHeld2; try simp only [Act.put, zp1, zp2, zp3]
     refine wpAnyH_done (by kernel_rfl) ?_ _
     clear hHeld
     go_wp2_with fail
     go_meet
     exact ⟨_, _, _, rfl, five_set HN.out, HPL.out.kept (five_gb _ _ _ _ _ _ _) HNP.out, HCL.out.kept (five_gb _ _ _ _ _ _ _) HNC.out, HAP.out, by omega, five_below _ _ _ _ _ HBE.out (by omega), five_low HR3.out (show w.heap.size + 1 ≠ b10 by omega)⟩
   ·
    go_simp
    have hS2 := HSS.out.newN
    refine hK.out _ _ hS2.cells (fun hHeld2 => ?_)
    clear hHeld hK K; have hHeld := hHeld2; clear hHeld2; try simp only [Act.put, zp1, zp2, zp3]
    have HSS2 := Lib.hid hS2
    clear HSS hS2
    have HSS := HSS2
    clear HSS2
    generalize World.alloc W1 (.cells #[.int .i64 0, .int .i64 0, .int .i64 0, .slice none 0 0, .slice none 0 0] 33) = W12 at HSS hHeld ⊢
    generalize W1.heap.size = b12 at HSS hHeld ⊢
    refine wpAnyH_ready (rs := [3, 4]) (by kernel_rfl) (by simp) ?_
    refine AllReadyH.cons rfl (fun K hK => ?_) (AllReadyH.cons rfl (fun K hK => ?_) AllReadyH.nil)
    ·
     refine step_append_rds _ (by rfl) _ _ _ (by rfl) (w.heap.size + 2) 9 j0 _ 1 16 Try.underlying24 hj hy0 hy1 hy2 rfl (by decide) _ 0 [] (by rfl) (HSS.out.plan _ rfl) _ ps.length (strs ps) (by rfl) (HV.out.below HSS.out.bel) (strs_one8 ps) (by unfold maxLen; omega) (by omega) HSS.out.big ?_
     intro vq wq13 hoq hgq hvq
     have hS2 := HSS.out.appP (fun e => by cases e) hoq hgq hvq
     refine hK.out _ _ hS2.cells (fun hHeld2 => ?_)
     clear hHeld hK K; have hHeld := hHeld2; clear hHeld2; try simp only [Act.put, zp1, zp2, zp3]
     have HSS2 := Lib.hid hS2
     clear HSS hS2 hoq hgq hvq
     have HSS := HSS2
     clear HSS2
     refine wpAnyH_ready (rs := [4]) (by kernel_rfl) (by simp) ?_
     refine AllReadyH.cons rfl (fun K hK => ?_) AllReadyH.nil
     go_simp
     have hS2 := HSS.out.newC
     refine hK.out _ _ hS2.cells (fun hHeld2 => ?_)
     clear hHeld hK K; have hHeld := hHeld2; clear hHeld2; try simp only [Act.put, zp1, zp2, zp3]
     have HSS2 := Lib.hid hS2
     clear HSS hS2
     have HSS := HSS2
     clear HSS2
     generalize World.alloc wq13 (.cells #[] 57) = W14 at HSS hHeld ⊢
     generalize wq13.heap.size = b14 at HSS hHeld ⊢
     have hpl := HSS.out.plan _ rfl
     simp only at hpl
     rw [Nat.zero_add, List.nil_append] at hpl
     obtain ⟨a2, c2, rfl⟩ := own_len9 hpl
     clear hpl
     refine take_y 5 11 (v := ?_) rfl ?_ ?_; rotate_left; focus (intro w hSw; (try dsimp only at hSw); go_simp; (try rw [if_neg (by omega)]); (try with_reducible rfl))
     try simp only [Act.put, zp1, zp2, zp3]
     have hS := HSS.out
     obtain ⟨hN, hNb⟩ := hS.nxt _ rfl
     have hpl := hS.plan _ rfl
     have hcl := hS.calls _ rfl
     simp only at hpl hcl
     rw [Nat.zero_add, List.nil_append] at hpl
     have hap := hS.apart _ _ rfl rfl
     have hnp := hS.np _ _ rfl rfl
     have hnc := hS.nc _ _ rfl rfl
     simp only at hap hnp hnc
     have HB3 := Lib.hid hS.box
     have HR3 := Lib.hid hS.res
     have HBE := Lib.hid hS.bel
     have HN := Lib.hid hN
     have HPL := Lib.hid hpl
     have HCL := Lib.hid hcl
     have HAP := Lib.hid hap
     have HNP := Lib.hid hnp
     have HNC := Lib.hid hnc
     have HNB := Lib.hid hNb
     clear hS HSS hN hpl hcl hap hnp hnc hNb
     obtain ⟨p0, p1, p2, -, -, -, plt⟩ := HB3.out.three
     obtain ⟨r0, r1, r2, r3, r4, f0, f1, f2, f3, f4, rlt⟩ := HN.out.five
     refine wpAnyH_ready (rs := [7]) (by kernel_rfl) (by simp) ?_
     refine AllReadyH.cons rfl (fun K hK => ?_) AllReadyH.nil
     go_simp
     have hnb := HNB.out
     refine hK.out _ _ (by (try dsimp only); obtain ⟨q0, q1, q2, -⟩ := (five_low (y0 := .int .i64 O) (y1 := .int .i64 E) (y2 := .int .i64 M) (y3 := .slice a2 ps.length c2) (y4 := _) HB3.out (show w.heap.size ≠ b12 by omega)).three; exact ⟨q0, q1, q2⟩) (fun hHeld2 => ?_)
     clear hHeld hK K; have hHeld := hHeld2; clear hHeld2; try simp only [Act.put, zp1, zp2, zp3]
     refine wpAnyH_done (by kernel_rfl) ?_ _
     clear hHeld
     go_wp2_with fail
     go_meet
     exact ⟨_, _, _, rfl, five_set HN.out, HPL.out.kept (five_gb _ _ _ _ _ _ _) HNP.out, HCL.out.kept (five_gb _ _ _ _ _ _ _) HNC.out, HAP.out, by omega, five_below _ _ _ _ _ HBE.out (by omega), five_low HR3.out (show w.heap.size + 1 ≠ b12 by omega)⟩
    ·
     go_simp
     have hS2 := HSS.out.newC
     refine hK.out _ _ hS2.cells (fun hHeld2 => ?_)
     clear hHeld hK K; have hHeld := hHeld2; clear hHeld2; try simp only [Act.put, zp1, zp2, zp3]
     have HSS2 := Lib.hid hS2
     clear HSS hS2
     have HSS := HSS2
     clear HSS2
     generalize World.alloc W12 (.cells #[] 57) = W15 at HSS hHeld ⊢
     generalize W12.heap.size = b15 at HSS hHeld ⊢
     refine wpAnyH_ready (rs := [3]) (by kernel_rfl) (by simp) ?_
     refine AllReadyH.cons rfl (fun K hK => ?_) AllReadyH.nil
     refine step_append_rds _ (by rfl) _ _ _ (by rfl) (w.heap.size + 2) 9 j0 _ 1 16 Try.underlying24 hj hy0 hy1 hy2 rfl (by decide) _ 0 [] (by rfl) (HSS.out.plan _ rfl) _ ps.length (strs ps) (by rfl) (HV.out.below HSS.out.bel) (strs_one8 ps) (by unfold maxLen; omega) (by omega) HSS.out.big ?_
     intro vq wq16 hoq hgq hvq
     have hS2 := HSS.out.appP (fun e => by cases e) hoq hgq hvq
     refine hK.out _ _ hS2.cells (fun hHeld2 => ?_)
     clear hHeld hK K; have hHeld := hHeld2; clear hHeld2; try simp only [Act.put, zp1, zp2, zp3]
     have HSS2 := Lib.hid hS2
     clear HSS hS2 hoq hgq hvq
     have HSS := HSS2
     clear HSS2
     have hpl := HSS.out.plan _ rfl
     simp only at hpl
     rw [Nat.zero_add, List.nil_append] at hpl
     obtain ⟨a2, c2, rfl⟩ := own_len9 hpl
     clear hpl
     refine take_y 5 11 (v := ?_) rfl ?_ ?_; rotate_left; focus (intro w hSw; (try dsimp only at hSw); go_simp; (try rw [if_neg (by omega)]); (try with_reducible rfl))
     try simp only [Act.put, zp1, zp2, zp3]
     have hS := HSS.out
     obtain ⟨hN, hNb⟩ := hS.nxt _ rfl
     have hpl := hS.plan _ rfl
     have hcl := hS.calls _ rfl
     simp only at hpl hcl
     rw [Nat.zero_add, List.nil_append] at hpl
     have hap := hS.apart _ _ rfl rfl
     have hnp := hS.np _ _ rfl rfl
     have hnc := hS.nc _ _ rfl rfl
     simp only at hap hnp hnc
     have HB3 := Lib.hid hS.box
     have HR3 := Lib.hid hS.res
     have HBE := Lib.hid hS.bel
     have HN := Lib.hid hN
     have HPL := Lib.hid hpl
     have HCL := Lib.hid hcl
     have HAP := Lib.hid hap
     have HNP := Lib.hid hnp
     have HNC := Lib.hid hnc
     have HNB := Lib.hid hNb
     clear hS HSS hN hpl hcl hap hnp hnc hNb
     obtain ⟨p0, p1, p2, -, -, -, plt⟩ := HB3.out.three
     obtain ⟨r0, r1, r2, r3, r4, f0, f1, f2, f3, f4, rlt⟩ := HN.out.five
     refine wpAnyH_ready (rs := [7]) (by kernel_rfl) (by simp) ?_
     refine AllReadyH.cons rfl (fun K hK => ?_) AllReadyH.nil
     go_simp
     have hnb := HNB.out
     refine hK.out _ _ (by (try dsimp only); obtain ⟨q0, q1, q2, -⟩ := (five_low (y0 := .int .i64 O) (y1 := .int .i64 E) (y2 := .int .i64 M) (y3 := .slice a2 ps.length c2) (y4 := _) HB3.out (show w.heap.size ≠ b12 by omega)).three; exact ⟨q0, q1, q2⟩) (fun hHeld2 => ?_)
     clear hHeld hK K; have hHeld := hHeld2; clear hHeld2; try simp only [Act.put, zp1, zp2, zp3]
     refine wpAnyH_done (by kernel_rfl) ?_ _
     clear hHeld
     go_wp2_with fail
     go_meet
     exact ⟨_, _, _, rfl, five_set HN.out, HPL.out.kept (five_gb _ _ _ _ _ _ _) HNP.out, HCL.out.kept (five_gb _ _ _ _ _ _ _) HNC.out, HAP.out, by omega, five_below _ _ _ _ _ HBE.out (by omega), five_low HR3.out (show w.heap.size + 1 ≠ b12 by omega)⟩
  ·
   go_simp
   have hS2 := HSS.out.newC
   refine hK.out _ _ hS2.cells (fun hHeld2 => ?_)
   clear hHeld hK K; have hHeld := hHeld2; clear hHeld2; try simp only [Act.put, zp1, zp2, zp3]
   have HSS2 := Lib.hid hS2
   clear HSS hS2
   have HSS := HSS2
   clear HSS2
   generalize World.alloc W0 (.cells #[] 57) = W17 at HSS hHeld ⊢
   generalize W0.heap.size = b17 at HSS hHeld ⊢
   refine wpAnyH_ready (rs := [1, 6]) (by kernel_rfl) (by simp) ?_
   refine AllReadyH.cons rfl (fun K hK => ?_) (AllReadyH.cons rfl (fun K hK => ?_) AllReadyH.nil)
   ·
    go_simp
    have hS2 := HSS.out.newP
    refine hK.out _ _ hS2.cells (fun hHeld2 => ?_)
    clear hHeld hK K; have hHeld := hHeld2; clear hHeld2; try simp only [Act.put, zp1, zp2, zp3]
    have HSS2 := Lib.hid hS2
    clear HSS hS2
    have HSS := HSS2
    clear HSS2
    generalize World.alloc W17 (.cells #[] 9) = W18 at HSS hHeld ⊢
    generalize W17.heap.size = b18 at HSS hHeld ⊢
    refine wpAnyH_ready (rs := [3, 6]) (by kernel_rfl) (by simp) ?_
    refine AllReadyH.cons rfl (fun K hK => ?_) (AllReadyH.cons rfl (fun K hK => ?_) AllReadyH.nil)
    ·
     refine step_append_rds _ (by rfl) _ _ _ (by rfl) (w.heap.size + 2) 9 j0 _ 1 16 Try.underlying24 hj hy0 hy1 hy2 rfl (by decide) _ 0 [] (by rfl) (HSS.out.plan _ rfl) _ ps.length (strs ps) (by rfl) (HV.out.below HSS.out.bel) (strs_one8 ps) (by unfold maxLen; omega) (by omega) HSS.out.big ?_
     intro vq wq19 hoq hgq hvq
     have hS2 := HSS.out.appP (fun e => by cases e) hoq hgq hvq
     refine hK.out _ _ hS2.cells (fun hHeld2 => ?_)
     clear hHeld hK K; have hHeld := hHeld2; clear hHeld2; try simp only [Act.put, zp1, zp2, zp3]
     have HSS2 := Lib.hid hS2
     clear HSS hS2 hoq hgq hvq
     have HSS := HSS2
     clear HSS2
     have hpl := HSS.out.plan _ rfl
     simp only at hpl
     rw [Nat.zero_add, List.nil_append] at hpl
     obtain ⟨a2, c2, rfl⟩ := own_len9 hpl
     clear hpl
     refine take_y 5 11 (v := ?_) rfl ?_ ?_; rotate_left; focus (intro w hSw; (try dsimp only at hSw); go_simp; (try rw [if_neg (by omega)]); (try with_reducible rfl))
     try simp only [Act.put, zp1, zp2, zp3]
     refine wpAnyH_ready (rs := [6]) (by kernel_rfl) (by simp) ?_
     refine AllReadyH.cons rfl (fun K hK => ?_) AllReadyH.nil
     go_simp
     have hS2 := HSS.out.newN
     refine hK.out _ _ hS2.cells (fun hHeld2 => ?_)
     clear hHeld hK K; have hHeld := hHeld2; clear hHeld2; try simp only [Act.put, zp1, zp2, zp3]
     have HSS2 := Lib.hid hS2
     clear HSS hS2
     have HSS := HSS2
     clear HSS2
     generalize World.alloc wq19 (.cells #[.int .i64 0, .int .i64 0, .int .i64 0, .slice none 0 0, .slice none 0 0] 33) = W20 at HSS hHeld ⊢
     generalize wq19.heap.size = b20 at HSS hHeld ⊢
     have hS := HSS.out
     obtain ⟨hN, hNb⟩ := hS.nxt _ rfl
     have hpl := hS.plan _ rfl
     have hcl := hS.calls _ rfl
     simp only at hpl hcl
     rw [Nat.zero_add, List.nil_append] at hpl
     have hap := hS.apart _ _ rfl rfl
     have hnp := hS.np _ _ rfl rfl
     have hnc := hS.nc _ _ rfl rfl
     simp only at hap hnp hnc
     have HB3 := Lib.hid hS.box
     have HR3 := Lib.hid hS.res
     have HBE := Lib.hid hS.bel
     have HN := Lib.hid hN
     have HPL := Lib.hid hpl
     have HCL := Lib.hid hcl
     have HAP := Lib.hid hap
     have HNP := Lib.hid hnp
     have HNC := Lib.hid hnc
     have HNB := Lib.hid hNb
     clear hS HSS hN hpl hcl hap hnp hnc hNb
     obtain ⟨p0, p1, p2, -, -, -, plt⟩ := HB3.out.three
     obtain ⟨r0, r1, r2, r3, r4, f0, f1, f2, f3, f4, rlt⟩ := HN.out.five
     refine wpAnyH_ready (rs := [7]) (by kernel_rfl) (by simp) ?_
     refine AllReadyH.cons rfl (fun K hK => ?_) AllReadyH.nil
     go_simp
     have hnb := HNB.out
     refine hK.out _ _ (by (try dsimp only); obtain ⟨q0, q1, q2, -⟩ := (five_low (y0 := .int .i64 O) (y1 := .int .i64 E) (y2 := .int .i64 M) (y3 := .slice a2 ps.length c2) (y4 := _) HB3.out (show w.heap.size ≠ b20 by omega)).three; exact ⟨q0, q1, q2⟩) (fun hHeld2 => ?_)
     clear hHeld hK K; have hHeld := hHeld2; clear hHeld2; try simp only [Act.put, zp1, zp2, zp3]
     refine wpAnyH_done (by kernel_rfl) ?_ _
     clear hHeld
     go_wp2_with fail
     go_meet
     exact ⟨_, _, _, rfl, five_set HN.out, HPL.out.kept (five_gb _ _ _ _ _ _ _) HNP.out, HCL.out.kept (five_gb _ _ _ _ _ _ _) HNC.out, HAP.out, by omega, five_below _ _ _ _ _ HBE.out (by omega), five_low HR3.out (show w.heap.size + 1 ≠ b20 by omega)⟩
    ·
     go_simp
     have hS2 := HSS.out.newN
     refine hK.out _ _ hS2.cells (fun hHeld2 => ?_)
     clear hHeld hK K; have hHeld := hHeld2; clear hHeld2; try simp only [Act.put, zp1, zp2, zp3]
     have HSS2 := Lib.hid hS2
     clear HSS hS2
     have HSS := HSS2
     clear HSS2
     generalize World.alloc W18 (.cells #[.int .i64 0, .int .i64 0, .int .i64 0, .slice none 0 0, .slice none 0 0] 33) = W21 at HSS hHeld ⊢
     generalize W18.heap.size = b21 at HSS hHeld ⊢
     refine wpAnyH_ready (rs := [3]) (by kernel_rfl) (by simp) ?_
     refine AllReadyH.cons rfl (fun K hK => ?_) AllReadyH.nil
     refine step_append_rds _ (by rfl) _ _ _ (by rfl) (w.heap.size + 2) 9 j0 _ 1 16 Try.underlying24 hj hy0 hy1 hy2 rfl (by decide) _ 0 [] (by rfl) (HSS.out.plan _ rfl) _ ps.length (strs ps) (by rfl) (HV.out.below HSS.out.bel) (strs_one8 ps) (by unfold maxLen; omega) (by omega) HSS.out.big ?_
     intro vq wq22 hoq hgq hvq
     have hS2 := HSS.out.appP (fun e => by cases e) hoq hgq hvq
     refine hK.out _ _ hS2.cells (fun hHeld2 => ?_)
     clear hHeld hK K; have hHeld := hHeld2; clear hHeld2; try simp only [Act.put, zp1, zp2, zp3]
     have HSS2 := Lib.hid hS2
     clear HSS hS2 hoq hgq hvq
     have HSS := HSS2
     clear HSS2
     have hpl := HSS.out.plan _ rfl
     simp only at hpl
     rw [Nat.zero_add, List.nil_append] at hpl
     obtain ⟨a2, c2, rfl⟩ := own_len9 hpl
     clear hpl
     refine take_y 5 11 (v := ?_) rfl ?_ ?_; rotate_left; focus (intro w hSw; (try dsimp only at hSw); go_simp; (try rw [if_neg (by omega)]); (try with_reducible rfl))
     try simp only [Act.put, zp1, zp2, zp3]
     have hS := HSS.out
     obtain ⟨hN, hNb⟩ := hS.nxt _ rfl
     have hpl := hS.plan _ rfl
     have hcl := hS.calls _ rfl
     simp only at hpl hcl
     rw [Nat.zero_add, List.nil_append] at hpl
     have hap := hS.apart _ _ rfl rfl
     have hnp := hS.np _ _ rfl rfl
     have hnc := hS.nc _ _ rfl rfl
     simp only at hap hnp hnc
     have HB3 := Lib.hid hS.box
     have HR3 := Lib.hid hS.res
     have HBE := Lib.hid hS.bel
     have HN := Lib.hid hN
     have HPL := Lib.hid hpl
     have HCL := Lib.hid hcl
     have HAP := Lib.hid hap
     have HNP := Lib.hid hnp
     have HNC := Lib.hid hnc
     have HNB := Lib.hid hNb
     clear hS HSS hN hpl hcl hap hnp hnc hNb
     obtain ⟨p0, p1, p2, -, -, -, plt⟩ := HB3.out.three
     obtain ⟨r0, r1, r2, r3, r4, f0, f1, f2, f3, f4, rlt⟩ := HN.out.five
     refine wpAnyH_ready (rs := [7]) (by kernel_rfl) (by simp) ?_
     refine AllReadyH.cons rfl (fun K hK => ?_) AllReadyH.nil
     go_simp
     have hnb := HNB.out
     refine hK.out _ _ (by (try dsimp only); obtain ⟨q0, q1, q2, -⟩ := (five_low (y0 := .int .i64 O) (y1 := .int .i64 E) (y2 := .int .i64 M) (y3 := .slice a2 ps.length c2) (y4 := _) HB3.out (show w.heap.size ≠ b21 by omega)).three; exact ⟨q0, q1, q2⟩) (fun hHeld2 => ?_)
     clear hHeld hK K; have hHeld := hHeld2; clear hHeld2; try simp only [Act.put, zp1, zp2, zp3]
     refine wpAnyH_done (by kernel_rfl) ?_ _
     clear hHeld
     go_wp2_with fail
     go_meet
     exact ⟨_, _, _, rfl, five_set HN.out, HPL.out.kept (five_gb _ _ _ _ _ _ _) HNP.out, HCL.out.kept (five_gb _ _ _ _ _ _ _) HNC.out, HAP.out, by omega, five_below _ _ _ _ _ HBE.out (by omega), five_low HR3.out (show w.heap.size + 1 ≠ b21 by omega)⟩
   ·
    go_simp
    have hS2 := HSS.out.newN
    refine hK.out _ _ hS2.cells (fun hHeld2 => ?_)
    clear hHeld hK K; have hHeld := hHeld2; clear hHeld2; try simp only [Act.put, zp1, zp2, zp3]
    have HSS2 := Lib.hid hS2
    clear HSS hS2
    have HSS := HSS2
    clear HSS2
    generalize World.alloc W17 (.cells #[.int .i64 0, .int .i64 0, .int .i64 0, .slice none 0 0, .slice none 0 0] 33) = W23 at HSS hHeld ⊢
    generalize W17.heap.size = b23 at HSS hHeld ⊢
    refine wpAnyH_ready (rs := [1]) (by kernel_rfl) (by simp) ?_
    refine AllReadyH.cons rfl (fun K hK => ?_) AllReadyH.nil
    go_simp
    have hS2 := HSS.out.newP
    refine hK.out _ _ hS2.cells (fun hHeld2 => ?_)
    clear hHeld hK K; have hHeld := hHeld2; clear hHeld2; try simp only [Act.put, zp1, zp2, zp3]
    have HSS2 := Lib.hid hS2
    clear HSS hS2
    have HSS := HSS2
    clear HSS2
    generalize World.alloc W23 (.cells #[] 9) = W24 at HSS hHeld ⊢
    generalize W23.heap.size = b24 at HSS hHeld ⊢
    refine wpAnyH_ready (rs := [3]) (by kernel_rfl) (by simp) ?_
    refine AllReadyH.cons rfl (fun K hK => ?_) AllReadyH.nil
    refine step_append_rds _ (by rfl) _ _ _ (by rfl) (w.heap.size + 2) 9 j0 _ 1 16 Try.underlying24 hj hy0 hy1 hy2 rfl (by decide) _ 0 [] (by rfl) (HSS.out.plan _ rfl) _ ps.length (strs ps) (by rfl) (HV.out.below HSS.out.bel) (strs_one8 ps) (by unfold maxLen; omega) (by omega) HSS.out.big ?_
    intro vq wq25 hoq hgq hvq
    have hS2 := HSS.out.appP (fun e => by cases e) hoq hgq hvq
    refine hK.out _ _ hS2.cells (fun hHeld2 => ?_)
    clear hHeld hK K; have hHeld := hHeld2; clear hHeld2; try simp only [Act.put, zp1, zp2, zp3]
    have HSS2 := Lib.hid hS2
    clear HSS hS2 hoq hgq hvq
    have HSS := HSS2
    clear HSS2
    have hpl := HSS.out.plan _ rfl
    simp only at hpl
    rw [Nat.zero_add, List.nil_append] at hpl
    obtain ⟨a2, c2, rfl⟩ := own_len9 hpl
    clear hpl
    refine take_y 5 11 (v := ?_) rfl ?_ ?_; rotate_left; focus (intro w hSw; (try dsimp only at hSw); go_simp; (try rw [if_neg (by omega)]); (try with_reducible rfl))
    try simp only [Act.put, zp1, zp2, zp3]
    have hS := HSS.out
    obtain ⟨hN, hNb⟩ := hS.nxt _ rfl
    have hpl := hS.plan _ rfl
    have hcl := hS.calls _ rfl
    simp only at hpl hcl
    rw [Nat.zero_add, List.nil_append] at hpl
    have hap := hS.apart _ _ rfl rfl
    have hnp := hS.np _ _ rfl rfl
    have hnc := hS.nc _ _ rfl rfl
    simp only at hap hnp hnc
    have HB3 := Lib.hid hS.box
    have HR3 := Lib.hid hS.res
    have HBE := Lib.hid hS.bel
    have HN := Lib.hid hN
    have HPL := Lib.hid hpl
    have HCL := Lib.hid hcl
    have HAP := Lib.hid hap
    have HNP := Lib.hid hnp
    have HNC := Lib.hid hnc
    have HNB := Lib.hid hNb
    clear hS HSS hN hpl hcl hap hnp hnc hNb
    obtain ⟨p0, p1, p2, -, -, -, plt⟩ := HB3.out.three
    obtain ⟨r0, r1, r2, r3, r4, f0, f1, f2, f3, f4, rlt⟩ := HN.out.five
    refine wpAnyH_ready (rs := [7]) (by kernel_rfl) (by simp) ?_
    refine AllReadyH.cons rfl (fun K hK => ?_) AllReadyH.nil
    go_simp
    have hnb := HNB.out
    refine hK.out _ _ (by (try dsimp only); obtain ⟨q0, q1, q2, -⟩ := (five_low (y0 := .int .i64 O) (y1 := .int .i64 E) (y2 := .int .i64 M) (y3 := .slice a2 ps.length c2) (y4 := _) HB3.out (show w.heap.size ≠ b23 by omega)).three; exact ⟨q0, q1, q2⟩) (fun hHeld2 => ?_)
    clear hHeld hK K; have hHeld := hHeld2; clear hHeld2; try simp only [Act.put, zp1, zp2, zp3]
    refine wpAnyH_done (by kernel_rfl) ?_ _
    clear hHeld
    go_wp2_with fail
    go_meet
    exact ⟨_, _, _, rfl, five_set HN.out, HPL.out.kept (five_gb _ _ _ _ _ _ _) HNP.out, HCL.out.kept (five_gb _ _ _ _ _ _ _) HNC.out, HAP.out, by omega, five_below _ _ _ _ _ HBE.out (by omega), five_low HR3.out (show w.heap.size + 1 ≠ b23 by omega)⟩
  ·
   go_simp
   have hS2 := HSS.out.newN
   refine hK.out _ _ hS2.cells (fun hHeld2 => ?_)
   clear hHeld hK K; have hHeld := hHeld2; clear hHeld2; try simp only [Act.put, zp1, zp2, zp3]
   have HSS2 := Lib.hid hS2
   clear HSS hS2
   have HSS := HSS2
   clear HSS2
   generalize World.alloc W0 (.cells #[.int .i64 0, .int .i64 0, .int .i64 0, .slice none 0 0, .slice none 0 0] 33) = W26 at HSS hHeld ⊢
   generalize W0.heap.size = b26 at HSS hHeld ⊢
   refine wpAnyH_ready (rs := [1, 4]) (by kernel_rfl) (by simp) ?_
   refine AllReadyH.cons rfl (fun K hK => ?_) (AllReadyH.cons rfl (fun K hK => ?_) AllReadyH.nil)
   ·
    go_simp
    have hS2 := HSS.out.newP
    refine hK.out _ _ hS2.cells (fun hHeld2 => ?_)
    clear hHeld hK K; have hHeld := hHeld2; clear hHeld2; try simp only [Act.put, zp1, zp2, zp3]
    have HSS2 := Lib.hid hS2
    clear HSS hS2
    have HSS := HSS2
    clear HSS2
    generalize World.alloc W26 (.cells #[] 9) = W27 at HSS hHeld ⊢
    generalize W26.heap.size = b27 at HSS hHeld ⊢
    refine wpAnyH_ready (rs := [3, 4]) (by kernel_rfl) (by simp) ?_
    refine AllReadyH.cons rfl (fun K hK => ?_) (AllReadyH.cons rfl (fun K hK => ?_) AllReadyH.nil)
    ·
     refine step_append_rds _ (by rfl) _ _ _ (by rfl) (w.heap.size + 2) 9 j0 _ 1 16 Try.underlying24 hj hy0 hy1 hy2 rfl (by decide) _ 0 [] (by rfl) (HSS.out.plan _ rfl) _ ps.length (strs ps) (by rfl) (HV.out.below HSS.out.bel) (strs_one8 ps) (by unfold maxLen; omega) (by omega) HSS.out.big ?_
     intro vq wq28 hoq hgq hvq
     have hS2 := HSS.out.appP (fun e => by cases e) hoq hgq hvq
     refine hK.out _ _ hS2.cells (fun hHeld2 => ?_)
     clear hHeld hK K; have hHeld := hHeld2; clear hHeld2; try simp only [Act.put, zp1, zp2, zp3]
     have HSS2 := Lib.hid hS2
     clear HSS hS2 hoq hgq hvq
     have HSS := HSS2
     clear HSS2
     refine wpAnyH_ready (rs := [4]) (by kernel_rfl) (by simp) ?_
     refine AllReadyH.cons rfl (fun K hK => ?_) AllReadyH.nil
     go_simp
     have hS2 := HSS.out.newC
     refine hK.out _ _ hS2.cells (fun hHeld2 => ?_)
     clear hHeld hK K; have hHeld := hHeld2; clear hHeld2; try simp only [Act.put, zp1, zp2, zp3]
     have HSS2 := Lib.hid hS2
     clear HSS hS2
     have HSS := HSS2
     clear HSS2
     generalize World.alloc wq28 (.cells #[] 57) = W29 at HSS hHeld ⊢
     generalize wq28.heap.size = b29 at HSS hHeld ⊢
     have hpl := HSS.out.plan _ rfl
     simp only at hpl
     rw [Nat.zero_add, List.nil_append] at hpl
     obtain ⟨a2, c2, rfl⟩ := own_len9 hpl
     clear hpl
     refine take_y 5 11 (v := ?_) rfl ?_ ?_; rotate_left; focus (intro w hSw; (try dsimp only at hSw); go_simp; (try rw [if_neg (by omega)]); (try with_reducible rfl))
     try simp only [Act.put, zp1, zp2, zp3]
     have hS := HSS.out
     obtain ⟨hN, hNb⟩ := hS.nxt _ rfl
     have hpl := hS.plan _ rfl
     have hcl := hS.calls _ rfl
     simp only at hpl hcl
     rw [Nat.zero_add, List.nil_append] at hpl
     have hap := hS.apart _ _ rfl rfl
     have hnp := hS.np _ _ rfl rfl
     have hnc := hS.nc _ _ rfl rfl
     simp only at hap hnp hnc
     have HB3 := Lib.hid hS.box
     have HR3 := Lib.hid hS.res
     have HBE := Lib.hid hS.bel
     have HN := Lib.hid hN
     have HPL := Lib.hid hpl
     have HCL := Lib.hid hcl
     have HAP := Lib.hid hap
     have HNP := Lib.hid hnp
     have HNC := Lib.hid hnc
     have HNB := Lib.hid hNb
     clear hS HSS hN hpl hcl hap hnp hnc hNb
     obtain ⟨p0, p1, p2, -, -, -, plt⟩ := HB3.out.three
     obtain ⟨r0, r1, r2, r3, r4, f0, f1, f2, f3, f4, rlt⟩ := HN.out.five
     refine wpAnyH_ready (rs := [7]) (by kernel_rfl) (by simp) ?_
     refine AllReadyH.cons rfl (fun K hK => ?_) AllReadyH.nil
     go_simp
     have hnb := HNB.out
     refine hK.out _ _ (by (try dsimp only); obtain ⟨q0, q1, q2, -⟩ := (five_low (y0 := .int .i64 O) (y1 := .int .i64 E) (y2 := .int .i64 M) (y3 := .slice a2 ps.length c2) (y4 := _) HB3.out (show w.heap.size ≠ b26 by omega)).three; exact ⟨q0, q1, q2⟩) (fun hHeld2 => ?_)
     clear hHeld hK K; have hHeld := hHeld2; clear hHeld2; try simp only [Act.put, zp1, zp2, zp3]
     refine wpAnyH_done (by kernel_rfl) ?_ _
     clear hHeld
     go_wp2_with fail
     go_meet
     exact ⟨_, _, _, rfl, five_set HN.out, HPL.out.kept (five_gb _ _ _ _ _ _ _) HNP.out, HCL.out.kept (five_gb _ _ _ _ _ _ _) HNC.out, HAP.out, by omega, five_below _ _ _ _ _ HBE.out (by omega), five_low HR3.out (show w.heap.size + 1 ≠ b26 by omega)⟩
    ·
     go_simp
     have hS2 := HSS.out.newC
     refine hK.out _ _ hS2.cells (fun hHeld2 => ?_)
     clear hHeld hK K; have hHeld := hHeld2; clear hHeld2; try simp only [Act.put, zp1, zp2, zp3]
     have HSS2 := Lib.hid hS2
     clear HSS hS2
     have HSS := HSS2
     clear HSS2
     generalize World.alloc W27 (.cells #[] 57) = W30 at HSS hHeld ⊢
     generalize W27.heap.size = b30 at HSS hHeld ⊢
     refine wpAnyH_ready (rs := [3]) (by kernel_rfl) (by simp) ?_
     refine AllReadyH.cons rfl (fun K hK => ?_) AllReadyH.nil
     refine step_append_rds _ (by rfl) _ _ _ (by rfl) (w.heap.size + 2) 9 j0 _ 1 16 Try.underlying24 hj hy0 hy1 hy2 rfl (by decide) _ 0 [] (by rfl) (HSS.out.plan _ rfl) _ ps.length (strs ps) (by rfl) (HV.out.below HSS.out.bel) (strs_one8 ps) (by unfold maxLen; omega) (by omega) HSS.out.big ?_
     intro vq wq31 hoq hgq hvq
     have hS2 := HSS.out.appP (fun e => by cases e) hoq hgq hvq
     refine hK.out _ _ hS2.cells (fun hHeld2 => ?_)
     clear hHeld hK K; have hHeld := hHeld2; clear hHeld2; try simp only [Act.put, zp1, zp2, zp3]
     have HSS2 := Lib.hid hS2
     clear HSS hS2 hoq hgq hvq
     have HSS := HSS2
     clear HSS2
     have hpl := HSS.out.plan _ rfl
     simp only at hpl
     rw [Nat.zero_add, List.nil_append] at hpl
     obtain ⟨a2, c2, rfl⟩ := own_len9 hpl
     clear hpl
     refine take_y 5 11 (v := ?_) rfl ?_ ?_; rotate_left; focus (intro w hSw; (try dsimp only at hSw); go_simp; (try rw [if_neg (by omega)]); (try with_reducible rfl))
     try simp only [Act.put, zp1, zp2, zp3]
     have hS := HSS.out
     obtain ⟨hN, hNb⟩ := hS.nxt _ rfl
     have hpl := hS.plan _ rfl
     have hcl := hS.calls _ rfl
     simp only at hpl hcl
     rw [Nat.zero_add, List.nil_append] at hpl
     have hap := hS.apart _ _ rfl rfl
     have hnp := hS.np _ _ rfl rfl
     have hnc := hS.nc _ _ rfl rfl
     simp only at hap hnp hnc
     have HB3 := Lib.hid hS.box
     have HR3 := Lib.hid hS.res
     have HBE := Lib.hid hS.bel
     have HN := Lib.hid hN
     have HPL := Lib.hid hpl
     have HCL := Lib.hid hcl
     have HAP := Lib.hid hap
     have HNP := Lib.hid hnp
     have HNC := Lib.hid hnc
     have HNB := Lib.hid hNb
     clear hS HSS hN hpl hcl hap hnp hnc hNb
     obtain ⟨p0, p1, p2, -, -, -, plt⟩ := HB3.out.three
     obtain ⟨r0, r1, r2, r3, r4, f0, f1, f2, f3, f4, rlt⟩ := HN.out.five
     refine wpAnyH_ready (rs := [7]) (by kernel_rfl) (by simp) ?_
     refine AllReadyH.cons rfl (fun K hK => ?_) AllReadyH.nil
     go_simp
     have hnb := HNB.out
     refine hK.out _ _ (by (try dsimp only); obtain ⟨q0, q1, q2, -⟩ := (five_low (y0 := .int .i64 O) (y1 := .int .i64 E) (y2 := .int .i64 M) (y3 := .slice a2 ps.length c2) (y4 := _) HB3.out (show w.heap.size ≠ b26 by omega)).three; exact ⟨q0, q1, q2⟩) (fun hHeld2 => ?_)
     clear hHeld hK K; have hHeld := hHeld2; clear hHeld2; try simp only [Act.put, zp1, zp2, zp3]
     refine wpAnyH_done (by kernel_rfl) ?_ _
     clear hHeld
     go_wp2_with fail
     go_meet
     exact ⟨_, _, _, rfl, five_set HN.out, HPL.out.kept (five_gb _ _ _ _ _ _ _) HNP.out, HCL.out.kept (five_gb _ _ _ _ _ _ _) HNC.out, HAP.out, by omega, five_below _ _ _ _ _ HBE.out (by omega), five_low HR3.out (show w.heap.size + 1 ≠ b26 by omega)⟩
   ·
    go_simp
    have hS2 := HSS.out.newC
    refine hK.out _ _ hS2.cells (fun hHeld2 => ?_)
    clear hHeld hK K; have hHeld := hHeld2; clear hHeld2; try simp only [Act.put, zp1, zp2, zp3]
    have HSS2 := Lib.hid hS2
    clear HSS hS2
    have HSS := HSS2
    clear HSS2
    generalize World.alloc W26 (.cells #[] 57) = W32 at HSS hHeld ⊢
    generalize W26.heap.size = b32 at HSS hHeld ⊢
    refine wpAnyH_ready (rs := [1]) (by kernel_rfl) (by simp) ?_
    refine AllReadyH.cons rfl (fun K hK => ?_) AllReadyH.nil
    go_simp
    have hS2 := HSS.out.newP
    refine hK.out _ _ hS2.cells (fun hHeld2 => ?_)
    clear hHeld hK K; have hHeld := hHeld2; clear hHeld2; try simp only [Act.put, zp1, zp2, zp3]
    have HSS2 := Lib.hid hS2
    clear HSS hS2
    have HSS := HSS2
    clear HSS2
    generalize World.alloc W32 (.cells #[] 9) = W33 at HSS hHeld ⊢
    generalize W32.heap.size = b33 at HSS hHeld ⊢
    refine wpAnyH_ready (rs := [3]) (by kernel_rfl) (by simp) ?_
    refine AllReadyH.cons rfl (fun K hK => ?_) AllReadyH.nil
    refine step_append_rds _ (by rfl) _ _ _ (by rfl) (w.heap.size + 2) 9 j0 _ 1 16 Try.underlying24 hj hy0 hy1 hy2 rfl (by decide) _ 0 [] (by rfl) (HSS.out.plan _ rfl) _ ps.length (strs ps) (by rfl) (HV.out.below HSS.out.bel) (strs_one8 ps) (by unfold maxLen; omega) (by omega) HSS.out.big ?_
    intro vq wq34 hoq hgq hvq
    have hS2 := HSS.out.appP (fun e => by cases e) hoq hgq hvq
    refine hK.out _ _ hS2.cells (fun hHeld2 => ?_)
    clear hHeld hK K; have hHeld := hHeld2; clear hHeld2; try simp only [Act.put, zp1, zp2, zp3]
    have HSS2 := Lib.hid hS2
    clear HSS hS2 hoq hgq hvq
    have HSS := HSS2
    clear HSS2
    have hpl := HSS.out.plan _ rfl
    simp only at hpl
    rw [Nat.zero_add, List.nil_append] at hpl
    obtain ⟨a2, c2, rfl⟩ := own_len9 hpl
    clear hpl
    refine take_y 5 11 (v := ?_) rfl ?_ ?_; rotate_left; focus (intro w hSw; (try dsimp only at hSw); go_simp; (try rw [if_neg (by omega)]); (try with_reducible rfl))
    try simp only [Act.put, zp1, zp2, zp3]
    have hS := HSS.out
    obtain ⟨hN, hNb⟩ := hS.nxt _ rfl
    have hpl := hS.plan _ rfl
    have hcl := hS.calls _ rfl
    simp only at hpl hcl
    rw [Nat.zero_add, List.nil_append] at hpl
    have hap := hS.apart _ _ rfl rfl
    have hnp := hS.np _ _ rfl rfl
    have hnc := hS.nc _ _ rfl rfl
    simp only at hap hnp hnc
    have HB3 := Lib.hid hS.box
    have HR3 := Lib.hid hS.res
    have HBE := Lib.hid hS.bel
    have HN := Lib.hid hN
    have HPL := Lib.hid hpl
    have HCL := Lib.hid hcl
    have HAP := Lib.hid hap
    have HNP := Lib.hid hnp
    have HNC := Lib.hid hnc
    have HNB := Lib.hid hNb
    clear hS HSS hN hpl hcl hap hnp hnc hNb
    obtain ⟨p0, p1, p2, -, -, -, plt⟩ := HB3.out.three
    obtain ⟨r0, r1, r2, r3, r4, f0, f1, f2, f3, f4, rlt⟩ := HN.out.five
    refine wpAnyH_ready (rs := [7]) (by kernel_rfl) (by simp) ?_
    refine AllReadyH.cons rfl (fun K hK => ?_) AllReadyH.nil
    go_simp
    have hnb := HNB.out
    refine hK.out _ _ (by (try dsimp only); obtain ⟨q0, q1, q2, -⟩ := (five_low (y0 := .int .i64 O) (y1 := .int .i64 E) (y2 := .int .i64 M) (y3 := .slice a2 ps.length c2) (y4 := _) HB3.out (show w.heap.size ≠ b26 by omega)).three; exact ⟨q0, q1, q2⟩) (fun hHeld2 => ?_)
    clear hHeld hK K; have hHeld := hHeld2; clear hHeld2; try simp only [Act.put, zp1, zp2, zp3]
    refine wpAnyH_done (by kernel_rfl) ?_ _
    clear hHeld
    go_wp2_with fail
    go_meet
    exact ⟨_, _, _, rfl, five_set HN.out, HPL.out.kept (five_gb _ _ _ _ _ _ _) HNP.out, HCL.out.kept (five_gb _ _ _ _ _ _ _) HNC.out, HAP.out, by omega, five_below _ _ _ _ _ HBE.out (by omega), five_low HR3.out (show w.heap.size + 1 ≠ b26 by omega)⟩
 case rest =>
  obtain ⟨be, v', v2, rfl, hBe, ho, hoc, hap, hbe, hbel, hR⟩ := hcut
  obtain ⟨a2, c2, rfl⟩ := own_len8 ho
  obtain ⟨a3, c3, rfl⟩ := own_len8 hoc
  obtain ⟨p0, p1, p2, p3, p4, -, -, -, -, -, plt⟩ := hBe.five
  clear t1 t2 t3 tlt
  go_wp2_with fail
  refine (sExchangeValid_any O E M _ _ ps [] _ ⟨Rds.ofOwns ho, Rds.ofOwns hoc⟩ HL.out).mono ?_
  rintro e w3 ⟨rfl, hb3⟩
  have hbel3 : Below w.heap.size w w3 := by (exact grownA)
  have hBe3 := hBe.belowAll hb3
  have hR3 := hR.belowAll hb3
  have hX3 : ExOwn w3 (w.heap.size + 2) (.slice a2 ps.length c2) (.slice a3 0 c3) ps [] := ⟨owns_below hb3 ho, owns_below hb3 hoc, hap⟩
  have HX := Lib.hid hX3
  clear hBe hR ho hoc hb3 hap hX3 p0 p1 p2 p3 p4 plt
  obtain ⟨p0, p1, p2, p3, p4, -, -, -, -, -, plt⟩ := hBe3.five
  obtain ⟨q0, q1, q2, q3, q4, k0, k1, k2, k3, k4, qlt⟩ := hR3.five
  obtain ⟨d, hd⟩ : ∃ d, exB O E M ps [] = d := ⟨_, rfl⟩
  have HD := Lib.hid hd
  rw [hd]
  clear hd
  cases d
  ·
   have HF : Hid (newE O E M ps = (0, 0, 0, [])) := by unfold Hid newE; rw [HD.out]; rfl
   go_wp2
   refine bodyPost_ret (v := .agg #[.int .i64 0, .int .i64 0, .int .i64 0, .slice none 0 0, .slice none 0 0]) (by simp [results, Try.results27, go_sem, q0, q1, q2, q3, q4]) rfl ?_
   unfold NewPost
   rw [HF.out]
   exact ⟨_, _, rfl, ExOwn.nothing _ _, by (exact grownA)⟩
  ·
   have HF : Hid (newE O E M ps = (O, E, M, ps)) := by unfold Hid newE; rw [HD.out]; rfl
   go_wp2
   obtain ⟨z0, z1, z2, z3, z4, -⟩ := (five_set (y0 := .int .i64 O) (y1 := .int .i64 E) (y2 := .int .i64 M) (y3 := .slice a2 ps.length c2) (y4 := .slice a3 0 c3) hR3).five
   refine bodyPost_ret (v := .agg #[.int .i64 O, .int .i64 E, .int .i64 M, .slice a2 ps.length c2, .slice a3 0 c3]) (by simp [results, Try.results27, go_sem, z0, z1, z2, z3, z4]) rfl ?_
   unfold NewPost
   rw [HF.out]
   exact ⟨_, _, rfl, (HX.out.result _ _ _ _ _ (by omega)).lower (by omega), five_below _ _ _ _ _ hbel3 (by omega)⟩

end Go.Proofs.Ytedadhoneebfnaa
