/- Joined texts: Cy, DoQ. -/
import Derived.Test.YtedadhoneebfnaaJ8
import Derived.Test.YtedadhoneebfnaaJ4
set_option linter.unusedSimpArgs false
set_option linter.unusedVariables false
/- Contract of l8Copy (reference). -/
namespace Go.Proofs.Ytedadhoneebfnaa
open Go.RowKit

/-- Where the making of a copy stands. -/
structure CpSt (w W : World) (O E M : Int) (vp vc : Value) (rp rc : Option (Value × Nat × List Value)) : Prop where
 bel : Below w.heap.size w W
 box : Blk W w.heap.size #[.int .i64 O, .int .i64 E, .int .i64 M, vp, vc] 33
 res : Blk W (w.heap.size + 1) #[.int .i64 0, .int .i64 0, .int .i64 0, .slice none 0 0, .slice none 0 0] 33
 plan : ∀ x, rp = some x → W.ownsRow (w.heap.size + 2) 9 1 x.1 x.2.1 x.2.2
 calls : ∀ x, rc = some x → W.ownsRow (w.heap.size + 2) 57 3 x.1 x.2.1 x.2.2
 apart : ∀ x y, rp = some x → rc = some y → x.1.ownBlock = none ∨ x.1.ownBlock ≠ y.1.ownBlock
section
variable {w W W' : World} {O E M : Int} {vp vc : Value} {rp rc : Option (Value × Nat × List Value)}
theorem CpSt.cells (h : CpSt w W O E M vp vc rp rc) : W.cell? ⟨w.heap.size, 0, none⟩ = some (.int .i64 O) ∧ W.cell? ⟨w.heap.size, 1, none⟩ = some (.int .i64 E) ∧ W.cell? ⟨w.heap.size, 2, none⟩ = some (.int .i64 M) ∧ W.cell? ⟨w.heap.size, 3, none⟩ = some vp ∧ W.cell? ⟨w.heap.size, 4, none⟩ = some vc := by
 obtain ⟨p0, p1, p2, p3, p4, -⟩ := h.box.five
 exact ⟨p0, p1, p2, p3, p4⟩
theorem CpSt.big (h : CpSt w W O E M vp vc rp rc) : w.heap.size + 2 ≤ W.heap.size := h.res.lt
theorem CpSt.newP (h : CpSt w W O E M vp vc none rc) : CpSt w (W.alloc (.cells #[] 9)) O E M vp vc (some (.slice (some ⟨W.heap.size, 0, none⟩) 0 0, 0, [])) rc := by
 have hb := h.big
 refine ⟨h.bel.alloc h.bel.size _, h.box.alloc _, h.res.alloc _, fun x hx => ?_, fun x hx => (h.calls x hx).alloc _, fun x y hx hy => ?_⟩
 ·
  cases hx; exact own_empty8 rfl hb
 ·
  cases hx
  refine .inr fun e => ?_
  have := own_lt (h.calls y hy) W.heap.size (by rw [← e]; rfl)
  omega
theorem CpSt.newC (h : CpSt w W O E M vp vc rp none) : CpSt w (W.alloc (.cells #[] 57)) O E M vp vc rp (some (.slice (some ⟨W.heap.size, 0, none⟩) 0 0, 0, [])) := by
 have hb := h.big
 refine ⟨h.bel.alloc h.bel.size _, h.box.alloc _, h.res.alloc _, fun x hx => (h.plan x hx).alloc _, fun x hx => ?_, fun x y hx hy => ?_⟩
 ·
  cases hx; exact own_empty8 rfl hb
 ·
  cases hy
  refine .inr fun e => ?_
  have := own_lt (h.plan x hx) W.heap.size (by rw [e]; rfl)
  omega
theorem CpSt.low (h : CpSt w W O E M vp vc rp rc) {r : Option Nat} (hg : W.grownBy W' r) (hr : ∀ k, r = some k → w.heap.size + 2 ≤ k) : Below w.heap.size w W' ∧ Blk W' w.heap.size #[.int .i64 O, .int .i64 E, .int .i64 M, vp, vc] 33 ∧ Blk W' (w.heap.size + 1) #[.int .i64 0, .int .i64 0, .int .i64 0, .slice none 0 0, .slice none 0 0] 33 :=
 ⟨h.bel.grown hg h.bel.size (fun k hk => by have := hr k hk; omega), Blk.gbr hg (fun e => by have := hr _ e.symm; omega) h.box, Blk.gbr hg (fun e => by have := hr _ e.symm; omega) h.res⟩
theorem CpSt.appP {v v' : Value} {m n : Nat} {ys xs : List Value} (h : CpSt w W O E M vp vc (some (v, m, ys)) rc) (ho : W'.ownsRow (w.heap.size + 2) 9 1 v' n xs) (hg : W.grownBy W' v.ownBlock) (hv : v'.ownBlock = v.ownBlock ∨ v'.ownBlock = some W.heap.size) : CpSt w W' O E M vp vc (some (v', n, xs)) rc := by
 have hp := h.plan _ rfl
 obtain ⟨l1, l2, l3⟩ := h.low hg (own_ge hp)
 refine ⟨l1, l2, l3, fun x hx => by cases hx; exact ho, fun x hx => ?_, fun x y hx hy => ?_⟩
 ·
  refine (h.calls x hx).kept hg ?_
  have := h.apart _ x rfl hx
  rcases this with e | e
  ·
   rw [e]; cases hh : x.1.ownBlock with
   | none => exact .inl rfl
   | some k => exact .inr (fun e => by cases e)
  ·
   exact .inr (fun e2 => e e2.symm)
 ·
  cases hx
  cases hh : y.1.ownBlock with
  | none =>
   rcases hv with e | e
   ·
    rcases h.apart _ y rfl hy with e2 | e2
    ·
     exact .inl (by rw [e, e2])
    ·
     exact .inr (by rw [e, ← hh]; exact e2)
   ·
    exact .inr (by rw [e]; exact fun e => by cases e)
  | some k =>
   have hk := own_lt (h.calls y hy) k hh
   rcases hv with e | e
   ·
    rcases h.apart _ y rfl hy with e2 | e2
    ·
     exact .inl (by rw [e, e2])
    ·
     exact .inr (by rw [e, ← hh]; exact e2)
   ·
    exact .inr (by rw [e]; exact fun e => by cases e; omega)
theorem CpSt.appC {v v' : Value} {m n : Nat} {ys xs : List Value} (h : CpSt w W O E M vp vc rp (some (v, m, ys))) (ho : W'.ownsRow (w.heap.size + 2) 57 3 v' n xs) (hg : W.grownBy W' v.ownBlock) (hv : v'.ownBlock = v.ownBlock ∨ v'.ownBlock = some W.heap.size) : CpSt w W' O E M vp vc rp (some (v', n, xs)) := by
 have hp := h.calls _ rfl
 obtain ⟨l1, l2, l3⟩ := h.low hg (own_ge hp)
 refine ⟨l1, l2, l3, fun x hx => (h.plan x hx).kept hg (h.apart x _ hx rfl), fun x hx => by cases hx; exact ho, fun x y hx hy => ?_⟩
 cases hy
 cases hh : x.1.ownBlock with
 | none => exact .inl rfl
 | some k =>
  have hk := own_lt (h.plan x hx) k hh
  rcases hv with e | e
  ·
   rcases h.apart x _ hx rfl with e2 | e2
   ·
    rw [hh] at e2; cases e2
   ·
    exact .inr (by rw [e, ← hh]; exact e2)
  ·
   exact .inr (by rw [e]; exact fun e => by cases e; omega)
end

set_option maxRecDepth 100000 in
set_option maxHeartbeats 8000000 in
theorem l8Copy_any (O E M : Int) (vp vc : Value) (ps : List ByteArray) (cs : List Cl) (w : World) (hR : ExRd w vp vc ps cs) (hp : ps.length ≤ 2000000) (hc : cs.length ≤ 2000000) :
  Calls Try.prog 95 #[.agg #[.int .i64 O, .int .i64 E, .int .i64 M, vp, vc]] w (ExNew O E M ps cs w) := by
 obtain ⟨i0, hi, hz0, hz1, hz2⟩ := info_parts infoC
 obtain ⟨j0, hj, hy0, hy1, hy2⟩ := info_parts infoS8
 have hS : CpSt w ((w.alloc (.cells #[.int .i64 O, .int .i64 E, .int .i64 M, vp, vc] 33)).alloc (.cells #[.int .i64 0, .int .i64 0, .int .i64 0, .slice none 0 0, .slice none 0 0] 33)).drew O E M vp vc none none :=
  ⟨by (exact grownA), ((Blk.new (w := w) rfl).alloc _).drew, (Blk.new (w := w.alloc (.cells #[.int .i64 O, .int .i64 E, .int .i64 M, vp, vc] 33)) (by simp)).drew, fun x h => (by cases h), fun x h => (by cases h), fun x y h => (by cases h)⟩
 have hce := hS.cells
 have HR := Lib.hid hR
 have HSS := Lib.hid hS
 clear hR hS
 go_enter Try.func95, Try.ntmps95
 go_wp2_with fail
 refine wp_region_held_drew (S := fun w' => w'.cell? ⟨w.heap.size, 0, none⟩ = some (.int .i64 O) ∧ w'.cell? ⟨w.heap.size, 1, none⟩ = some (.int .i64 E) ∧ w'.cell? ⟨w.heap.size, 2, none⟩ = some (.int .i64 M) ∧ w'.cell? ⟨w.heap.size, 3, none⟩ = some vp ∧ w'.cell? ⟨w.heap.size, 4, none⟩ = some vc) (by kernel_rfl) hce (fun hHeld => ?_)
 refine take_y 0 3 (v := ?_) rfl ?_ ?_; rotate_left; focus (intro w hSw; (try dsimp only at hSw); go_simp; (try rw [if_neg (by omega)]); (try with_reducible rfl))
 try simp only [Act.put, zp1, zp2, zp3]
 refine take_y 1 4 (v := ?_) rfl ?_ ?_; rotate_left; focus (intro w hSw; (try dsimp only at hSw); go_simp; (try rw [if_neg (by omega)]); (try with_reducible rfl))
 try simp only [Act.put, zp1, zp2, zp3]
 refine take_y 3 6 (v := ?_) rfl ?_ ?_; rotate_left; focus (intro w hSw; (try dsimp only at hSw); go_simp; (try rw [if_neg (by omega)]); (try with_reducible rfl))
 try simp only [Act.put, zp1, zp2, zp3]
 refine take_y 4 7 (v := ?_) rfl ?_ ?_; rotate_left; focus (intro w hSw; (try dsimp only at hSw); go_simp; (try rw [if_neg (by omega)]); (try with_reducible rfl))
 try simp only [Act.put, zp1, zp2, zp3]
 refine take_y 7 10 (v := ?_) rfl ?_ ?_; rotate_left; focus (intro w hSw; (try dsimp only at hSw); go_simp; (try rw [if_neg (by omega)]); (try with_reducible rfl))
 try simp only [Act.put, zp1, zp2, zp3]
 refine take_y 8 11 (v := ?_) rfl ?_ ?_; rotate_left; focus (intro w hSw; (try dsimp only at hSw); go_simp; (try rw [if_neg (by omega)]); (try with_reducible rfl))
 try simp only [Act.put, zp1, zp2, zp3]
 clear hce
 refine wpAnyH_ready (rs := [2, 6]) (by kernel_rfl) (by simp) ?_
 refine AllReadyH.cons rfl (fun K hK => ?_) (AllReadyH.cons rfl (fun K hK => ?_) AllReadyH.nil)
 ·
  go_simp
  have hS2 := HSS.out.newP
  refine hK.out _ _ hS2.cells (fun hHeld2 => ?_)
  clear hHeld hK K; have hHeld := hHeld2; clear hHeld2; try simp only [Act.put, zp1, zp2, zp3]
  have HSS2 := Lib.hid hS2
  clear HSS hS2
  have HSS := HSS2
  clear HSS2
  refine wpAnyH_ready (rs := [5, 6]) (by kernel_rfl) (by simp) ?_
  refine AllReadyH.cons rfl (fun K hK => ?_) (AllReadyH.cons rfl (fun K hK => ?_) AllReadyH.nil)
  ·
   refine step_append_rds _ (by rfl) _ _ _ (by rfl) (w.heap.size + 2) 9 j0 _ 1 16 Try.underlying24 hj hy0 hy1 hy2 rfl (by decide) _ 0 [] (by first | rfl | exact congrArg (fun b => Value.slice (some ⟨b, 0, none⟩) 0 0) (by simp)) (HSS.out.plan _ rfl) _ ps.length (strs ps) (by rfl) (HR.out.plan.below HSS.out.bel) (strs_one8 ps) (by unfold maxLen; omega) (by omega) HSS.out.big ?_
   intro vq wq hoq hgq hvq
   have hS2 := HSS.out.appP hoq hgq hvq
   refine hK.out _ _ hS2.cells (fun hHeld2 => ?_)
   clear hHeld hK K; have hHeld := hHeld2; clear hHeld2; try simp only [Act.put, zp1, zp2, zp3]
   have HSS2 := Lib.hid hS2
   clear HSS hS2 hoq hgq hvq
   have HSS := HSS2
   clear HSS2
   refine wpAnyH_ready (rs := [6]) (by kernel_rfl) (by simp) ?_
   refine AllReadyH.cons rfl (fun K hK => ?_) AllReadyH.nil
   go_simp
   have hS2 := HSS.out.newC
   refine hK.out _ _ hS2.cells (fun hHeld2 => ?_)
   clear hHeld hK K; have hHeld := hHeld2; clear hHeld2; try simp only [Act.put, zp1, zp2, zp3]
   have HSS2 := Lib.hid hS2
   clear HSS hS2
   have HSS := HSS2
   clear HSS2
   refine wpAnyH_ready (rs := [9]) (by kernel_rfl) (by simp) ?_
   refine AllReadyH.cons rfl (fun K hK => ?_) AllReadyH.nil
   refine step_append_rds _ (by rfl) _ _ _ (by rfl) (w.heap.size + 2) 57 i0 _ 3 24 Try.underlying31 hi hz0 hz1 hz2 rfl (by decide) _ 0 [] (by first | rfl | exact congrArg (fun b => Value.slice (some ⟨b, 0, none⟩) 0 0) (by simp)) (HSS.out.calls _ rfl) _ cs.length (ccells cs) (by rfl) (HR.out.calls.below HSS.out.bel) (ccells_one cs) (by unfold maxLen; omega) (by omega) HSS.out.big ?_
   intro vr wr hor hgr hvr
   have hS2 := HSS.out.appC hor hgr hvr
   refine hK.out _ _ hS2.cells (fun hHeld2 => ?_)
   clear hHeld hK K; have hHeld := hHeld2; clear hHeld2; try simp only [Act.put, zp1, zp2, zp3]
   have HSS2 := Lib.hid hS2
   clear HSS hS2 hor hgr hvr
   have HSS := HSS2
   clear HSS2
   have hS := HSS.out
   have hpl : wr.ownsRow (w.heap.size + 2) 9 1 vq ps.length (strs ps) := by have := hS.plan _ rfl; rw [Nat.zero_add, List.nil_append] at this; exact this
   have hcl : wr.ownsRow (w.heap.size + 2) 57 3 vr cs.length (ccells cs) := by have := hS.calls _ rfl; rw [Nat.zero_add, List.nil_append] at this; exact this
   have HX : Hid (ExOwn wr (w.heap.size + 2) vq vr ps cs) := ⟨hpl, hcl, hS.apart _ _ rfl rfl⟩
   obtain ⟨a2, c2, rfl⟩ := own_len9 hpl
   obtain ⟨a3, c3, rfl⟩ := own_len9 hcl
   have hB3 := hS.box
   have hR3 := hS.res
   have hbel3 := hS.bel
   clear hS hpl hcl HSS
   obtain ⟨p0, p1, p2, p3, p4, -, -, -, -, -, plt⟩ := hB3.five
   obtain ⟨r0, r1, r2, r3, r4, f0, f1, f2, f3, f4, rlt⟩ := hR3.five
   refine take_y 10 13 (v := ?_) rfl ?_ ?_; rotate_left; focus (intro w hSw; (try dsimp only at hSw); go_simp; (try rw [if_neg (by omega)]); (try with_reducible rfl))
   try simp only [Act.put, zp1, zp2, zp3]
   refine wpAnyH_ready (rs := [11]) (by kernel_rfl) (by simp) ?_
   refine AllReadyH.cons rfl (fun K hK => ?_) AllReadyH.nil
   go_simp
   refine hK.out _ _ (by (try dsimp only); obtain ⟨q0, q1, q2, q3, q4, -⟩ := (((((hB3.other (a := ⟨w.heap.size + 1, 0, none⟩) (u := .int .i64 O) (by simp)).other (a := ⟨w.heap.size + 1, 1, none⟩) (u := .int .i64 E) (by simp)).other (a := ⟨w.heap.size + 1, 2, none⟩) (u := .int .i64 M) (by simp)).other (a := ⟨w.heap.size + 1, 3, none⟩) (u := .slice a2 ps.length c2) (by simp)).other (a := ⟨w.heap.size + 1, 4, none⟩) (u := .slice a3 cs.length c3) (by simp)).five; exact ⟨q0, q1, q2, q3, q4⟩) (fun hHeld2 => ?_)
   clear hHeld hK K; have hHeld := hHeld2; clear hHeld2; try simp only [Act.put, zp1, zp2, zp3]
   refine wpAnyH_done (by kernel_rfl) ?_ _
   clear hHeld
   go_wp2
   have hF := five_set (y0 := .int .i64 O) (y1 := .int .i64 E) (y2 := .int .i64 M) (y3 := .slice a2 ps.length c2) (y4 := .slice a3 cs.length c3) hR3
   obtain ⟨z0, z1, z2, z3, z4, -⟩ := hF.five
   refine bodyPost_ret (v := .agg #[.int .i64 O, .int .i64 E, .int .i64 M, .slice a2 ps.length c2, .slice a3 cs.length c3]) (by simp [results, Try.results95, go_sem, z0, z1, z2, z3, z4]) rfl ?_
   exact ⟨_, _, rfl, (HX.out.result _ _ _ _ _ (by omega)).lower (by omega), five_below _ _ _ _ _ hbel3 (by omega)⟩
  ·
   go_simp
   have hS2 := HSS.out.newC
   refine hK.out _ _ hS2.cells (fun hHeld2 => ?_)
   clear hHeld hK K; have hHeld := hHeld2; clear hHeld2; try simp only [Act.put, zp1, zp2, zp3]
   have HSS2 := Lib.hid hS2
   clear HSS hS2
   have HSS := HSS2
   clear HSS2
   refine wpAnyH_ready (rs := [5]) (by kernel_rfl) (by simp) ?_
   refine AllReadyH.cons rfl (fun K hK => ?_) AllReadyH.nil
   refine step_append_rds _ (by rfl) _ _ _ (by rfl) (w.heap.size + 2) 9 j0 _ 1 16 Try.underlying24 hj hy0 hy1 hy2 rfl (by decide) _ 0 [] (by first | rfl | exact congrArg (fun b => Value.slice (some ⟨b, 0, none⟩) 0 0) (by simp)) (HSS.out.plan _ rfl) _ ps.length (strs ps) (by rfl) (HR.out.plan.below HSS.out.bel) (strs_one8 ps) (by unfold maxLen; omega) (by omega) HSS.out.big ?_
   intro vq wq hoq hgq hvq
   have hS2 := HSS.out.appP hoq hgq hvq
   refine hK.out _ _ hS2.cells (fun hHeld2 => ?_)
   clear hHeld hK K; have hHeld := hHeld2; clear hHeld2; try simp only [Act.put, zp1, zp2, zp3]
   have HSS2 := Lib.hid hS2
   clear HSS hS2 hoq hgq hvq
   have HSS := HSS2
   clear HSS2
   refine wpAnyH_ready (rs := [9]) (by kernel_rfl) (by simp) ?_
   refine AllReadyH.cons rfl (fun K hK => ?_) AllReadyH.nil
   refine step_append_rds _ (by rfl) _ _ _ (by rfl) (w.heap.size + 2) 57 i0 _ 3 24 Try.underlying31 hi hz0 hz1 hz2 rfl (by decide) _ 0 [] (by first | rfl | exact congrArg (fun b => Value.slice (some ⟨b, 0, none⟩) 0 0) (by simp)) (HSS.out.calls _ rfl) _ cs.length (ccells cs) (by rfl) (HR.out.calls.below HSS.out.bel) (ccells_one cs) (by unfold maxLen; omega) (by omega) HSS.out.big ?_
   intro vr wr hor hgr hvr
   have hS2 := HSS.out.appC hor hgr hvr
   refine hK.out _ _ hS2.cells (fun hHeld2 => ?_)
   clear hHeld hK K; have hHeld := hHeld2; clear hHeld2; try simp only [Act.put, zp1, zp2, zp3]
   have HSS2 := Lib.hid hS2
   clear HSS hS2 hor hgr hvr
   have HSS := HSS2
   clear HSS2
   have hS := HSS.out
   have hpl : wr.ownsRow (w.heap.size + 2) 9 1 vq ps.length (strs ps) := by have := hS.plan _ rfl; rw [Nat.zero_add, List.nil_append] at this; exact this
   have hcl : wr.ownsRow (w.heap.size + 2) 57 3 vr cs.length (ccells cs) := by have := hS.calls _ rfl; rw [Nat.zero_add, List.nil_append] at this; exact this
   have HX : Hid (ExOwn wr (w.heap.size + 2) vq vr ps cs) := ⟨hpl, hcl, hS.apart _ _ rfl rfl⟩
   obtain ⟨a2, c2, rfl⟩ := own_len9 hpl
   obtain ⟨a3, c3, rfl⟩ := own_len9 hcl
   have hB3 := hS.box
   have hR3 := hS.res
   have hbel3 := hS.bel
   clear hS hpl hcl HSS
   obtain ⟨p0, p1, p2, p3, p4, -, -, -, -, -, plt⟩ := hB3.five
   obtain ⟨r0, r1, r2, r3, r4, f0, f1, f2, f3, f4, rlt⟩ := hR3.five
   refine take_y 10 13 (v := ?_) rfl ?_ ?_; rotate_left; focus (intro w hSw; (try dsimp only at hSw); go_simp; (try rw [if_neg (by omega)]); (try with_reducible rfl))
   try simp only [Act.put, zp1, zp2, zp3]
   refine wpAnyH_ready (rs := [11]) (by kernel_rfl) (by simp) ?_
   refine AllReadyH.cons rfl (fun K hK => ?_) AllReadyH.nil
   go_simp
   refine hK.out _ _ (by (try dsimp only); obtain ⟨q0, q1, q2, q3, q4, -⟩ := (((((hB3.other (a := ⟨w.heap.size + 1, 0, none⟩) (u := .int .i64 O) (by simp)).other (a := ⟨w.heap.size + 1, 1, none⟩) (u := .int .i64 E) (by simp)).other (a := ⟨w.heap.size + 1, 2, none⟩) (u := .int .i64 M) (by simp)).other (a := ⟨w.heap.size + 1, 3, none⟩) (u := .slice a2 ps.length c2) (by simp)).other (a := ⟨w.heap.size + 1, 4, none⟩) (u := .slice a3 cs.length c3) (by simp)).five; exact ⟨q0, q1, q2, q3, q4⟩) (fun hHeld2 => ?_)
   clear hHeld hK K; have hHeld := hHeld2; clear hHeld2; try simp only [Act.put, zp1, zp2, zp3]
   refine wpAnyH_done (by kernel_rfl) ?_ _
   clear hHeld
   go_wp2
   have hF := five_set (y0 := .int .i64 O) (y1 := .int .i64 E) (y2 := .int .i64 M) (y3 := .slice a2 ps.length c2) (y4 := .slice a3 cs.length c3) hR3
   obtain ⟨z0, z1, z2, z3, z4, -⟩ := hF.five
   refine bodyPost_ret (v := .agg #[.int .i64 O, .int .i64 E, .int .i64 M, .slice a2 ps.length c2, .slice a3 cs.length c3]) (by simp [results, Try.results95, go_sem, z0, z1, z2, z3, z4]) rfl ?_
   exact ⟨_, _, rfl, (HX.out.result _ _ _ _ _ (by omega)).lower (by omega), five_below _ _ _ _ _ hbel3 (by omega)⟩
 ·
  go_simp
  have hS2 := HSS.out.newC
  refine hK.out _ _ hS2.cells (fun hHeld2 => ?_)
  clear hHeld hK K; have hHeld := hHeld2; clear hHeld2; try simp only [Act.put, zp1, zp2, zp3]
  have HSS2 := Lib.hid hS2
  clear HSS hS2
  have HSS := HSS2
  clear HSS2
  refine wpAnyH_ready (rs := [2]) (by kernel_rfl) (by simp) ?_
  refine AllReadyH.cons rfl (fun K hK => ?_) AllReadyH.nil
  go_simp
  have hS2 := HSS.out.newP
  refine hK.out _ _ hS2.cells (fun hHeld2 => ?_)
  clear hHeld hK K; have hHeld := hHeld2; clear hHeld2; try simp only [Act.put, zp1, zp2, zp3]
  have HSS2 := Lib.hid hS2
  clear HSS hS2
  have HSS := HSS2
  clear HSS2
  refine wpAnyH_ready (rs := [5]) (by kernel_rfl) (by simp) ?_
  refine AllReadyH.cons rfl (fun K hK => ?_) AllReadyH.nil
  refine step_append_rds _ (by rfl) _ _ _ (by rfl) (w.heap.size + 2) 9 j0 _ 1 16 Try.underlying24 hj hy0 hy1 hy2 rfl (by decide) _ 0 [] (by first | rfl | exact congrArg (fun b => Value.slice (some ⟨b, 0, none⟩) 0 0) (by simp)) (HSS.out.plan _ rfl) _ ps.length (strs ps) (by rfl) (HR.out.plan.below HSS.out.bel) (strs_one8 ps) (by unfold maxLen; omega) (by omega) HSS.out.big ?_
  intro vq wq hoq hgq hvq
  have hS2 := HSS.out.appP hoq hgq hvq
  refine hK.out _ _ hS2.cells (fun hHeld2 => ?_)
  clear hHeld hK K; have hHeld := hHeld2; clear hHeld2; try simp only [Act.put, zp1, zp2, zp3]
  have HSS2 := Lib.hid hS2
  clear HSS hS2 hoq hgq hvq
  have HSS := HSS2
  clear HSS2
  refine wpAnyH_ready (rs := [9]) (by kernel_rfl) (by simp) ?_
  refine AllReadyH.cons rfl (fun K hK => ?_) AllReadyH.nil
  refine step_append_rds _ (by rfl) _ _ _ (by rfl) (w.heap.size + 2) 57 i0 _ 3 24 Try.underlying31 hi hz0 hz1 hz2 rfl (by decide) _ 0 [] (by first | rfl | exact congrArg (fun b => Value.slice (some ⟨b, 0, none⟩) 0 0) (by simp)) (HSS.out.calls _ rfl) _ cs.length (ccells cs) (by rfl) (HR.out.calls.below HSS.out.bel) (ccells_one cs) (by unfold maxLen; omega) (by omega) HSS.out.big ?_
  intro vr wr hor hgr hvr
  have hS2 := HSS.out.appC hor hgr hvr
  refine hK.out _ _ hS2.cells (fun hHeld2 => ?_)
  clear hHeld hK K; have hHeld := hHeld2; clear hHeld2; try simp only [Act.put, zp1, zp2, zp3]
  have HSS2 := Lib.hid hS2
  clear HSS hS2 hor hgr hvr
  have HSS := HSS2
  clear HSS2
  have hS := HSS.out
  have hpl : wr.ownsRow (w.heap.size + 2) 9 1 vq ps.length (strs ps) := by have := hS.plan _ rfl; rw [Nat.zero_add, List.nil_append] at this; exact this
  have hcl : wr.ownsRow (w.heap.size + 2) 57 3 vr cs.length (ccells cs) := by have := hS.calls _ rfl; rw [Nat.zero_add, List.nil_append] at this; exact this
  have HX : Hid (ExOwn wr (w.heap.size + 2) vq vr ps cs) := ⟨hpl, hcl, hS.apart _ _ rfl rfl⟩
  obtain ⟨a2, c2, rfl⟩ := own_len9 hpl
  obtain ⟨a3, c3, rfl⟩ := own_len9 hcl
  have hB3 := hS.box
  have hR3 := hS.res
  have hbel3 := hS.bel
  clear hS hpl hcl HSS
  obtain ⟨p0, p1, p2, p3, p4, -, -, -, -, -, plt⟩ := hB3.five
  obtain ⟨r0, r1, r2, r3, r4, f0, f1, f2, f3, f4, rlt⟩ := hR3.five
  refine take_y 10 13 (v := ?_) rfl ?_ ?_; rotate_left; focus (intro w hSw; (try dsimp only at hSw); go_simp; (try rw [if_neg (by omega)]); (try with_reducible rfl))
  try simp only [Act.put, zp1, zp2, zp3]
  refine wpAnyH_ready (rs := [11]) (by kernel_rfl) (by simp) ?_
  refine AllReadyH.cons rfl (fun K hK => ?_) AllReadyH.nil
  go_simp
  refine hK.out _ _ (by (try dsimp only); obtain ⟨q0, q1, q2, q3, q4, -⟩ := (((((hB3.other (a := ⟨w.heap.size + 1, 0, none⟩) (u := .int .i64 O) (by simp)).other (a := ⟨w.heap.size + 1, 1, none⟩) (u := .int .i64 E) (by simp)).other (a := ⟨w.heap.size + 1, 2, none⟩) (u := .int .i64 M) (by simp)).other (a := ⟨w.heap.size + 1, 3, none⟩) (u := .slice a2 ps.length c2) (by simp)).other (a := ⟨w.heap.size + 1, 4, none⟩) (u := .slice a3 cs.length c3) (by simp)).five; exact ⟨q0, q1, q2, q3, q4⟩) (fun hHeld2 => ?_)
  clear hHeld hK K; have hHeld := hHeld2; clear hHeld2; try simp only [Act.put, zp1, zp2, zp3]
  refine wpAnyH_done (by kernel_rfl) ?_ _
  clear hHeld
  go_wp2
  have hF := five_set (y0 := .int .i64 O) (y1 := .int .i64 E) (y2 := .int .i64 M) (y3 := .slice a2 ps.length c2) (y4 := .slice a3 cs.length c3) hR3
  obtain ⟨z0, z1, z2, z3, z4, -⟩ := hF.five
  refine bodyPost_ret (v := .agg #[.int .i64 O, .int .i64 E, .int .i64 M, .slice a2 ps.length c2, .slice a3 cs.length c3]) (by simp [results, Try.results95, go_sem, z0, z1, z2, z3, z4]) rfl ?_
  exact ⟨_, _, rfl, (HX.out.result _ _ _ _ _ (by omega)).lower (by omega), five_below _ _ _ _ _ hbel3 (by omega)⟩

end Go.Proofs.Ytedadhoneebfnaa

/- What a deed does to the others, plain. No program in sight. -/
namespace Go.Proofs.Ytedadhoneebfnaa

theorem move_len (E M : Int) (cs : List Cl) (x y : Int) : (moveL E M cs x y).length = cs.length + 1 := by
 have := congrArg List.length (move_ends E M cs x y)
 simpa using this
theorem call_peer_me {E M : Int} {cs : List Cl} {x y : Int} (hx : cs.find? (hasE x) = none) : peerL (moveL E M cs x y) x = y := by
 rw [peer_ends, move_ends, List.find?_append, List.find?_map]
 have : (hasP x ∘ ends) = hasE x := rfl
 rw [this, hx]
 have : [(x, y)].find? (hasP x) = some (x, y) := by simp [hasP]
 rw [this]
 show x + y - x = y
 omega
theorem call_peer {E M : Int} {cs : List Cl} {x y k : Int} (h1 : k ≠ x) (h2 : k ≠ y) : peerL (moveL E M cs x y) k = peerL cs k := by
 rw [peer_ends, move_ends, List.find?_append, peer_ends cs k]
 have : [(x, y)].find? (hasP k) = none := by simp [hasP]; exact ⟨fun e => h1 e.symm, fun e => h2 e.symm⟩
 rw [this, Option.or_none]
theorem ExOk.dropped {O E M : Int} {ps : List ByteArray} {cs : List Cl} (h : ExOk O E M ps cs) (x : Int) : ExOk O E M ps (dropL cs x) :=
 ⟨dropL_ok h.calls _, h.en, h.plan, h.len, fun c hc d hd => h.part c (dropL_mem.1 hc).1 d (dropL_mem.1 hd).1⟩
theorem drop_peer_me {O E M : Int} {ps : List ByteArray} {cs : List Cl} (h : ExOk O E M ps cs) {c : Cl} {x : Int} (hc : c ∈ cs) (hx : hasE x c = true) : peerL (dropL cs c.1) x = -1 := by
 refine peer_none ?_
 rw [List.find?_eq_none]
 intro d hd hxd
 obtain ⟨h1, h2⟩ := dropL_mem.1 hd
 exact h2 (by rw [h.only h1 hc hxd hx])
theorem drop_peer {O E M : Int} {ps : List ByteArray} {cs : List Cl} (h : ExOk O E M ps cs) {c : Cl} {x k : Int} (hc : c ∈ cs) (hx : hasE x c = true) (h1 : k ≠ x) (h2 : peerL cs k ≠ x) : peerL (dropL cs c.1) k = peerL cs k := by
 rcases peer_neg h.calls k with ⟨e1, e2⟩ | ⟨d, hf, hd, h3, h4, h5⟩
 ·
  rw [e1]
  refine peer_none ?_
  rw [List.find?_eq_none] at e2 ⊢
  intro d hd
  exact e2 d (dropL_mem.1 hd).1
 ·
  have hkd := List.find?_some hf
  have hne : d.1 ≠ c.1 := by
   intro e
   have := h.calls.one hd hc (.inl e)
   subst this
   simp only [hasE, Bool.or_eq_true, decide_eq_true_eq] at hx hkd
   rcases h3 with ⟨e1, e2⟩ | ⟨e1, e2⟩ <;> omega
  have hd' : d ∈ dropL cs c.1 := dropL_mem.2 ⟨hd, hne⟩
  rw [peer_some ((h.dropped c.1).find hd' hkd), peer_some hf]

/-! The three kinds, for a law that sees what a deed leaves. -/
/-- What the law of a deed asks. -/
structure DoSaid (E M : Int) (ps : List ByteArray) (cs : List Cl) (kind line : Int) (num : ByteArray) (ps' : List ByteArray) (cs' : List Cl) : Prop where
 other : ∀ k : Int, ¬ (k = line ∨ kind = 0 ∧ k = lineL ps num ∨ kind = 1 ∧ peerL cs k = line) → peerL cs' k = peerL cs k
 number : kind = 2 → ∀ k : Int, peerL cs' k = peerL cs k
 call : kind = 0 → peerL cs' line = lineL ps num
 drop : kind = 1 → peerL cs' line = -1
 differ : ¬ (ps' = ps ∧ cs' = cs)
 len : ps'.length = ps.length
 kinds : kind = 0 ∨ kind = 1 ∨ kind = 2
theorem do_said {O E M : Int} {ps : List ByteArray} {cs : List Cl} (h : ExOk O E M ps cs) {kind line : Int} {num : ByteArray} {ps' : List ByteArray} {cs' : List Cl} (hd : doL E M ps cs kind line num = some (ps', cs')) : DoSaid E M ps cs kind line num ps' cs' := by
 have hlen := do_plan_len hd
 unfold doL at hd
 split at hd
 ·
  cases hd
 rename_i hl
 simp only [not_or] at hl
 split at hd
 ·
  rename_i hk
  subst hk
  split at hd
  ·
   cases hd
  rename_i hc
  simp only [not_or] at hc
  cases hd
  have hf1 := free_of ⟨O, E, M, h.calls⟩ hc.2.2.1
  refine ⟨fun k hk => ?_, fun e => ?_, fun _ => call_peer_me hf1, fun e => ?_, fun e => ?_, rfl, .inl rfl⟩
  ·
   simp only [not_or] at hk
   exact call_peer hk.1 (fun e => by simp [e] at hk)
  ·
   omega
  ·
   omega
  ·
   have := congrArg List.length e.2
   rw [move_len] at this; omega
 split at hd
 ·
  rename_i hk
  subst hk
  split at hd
  ·
   cases hd
  cases hf : cs.find? (hasE line) with
  | none => rw [hf] at hd; cases hd
  | some c =>
   rw [hf] at hd
   cases hd
   have hc := List.mem_of_find?_eq_some hf
   have hx := List.find?_some hf
   refine ⟨fun k hk => ?_, fun e => ?_, fun e => ?_, fun _ => drop_peer_me h hc hx, fun e => ?_, rfl, .inr (.inl rfl)⟩
   ·
    simp only [not_or] at hk
    exact drop_peer h hc hx hk.1 (fun e => by simp [e] at hk)
   ·
    omega
   ·
    omega
   ·
    have := congrArg List.length e.2
    have := dropL_lt hc; omega
 split at hd
 ·
  rename_i hk
  subst hk
  split at hd
  ·
   cases hd
  rename_i hc
  simp only [not_or] at hc
  cases hd
  refine ⟨fun k hk => rfl, fun _ k => rfl, fun e => ?_, fun e => ?_, fun e => ?_, hlen, .inr (.inr rfl)⟩
  ·
   omega
  ·
   omega
  ·
   have e1 := e.1
   refine hc.1 ?_
   have : (ps.set line.toNat num)[line.toNat]? = some num := by rw [List.getElem?_set_self]; omega
   rw [e1] at this
   exact this
 ·
  cases hd
/-- A call is done exactly if both are free. -/
theorem call_done {E M : Int} {ps : List ByteArray} {cs : List Cl} {line : Int} {num : ByteArray} : (doL E M ps cs 0 line num).isSome = true ↔ 0 ≤ line ∧ line < ps.length ∧ 0 ≤ lineL ps num ∧ lineL ps num ≠ line ∧ peerL cs line < 0 ∧ peerL cs (lineL ps num) < 0 := by
 unfold doL
 by_cases h1 : line < 0 ∨ (ps.length : Int) ≤ line
 ·
  rw [if_pos h1]; simp; omega
 ·
  rw [if_neg h1, if_pos rfl]
  by_cases h2 : lineL ps num < 0 ∨ lineL ps num = line ∨ 0 ≤ peerL cs line ∨ 0 ≤ peerL cs (lineL ps num)
  ·
   rw [if_pos h2]; simp; omega
  ·
   rw [if_neg h2]; simp; omega

end Go.Proofs.Ytedadhoneebfnaa
