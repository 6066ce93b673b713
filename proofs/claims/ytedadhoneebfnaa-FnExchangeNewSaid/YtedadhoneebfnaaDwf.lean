/- The draw of a network and numbers. -/
import Derived.Test.YtedadhoneebfnaaDwa
set_option linter.unusedSimpArgs false
set_option linter.unusedVariables false
namespace Go.Proofs.Ytedadhoneebfnaa
open Go.RowKit

/-- A network and numbers. -/
def DrawnN (w : World) (e : Ending) (w' : World) : Prop := ∃ (O E M : Int) (vp : Value) (ps : List ByteArray), e = .returned (.tuple #[.agg #[.int .i64 O, .int .i64 E, .int .i64 M], vp]) ∧ w'.ownsRow w.heap.size 9 1 vp ps.length (strs ps) ∧ ps.length ≤ 13 ∧ StSmall ps ∧ Below w.heap.size w w'

set_option maxRecDepth 100000 in
set_option maxHeartbeats 4000000 in
theorem DrawExchangeNew_any (a : Option Addr) (len cap : Nat) (zs : List Int) (w : World) (h : Code w a len cap zs) :
  Calls Try.prog 46 #[.slice a len cap] w (DrawnN w) := by
 have hZ := Blk.new (w := w) (cs := #[.int .i64 0, .int .i64 0, .int .i64 0]) (T := 30) rfl
 have hb0 : Below w.heap.size w (w.alloc (.cells #[.int .i64 0, .int .i64 0, .int .i64 0] 30)) := by (exact grownA)
 go_enter Try.func46, Try.ntmps46
 go_wp2_with fail
 refine (open_any _ _ _ _ _ (h.below hb0)).mono ?_
 rintro e w1 ⟨rb, rfl, hrb, hr, hb1⟩
 have hZ1 := hZ.belowAll hb1
 have hB1 := hb0.trans (Below.mono hb1 hb0.size)
 simp only [World.size_alloc] at hrb
 have hrw := hr.lt
 clear hZ hb0 hb1
 go_wp2_with fail
 refine (l20Exchange_any rb 0 _ _ hr (by omega) (by omega)).mono ?_
 rintro e w2 ⟨O, E, M, vp, vc, ps, cs, q, rfl, ho, hl, hc, hs, -, hq, hrd, hg⟩
 have hX := DrB.of (O := O) (E := E) (M := M) (w0 := w) hrb hrw hB1 hg hrd ho hl hc hs
 have hZ2 := (hZ1.gb hg (by omega)).alloc (.cells #[.int .i64 O, .int .i64 E, .int .i64 M, vp, vc] 33)
 have hwlt : w.heap.size < w2.heap.size := by have := hZ1.lt; have := hg.size; omega
 clear hZ1 hB1 hr hg hrd ho hrw h
 have hln := hX.ln
 have hbig := hX.big
 obtain ⟨ap, cp, ac, cc, rfl, rfl⟩ := agg_parts hX.own
 obtain ⟨j0, hj, hy0, hy1, hy2⟩ := info_parts infoS8
 obtain ⟨e0, e1, e2, e3, e4, -, -, -, -, -, elt⟩ := hX.box.five
 go_wp2_with fail
 refine (odd_any rb q _ _ hX.rdr (by omega) (by omega)).mono ?_
 rintro en w5 ⟨b, q5, rfl, -, hqa, hqb, hr5, hg5⟩
 have hX5 := hX.pick hr5 hg5
 have hZ5 := hZ2.gb hg5 (by omega)
 clear hX hZ2 hr5 hg5 e0 e1 e2 e3 e4 elt
 have hrl := hX5.rdr.lt
 cases b
 ·
  have hX := hX5
  obtain ⟨e0, e1, e2, e3, e4, -, -, -, -, -, elt⟩ := hX.box.five
  go_wp2_with fail
  refine wp_region_held_drew (S := fun w' => w'.cell? ⟨w2.heap.size, 0, none⟩ = some (.int .i64 O) ∧ w'.cell? ⟨w2.heap.size, 1, none⟩ = some (.int .i64 E) ∧ w'.cell? ⟨w2.heap.size, 2, none⟩ = some (.int .i64 M) ∧ w'.cell? ⟨w2.heap.size, 3, none⟩ = some (.slice ap ps.length cp) ∧ w'.cell? ⟨w2.heap.size, 4, none⟩ = some (.slice ac cs.length cc)) (by kernel_rfl) ⟨e0, e1, e2, e3, e4⟩ (fun hHeld => ?_)
  refine take_y 0 18 (v := ?_) rfl ?_ ?_; rotate_left; focus (intro w hSw; (try dsimp only at hSw); go_simp; (try rw [if_neg (by omega)]); (try with_reducible rfl))
  try simp only [Act.put, zp1, zp2, zp3]
  refine take_y 1 19 (v := ?_) rfl ?_ ?_; rotate_left; focus (intro w hSw; (try dsimp only at hSw); go_simp; (try rw [if_neg (by omega)]); (try with_reducible rfl))
  try simp only [Act.put, zp1, zp2, zp3]
  refine take_y 2 20 (v := ?_) rfl ?_ ?_; rotate_left; focus (intro w hSw; (try dsimp only at hSw); go_simp; (try rw [if_neg (by omega)]); (try with_reducible rfl))
  try simp only [Act.put, zp1, zp2, zp3]
  refine take_y 3 21 (v := ?_) rfl ?_ ?_; rotate_left; focus (intro w hSw; (try dsimp only at hSw); go_simp; (try rw [if_neg (by omega)]); (try with_reducible rfl))
  try simp only [Act.put, zp1, zp2, zp3]
  clear e0 e1 e2 e3 e4 elt
  obtain ⟨p0, p1, p2, f0, f1, f2, plt⟩ := hZ5.three
  have hgS : w5.grownBy (((w5.setCell ⟨w.heap.size, 0, none⟩ (.int .i64 O)).setCell ⟨w.heap.size, 1, none⟩ (.int .i64 E)).setCell ⟨w.heap.size, 2, none⟩ (.int .i64 M)) (some w.heap.size) := gb_set (gb_set (gb_set (World.grownBy.refl _ _)))
  have hbx := Blk.gb hgS (show w2.heap.size ≠ w.heap.size by omega) hX.box
  have hZe := ((hZ5.set (i := 0) (u := .int .i64 O) rfl).set (i := 1) (u := .int .i64 E) rfl).set (i := 2) (u := .int .i64 M) rfl
  refine wpAnyH_ready (rs := [4]) (by kernel_rfl) (by simp) ?_
  refine AllReadyH.cons rfl (fun K hK => ?_) AllReadyH.nil
  go_simp
  refine hK.out _ _ (by obtain ⟨e0, e1, e2, e3, e4, -⟩ := hbx.five; exact ⟨e0, e1, e2, e3, e4⟩) (fun hHeld2 => ?_)
  clear hHeld hK K; have hHeld := hHeld2; clear hHeld2; try simp only [Act.put, zp1, zp2, zp3]
  refine take_y 5 3 (v := ?_) rfl ?_ ?_; rotate_left; focus (intro w hSw; (try dsimp only at hSw); go_simp; (try rw [if_neg (by omega)]); (try with_reducible rfl))
  try simp only [Act.put, zp1, zp2, zp3]
  refine wpAnyH_done (by kernel_rfl) ?_ _
  clear hHeld
  go_wp2
  obtain ⟨z0, z1, z2, -⟩ := hZe.three
  refine bodyPost_ret (v := .tuple #[.agg #[.int .i64 O, .int .i64 E, .int .i64 M], .slice ap ps.length cp]) (by simp [results, Try.results46, go_sem, z0, z1, z2]) rfl ?_
  have hpo := hX.own.plan
  exact ⟨O, E, M, _, ps, rfl, owns_base (show w.heap.size ≤ rb + 1 by omega) (hpo.kept (gb_drew hgS) (far_of hpo (show w.heap.size < rb + 1 by omega))), by omega, hX.st, (((hX.bel.setCell (Nat.le_refl _) _).setCell (Nat.le_refl _) _).setCell (Nat.le_refl _) _).drew⟩
 ·
  have hX := hX5
  obtain ⟨e0, e1, e2, e3, e4, -, -, -, -, -, elt⟩ := hX.box.five
  go_wp2_with fail
  refine wp_region_held_drew (S := fun w' => w'.cell? ⟨w2.heap.size, 0, none⟩ = some (.int .i64 O) ∧ w'.cell? ⟨w2.heap.size, 1, none⟩ = some (.int .i64 E) ∧ w'.cell? ⟨w2.heap.size, 2, none⟩ = some (.int .i64 M) ∧ w'.cell? ⟨w2.heap.size, 3, none⟩ = some (.slice ap ps.length cp) ∧ w'.cell? ⟨w2.heap.size, 4, none⟩ = some (.slice ac cs.length cc)) (by kernel_rfl) ⟨e0, e1, e2, e3, e4⟩ (fun hHeld => ?_)
  refine take_y 0 12 (v := ?_) rfl ?_ ?_; rotate_left; focus (intro w hSw; (try dsimp only at hSw); go_simp; (try rw [if_neg (by omega)]); (try with_reducible rfl))
  try simp only [Act.put, zp1, zp2, zp3]
  refine take_y 1 13 (v := ?_) rfl ?_ ?_; rotate_left; focus (intro w hSw; (try dsimp only at hSw); go_simp; (try rw [if_neg (by omega)]); (try with_reducible rfl))
  try simp only [Act.put, zp1, zp2, zp3]
  refine take_y 2 14 (v := ?_) rfl ?_ ?_; rotate_left; focus (intro w hSw; (try dsimp only at hSw); go_simp; (try rw [if_neg (by omega)]); (try with_reducible rfl))
  try simp only [Act.put, zp1, zp2, zp3]
  refine take_y 3 15 (v := ?_) rfl ?_ ?_; rotate_left; focus (intro w hSw; (try dsimp only at hSw); go_simp; (try rw [if_neg (by omega)]); (try with_reducible rfl))
  try simp only [Act.put, zp1, zp2, zp3]
  clear e0 e1 e2 e3 e4 elt
  refine wpAnyH_ready (rs := [4]) (by kernel_rfl) (by simp) ?_
  refine AllReadyH.cons rfl (fun K hK => ?_) AllReadyH.nil
  go_simp
  have hX6 := hX.drew.alloc (.cells #[.string ⟨#[51, 51]⟩] 9)
  have hZ6 := hZ5.drew.alloc (.cells #[.string ⟨#[51, 51]⟩] 9)
  have hnw : Rds (w5.drew.alloc (.cells #[.string ⟨#[51, 51]⟩] 9)) (.slice (some ⟨w5.heap.size, 0, none⟩) 1 1) 1 1 [.string ⟨#[51, 51]⟩] :=
   ⟨rfl, by unfold maxLen; omega, _, 1, rfl, by omega, .inr ⟨_, 0, rfl, by simp, fun i hi => by
    obtain rfl : i = 0 := by omega
    exact (Blk.new (w := w5.drew) (cs := #[.string ⟨#[51, 51]⟩]) (T := 9) rfl).at 0⟩⟩
  refine hK.out _ _ (by obtain ⟨e0, e1, e2, e3, e4, -⟩ := hX6.box.five; exact ⟨e0, e1, e2, e3, e4⟩) (fun hHeld2 => ?_)
  clear hHeld hK K; have hHeld := hHeld2; clear hHeld2; try simp only [Act.put, zp1, zp2, zp3]
  clear hX hZ5
  have hpo := hX6.own.plan
  have hrs := hX6.rdr.lt
  refine wpAnyH_ready (rs := [5]) (by kernel_rfl) (by simp) ?_
  refine AllReadyH.cons rfl (fun K hK => ?_) AllReadyH.nil
  refine step_append_rds _ (by rfl) _ _ _ (by rfl) (rb + 1) 9 j0 _ 1 16 Try.underlying24 hj hy0 hy1 hy2 rfl (by decide) _ ps.length _ (by rfl) hpo _ 1 [.string ⟨#[51, 51]⟩] (by rfl) hnw (by intro u hu; simp at hu; subst hu; rfl) (by unfold maxLen; omega) (by omega) (by have h9 := hrs; simp only [World.size_drew, World.size_alloc] at h9 ⊢; omega) ?_
  intro vq w7 hoq hgq hvq
  obtain ⟨aq, cq, rfl⟩ := own_len9 hoq
  have hge := own_ge hpo
  have hX7 := Blk.gbr hgq (ap_ne hX6.ap1) hX6.box
  have hZ7 := Blk.gbr hgq (fun e => by have := hge _ e.symm; omega) hZ6
  have hb7 : Below w.heap.size w w7 := Below.grown hX6.bel hgq hX6.bel.size (fun k hk => by have := hge k hk; omega)
  clear hX6 hZ6 hgq hnw hpo hvq
  refine hK.out _ _ (by obtain ⟨e0, e1, e2, e3, e4, -⟩ := hX7.five; exact ⟨e0, e1, e2, e3, e4⟩) (fun hHeld2 => ?_)
  clear hHeld hK K; have hHeld := hHeld2; clear hHeld2; try simp only [Act.put, zp1, zp2, zp3]
  obtain ⟨p0, p1, p2, f0, f1, f2, plt⟩ := hZ7.three
  have hgS : w7.grownBy (((w7.setCell ⟨w.heap.size, 0, none⟩ (.int .i64 O)).setCell ⟨w.heap.size, 1, none⟩ (.int .i64 E)).setCell ⟨w.heap.size, 2, none⟩ (.int .i64 M)) (some w.heap.size) := gb_set (gb_set (gb_set (World.grownBy.refl _ _)))
  have hbx := Blk.gb hgS (show w2.heap.size ≠ w.heap.size by omega) hX7
  have hZe := ((hZ7.set (i := 0) (u := .int .i64 O) rfl).set (i := 1) (u := .int .i64 E) rfl).set (i := 2) (u := .int .i64 M) rfl
  refine wpAnyH_ready (rs := [6]) (by kernel_rfl) (by simp) ?_
  refine AllReadyH.cons rfl (fun K hK => ?_) AllReadyH.nil
  go_simp
  refine hK.out _ _ (by obtain ⟨e0, e1, e2, e3, e4, -⟩ := hbx.five; exact ⟨e0, e1, e2, e3, e4⟩) (fun hHeld2 => ?_)
  clear hHeld hK K; have hHeld := hHeld2; clear hHeld2; try simp only [Act.put, zp1, zp2, zp3]
  refine take_y 7 3 (v := ?_) rfl ?_ ?_; rotate_left; focus (intro w hSw; (try dsimp only at hSw); go_simp; (try rw [if_neg (by omega)]); (try with_reducible rfl))
  try simp only [Act.put, zp1, zp2, zp3]
  refine wpAnyH_done (by kernel_rfl) ?_ _
  clear hHeld
  go_wp2
  obtain ⟨z0, z1, z2, -⟩ := hZe.three
  refine bodyPost_ret (v := .tuple #[.agg #[.int .i64 O, .int .i64 E, .int .i64 M], .slice aq (ps.length + 1) cq]) (by simp [results, Try.results46, go_sem, z0, z1, z2]) rfl ?_
  have hlen : (ps ++ [(⟨#[51, 51]⟩ : ByteArray)]).length = ps.length + 1 := by simp
  have hstr : strs (ps ++ [⟨#[51, 51]⟩]) = strs ps ++ [.string ⟨#[51, 51]⟩] := by simp [strs]
  have hst := hX5.st
  exact ⟨O, E, M, _, ps ++ [⟨#[51, 51]⟩], rfl, by rw [hlen, hstr]; exact owns_base (by omega) (hoq.kept hgS (far_of hoq (by omega))), by rw [hlen]; omega, StSmall.snoc hst (by decide), ((hb7.setCell (Nat.le_refl _) _).setCell (Nat.le_refl _) _).setCell (Nat.le_refl _) _⟩

end Go.Proofs.Ytedadhoneebfnaa
