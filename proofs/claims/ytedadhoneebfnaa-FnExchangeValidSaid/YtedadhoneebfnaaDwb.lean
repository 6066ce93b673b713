/- The draws of an exchange alone, and of one with a line. -/
import Derived.Test.YtedadhoneebfnaaDwa
set_option linter.unusedSimpArgs false
set_option linter.unusedVariables false
namespace Go.Proofs.Ytedadhoneebfnaa
open Go.RowKit

/-- An exchange alone. -/
def Drawn1 (w : World) (e : Ending) (w' : World) : Prop := ∃ (O E M : Int) (vp vc : Value) (ps : List ByteArray) (cs : List Cl), e = .returned (.agg #[.int .i64 O, .int .i64 E, .int .i64 M, vp, vc]) ∧ Drawn w w' vp vc ps cs

set_option maxRecDepth 100000 in
set_option maxHeartbeats 2000000 in
theorem DrawExchangeValid_any (a : Option Addr) (len cap : Nat) (zs : List Int) (w : World) (h : Code w a len cap zs) :
  Calls Try.prog 40 #[.slice a len cap] w (Drawn1 w) := by
 have hZ := Blk.new (w := w) (cs := #[.int .i64 0, .int .i64 0, .int .i64 0, .slice none 0 0, .slice none 0 0]) (T := 33) rfl
 have hb0 : Below w.heap.size w (w.alloc (.cells #[.int .i64 0, .int .i64 0, .int .i64 0, .slice none 0 0, .slice none 0 0] 33)) := by (exact grownA)
 go_enter Try.func40, Try.ntmps40
 go_wp2_with fail
 refine (open_any _ _ _ _ _ (h.below hb0)).mono ?_
 rintro e w1 ⟨rb, rfl, hrb, hr, hb1⟩
 have hZ1 := hZ.belowAll hb1
 have hB1 := hb0.trans (Below.mono hb1 hb0.size)
 simp only [World.size_alloc] at hrb
 have hrw := hr.lt
 clear hZ hb0 hb1
 go_wp2_with fail
 refine (l20Exchange_any rb 0 _ _ hr (by omega) (by omega)).mono ?_
 rintro e w2 ⟨O, E, M, vp, vc, ps, cs, q, rfl, ho, hl, hc, hs, -, hq, hrd, hg⟩
 have hZ2 := hZ1.gb hg (by omega)
 have hz1 := hB1.size
 have hB2 := below_gb hg hz1 (by omega) hB1
 have hz2 := hg.size
 clear hZ1 hB1 hr
 obtain ⟨ap, cp, ac, cc, rfl, rfl⟩ := agg_parts ho
 obtain ⟨p0, p1, p2, p3, p4, f0, f1, f2, f3, f4, plt⟩ := hZ2.five
 go_wp2
 obtain ⟨z0, z1, z2, z3, z4, -⟩ := (five_set (y0 := .int .i64 O) (y1 := .int .i64 E) (y2 := .int .i64 M) (y3 := .slice ap ps.length cp) (y4 := .slice ac cs.length cc) hZ2).five
 refine bodyPost_ret (v := .agg #[.int .i64 O, .int .i64 E, .int .i64 M, .slice ap ps.length cp, .slice ac cs.length cc]) (by simp [results, Try.results40, go_sem, z0, z1, z2, z3, z4]) rfl ?_
 exact ⟨O, E, M, _, _, ps, cs, rfl, (ho.result _ _ _ _ _ (by omega)).lower (by omega), hl, hc, hs, five_below _ _ _ _ _ hB2 (Nat.le_refl _)⟩


set_option maxRecDepth 100000 in
set_option maxHeartbeats 2000000 in
theorem DrawNightDeeds_any (a : Option Addr) (len cap : Nat) (zs : List Int) (w : World) (h : Code w a len cap zs) :
  Calls Try.prog 54 #[.slice a len cap] w (Drawn1 w) := by
 have hZ := Blk.new (w := w) (cs := #[.int .i64 0, .int .i64 0, .int .i64 0, .slice none 0 0, .slice none 0 0]) (T := 33) rfl
 have hb0 : Below w.heap.size w (w.alloc (.cells #[.int .i64 0, .int .i64 0, .int .i64 0, .slice none 0 0, .slice none 0 0] 33)) := by (exact grownA)
 go_enter Try.func54, Try.ntmps54
 go_wp2_with fail
 refine (open_any _ _ _ _ _ (h.below hb0)).mono ?_
 rintro e w1 ⟨rb, rfl, hrb, hr, hb1⟩
 have hZ1 := hZ.belowAll hb1
 have hB1 := hb0.trans (Below.mono hb1 hb0.size)
 simp only [World.size_alloc] at hrb
 have hrw := hr.lt
 clear hZ hb0 hb1
 go_wp2_with fail
 refine (l20Exchange_any rb 0 _ _ hr (by omega) (by omega)).mono ?_
 rintro e w2 ⟨O, E, M, vp, vc, ps, cs, q, rfl, ho, hl, hc, hs, -, hq, hrd, hg⟩
 have hZ2 := hZ1.gb hg (by omega)
 have hz1 := hB1.size
 have hB2 := below_gb hg hz1 (by omega) hB1
 have hz2 := hg.size
 clear hZ1 hB1 hr
 obtain ⟨ap, cp, ac, cc, rfl, rfl⟩ := agg_parts ho
 obtain ⟨p0, p1, p2, p3, p4, f0, f1, f2, f3, f4, plt⟩ := hZ2.five
 go_wp2
 obtain ⟨z0, z1, z2, z3, z4, -⟩ := (five_set (y0 := .int .i64 O) (y1 := .int .i64 E) (y2 := .int .i64 M) (y3 := .slice ap ps.length cp) (y4 := .slice ac cs.length cc) hZ2).five
 refine bodyPost_ret (v := .agg #[.int .i64 O, .int .i64 E, .int .i64 M, .slice ap ps.length cp, .slice ac cs.length cc]) (by simp [results, Try.results54, go_sem, z0, z1, z2, z3, z4]) rfl ?_
 exact ⟨O, E, M, _, _, ps, cs, rfl, (ho.result _ _ _ _ _ (by omega)).lower (by omega), hl, hc, hs, five_below _ _ _ _ _ hB2 (Nat.le_refl _)⟩

/-- An exchange and a line. -/
def DrawnL (w : World) (e : Ending) (w' : World) : Prop := ∃ (O E M x : Int) (vp vc : Value) (ps : List ByteArray) (cs : List Cl), e = .returned (.tuple #[.agg #[.int .i64 O, .int .i64 E, .int .i64 M, vp, vc], .int .i64 x]) ∧ Drawn w w' vp vc ps cs

set_option maxRecDepth 100000 in
set_option maxHeartbeats 4000000 in
theorem DrawPeerOf_any (a : Option Addr) (len cap : Nat) (zs : List Int) (w : World) (h : Code w a len cap zs) :
  Calls Try.prog 43 #[.slice a len cap] w (DrawnL w) := by
 have hZ := Blk.new (w := w) (cs := #[.int .i64 0, .int .i64 0, .int .i64 0, .slice none 0 0, .slice none 0 0]) (T := 33) rfl
 have hb0 : Below w.heap.size w (w.alloc (.cells #[.int .i64 0, .int .i64 0, .int .i64 0, .slice none 0 0, .slice none 0 0] 33)) := by (exact grownA)
 go_enter Try.func43, Try.ntmps43
 go_wp2_with fail
 refine (open_any _ _ _ _ _ (h.below hb0)).mono ?_
 rintro e w1 ⟨rb, rfl, hrb, hr, hb1⟩
 have hZ1 := hZ.belowAll hb1
 have hB1 := hb0.trans (Below.mono hb1 hb0.size)
 simp only [World.size_alloc] at hrb
 have hrw := hr.lt
 clear hZ hb0 hb1
 go_wp2_with fail
 refine (l20Exchange_any rb 0 _ _ hr (by omega) (by omega)).mono ?_
 rintro e w2 ⟨O, E, M, vp, vc, ps, cs, q, rfl, ho, hl, hc, hs, -, hq, hrd, hg⟩
 have hX := DrB.of (O := O) (E := E) (M := M) (w0 := w) hrb hrw hB1 hg hrd ho hl hc hs
 have hZ2 := (hZ1.gb hg (by omega)).alloc (.cells #[.int .i64 O, .int .i64 E, .int .i64 M, vp, vc] 33)
 have hwlt : w.heap.size < w2.heap.size := by have := hZ1.lt; have := hg.size; omega
 clear hZ1 hB1 hr hg hrd ho hrw h
 have hln := hX.ln
 have hbig := hX.big
 obtain ⟨ap, cp, ac, cc, rfl, rfl⟩ := agg_parts hX.own
 obtain ⟨e0, e1, e2, e3, e4, -, -, -, -, -, elt⟩ := hX.box.five
 go_wp2_with fail
 refine wp_region_held_drew (S := fun w' => w'.cell? ⟨w2.heap.size, 0, none⟩ = some (.int .i64 O) ∧ w'.cell? ⟨w2.heap.size, 1, none⟩ = some (.int .i64 E) ∧ w'.cell? ⟨w2.heap.size, 2, none⟩ = some (.int .i64 M) ∧ w'.cell? ⟨w2.heap.size, 3, none⟩ = some (.slice ap ps.length cp) ∧ w'.cell? ⟨w2.heap.size, 4, none⟩ = some (.slice ac cs.length cc)) (by kernel_rfl) ⟨e0, e1, e2, e3, e4⟩ (fun hHeld => ?_)
 refine take_y 0 10 (v := ?_) rfl ?_ ?_; rotate_left; focus (intro w hSw; (try dsimp only at hSw); go_simp; (try rw [if_neg (by omega)]); (try with_reducible rfl))
 try simp only [Act.put, zp1, zp2, zp3]
 refine take_y 1 11 (v := ?_) rfl ?_ ?_; rotate_left; focus (intro w hSw; (try dsimp only at hSw); go_simp; (try rw [if_neg (by omega)]); (try with_reducible rfl))
 try simp only [Act.put, zp1, zp2, zp3]
 refine take_y 2 12 (v := ?_) rfl ?_ ?_; rotate_left; focus (intro w hSw; (try dsimp only at hSw); go_simp; (try rw [if_neg (by omega)]); (try with_reducible rfl))
 try simp only [Act.put, zp1, zp2, zp3]
 refine take_y 3 13 (v := ?_) rfl ?_ ?_; rotate_left; focus (intro w hSw; (try dsimp only at hSw); go_simp; (try rw [if_neg (by omega)]); (try with_reducible rfl))
 try simp only [Act.put, zp1, zp2, zp3]
 refine take_y 4 14 (v := ?_) rfl ?_ ?_; rotate_left; focus (intro w hSw; (try dsimp only at hSw); go_simp; (try rw [if_neg (by omega)]); (try with_reducible rfl))
 try simp only [Act.put, zp1, zp2, zp3]
 refine take_y 5 15 (v := ?_) rfl ?_ ?_; rotate_left; focus (intro w hSw; (try dsimp only at hSw); go_simp; (try rw [if_neg (by omega)]); (try with_reducible rfl))
 try simp only [Act.put, zp1, zp2, zp3]
 refine take_y 7 17 (v := ?_) rfl ?_ ?_; rotate_left; focus (intro w hSw; (try dsimp only at hSw); go_simp; (try rw [if_neg (by omega)]); (try with_reducible rfl))
 try simp only [Act.put, zp1, zp2, zp3]
 clear e0 e1 e2 e3 e4 elt
 refine wpAnyH_ready (rs := [6]) (by kernel_rfl) (by simp) ?_
 refine AllReadyH.cons rfl (fun K hK => ?_) AllReadyH.nil
 go_simp
 refine (pick_any rb q _ _ hX.drew.rdr (by omega) (by rw [IntWalk.i64_in _ (by omega)]; omega)).mono ?_
 rintro en w3 ⟨y, rfl, hya, hyb, hr3, hg3⟩
 have hX3 := hX.drew.pick hr3 hg3
 have hZ3 := hZ2.drew.gb hg3 (by omega)
 clear hX hZ2 hr3 hg3
 refine hK.out _ _ (by obtain ⟨e0, e1, e2, e3, e4, -⟩ := hX3.box.five; exact ⟨e0, e1, e2, e3, e4⟩) (fun hHeld2 => ?_)
 clear hHeld hK K; have hHeld := hHeld2; clear hHeld2; try simp only [Act.put, zp1, zp2, zp3]
 refine wpAnyH_ready (rs := [8]) (by kernel_rfl) (by simp) ?_
 refine AllReadyH.cons rfl (fun K hK => ?_) AllReadyH.nil
 go_simp
 refine (pick_any rb (q + 1) _ _ hX3.rdr (by omega) (by omega)).mono ?_
 rintro en w4 ⟨y2, rfl, hy2a, hy2b, hr4, hg4⟩
 have hX4 := hX3.pick hr4 hg4
 have hZ4 := hZ3.gb hg4 (by omega)
 clear hX3 hZ3 hr4 hg4
 refine hK.out _ _ (by obtain ⟨e0, e1, e2, e3, e4, -⟩ := hX4.box.five; exact ⟨e0, e1, e2, e3, e4⟩) (fun hHeld2 => ?_)
 clear hHeld hK K; have hHeld := hHeld2; clear hHeld2; try simp only [Act.put, zp1, zp2, zp3]
 refine take_y 9 19 (v := ?_) rfl ?_ ?_; rotate_left; focus (intro w hSw; (try dsimp only at hSw); go_simp; (try rw [if_neg (by omega)]); (try with_reducible rfl))
 try simp only [Act.put, zp1, zp2, zp3]
 refine take_y 10 20 (v := ?_) rfl ?_ ?_; rotate_left; focus (intro w hSw; (try dsimp only at hSw); go_simp; (try rw [if_neg (by omega)]); (try with_reducible rfl))
 try simp only [Act.put, zp1, zp2, zp3]
 obtain ⟨p0, p1, p2, p3, p4, f0, f1, f2, f3, f4, plt⟩ := hZ4.five
 have hXd := hX4.done (.int .i64 O) (.int .i64 E) (.int .i64 M) (.slice ap ps.length cp) (.slice ac cs.length cc)
 have hbx := Blk.gb (five_gb _ w.heap.size (.int .i64 O) (.int .i64 E) (.int .i64 M) (.slice ap ps.length cp) (.slice ac cs.length cc)) (show w2.heap.size ≠ w.heap.size by omega) hX4.box
 have hZe := (five_set (y0 := .int .i64 O) (y1 := .int .i64 E) (y2 := .int .i64 M) (y3 := .slice ap ps.length cp) (y4 := .slice ac cs.length cc) hZ4)
 refine wpAnyH_ready (rs := [11]) (by kernel_rfl) (by simp) ?_
 refine AllReadyH.cons rfl (fun K hK => ?_) AllReadyH.nil
 go_simp
 refine hK.out _ _ (by obtain ⟨e0, e1, e2, e3, e4, -⟩ := hbx.five; exact ⟨e0, e1, e2, e3, e4⟩) (fun hHeld2 => ?_)
 clear hHeld hK K; have hHeld := hHeld2; clear hHeld2; try simp only [Act.put, zp1, zp2, zp3]
 refine take_y 12 3 (v := ?_) rfl ?_ ?_; rotate_left; focus (intro w hSw; (try dsimp only at hSw); go_simp; (try rw [if_neg (by omega)]); (try with_reducible rfl))
 try simp only [Act.put, zp1, zp2, zp3]
 refine wpAnyH_done (by kernel_rfl) ?_ _
 clear hHeld
 go_wp2
 obtain ⟨z0, z1, z2, z3, z4, -⟩ := hZe.five
 refine bodyPost_ret (v := .tuple #[.agg #[.int .i64 O, .int .i64 E, .int .i64 M, .slice ap ps.length cp, .slice ac cs.length cc], .int .i64 _]) (by simp [results, Try.results43, go_sem, z0, z1, z2, z3, z4]; rfl) rfl ?_
 exact ⟨_, _, _, _, _, _, _, _, rfl, hXd⟩


end Go.Proofs.Ytedadhoneebfnaa
