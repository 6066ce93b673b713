/- The draw of an exchange and a deed. -/
import Derived.Test.YtedadhoneebfnaaDwa
set_option linter.unusedSimpArgs false
set_option linter.unusedVariables false
namespace Go.Proofs.Ytedadhoneebfnaa
open Go.RowKit

/-- An exchange and a deed. -/
def DrawnD (w : World) (e : Ending) (w' : World) : Prop := ∃ (O E M k l : Int) (s : ByteArray) (vp vc : Value) (ps : List ByteArray) (cs : List Cl), e = .returned (.tuple #[.agg #[.int .i64 O, .int .i64 E, .int .i64 M, vp, vc], .agg #[.int .i64 k, .int .i64 l, .string s]]) ∧ s.size ≤ 8 ∧ Drawn w w' vp vc ps cs

set_option maxRecDepth 100000 in
set_option maxHeartbeats 4000000 in
theorem DrawExDo_any (a : Option Addr) (len cap : Nat) (zs : List Int) (w : World) (h : Code w a len cap zs) :
  Calls Try.prog 49 #[.slice a len cap] w (DrawnD w) := by
 have hZ := (Blk.new (w := w) (cs := #[.int .i64 0, .int .i64 0, .int .i64 0, .slice none 0 0, .slice none 0 0]) (T := 33) rfl).alloc (.cells #[.int .i64 0, .int .i64 0, .string ⟨#[]⟩] 68)
 have hb0 : Below w.heap.size w ((w.alloc (.cells #[.int .i64 0, .int .i64 0, .int .i64 0, .slice none 0 0, .slice none 0 0] 33)).alloc (.cells #[.int .i64 0, .int .i64 0, .string ⟨#[]⟩] 68)) := by (exact grownA)
 have hQ := Blk.new (w := w.alloc (.cells #[.int .i64 0, .int .i64 0, .int .i64 0, .slice none 0 0, .slice none 0 0] 33)) (cs := #[.int .i64 0, .int .i64 0, .string ⟨#[]⟩]) (T := 68) (b := w.heap.size + 1) (by simp)
 go_enter Try.func49, Try.ntmps49
 go_wp2_with fail
 refine (open_any _ _ _ _ _ (h.below hb0)).mono ?_
 rintro e w1 ⟨rb, rfl, hrb, hr, hb1⟩
 have hZ1 := hZ.belowAll hb1
 have hQ1 := hQ.belowAll hb1
 have hB1 := hb0.trans (Below.mono hb1 hb0.size)
 simp only [World.size_alloc] at hrb
 have hrw := hr.lt
 clear hZ hQ hb0 hb1
 go_wp2_with fail
 refine (l20Exchange_any rb 0 _ _ hr (by omega) (by omega)).mono ?_
 rintro e w2 ⟨O, E, M, vp, vc, ps, cs, q, rfl, ho, hl, hc, hs, -, hq, hrd, hg⟩
 have hX := DrB.of (O := O) (E := E) (M := M) (w0 := w) (by omega) hrw hB1 hg hrd ho hl hc hs
 have hZ2 := (hZ1.gb hg (by omega)).alloc (.cells #[.int .i64 O, .int .i64 E, .int .i64 M, vp, vc] 33)
 have hQ2 := (hQ1.gb hg (by omega)).alloc (.cells #[.int .i64 O, .int .i64 E, .int .i64 M, vp, vc] 33)
 have hwlt2 : w.heap.size + 1 < w2.heap.size := by have := hQ1.lt; have := hg.size; omega
 have hwlt : w.heap.size < w2.heap.size := by have := hZ1.lt; have := hg.size; omega
 clear hZ1 hQ1 hB1 hr hg hrd ho hrw h
 have hln := hX.ln
 have hbig := hX.big
 obtain ⟨ap, cp, ac, cc, rfl, rfl⟩ := agg_parts hX.own
 obtain ⟨e0, e1, e2, e3, e4, -, -, -, -, -, elt⟩ := hX.box.five
 go_wp2_with fail
 refine wp_region_held_drew (S := fun w' => w'.cell? ⟨w2.heap.size, 0, none⟩ = some (.int .i64 O) ∧ w'.cell? ⟨w2.heap.size, 1, none⟩ = some (.int .i64 E) ∧ w'.cell? ⟨w2.heap.size, 2, none⟩ = some (.int .i64 M) ∧ w'.cell? ⟨w2.heap.size, 3, none⟩ = some (.slice ap ps.length cp) ∧ w'.cell? ⟨w2.heap.size, 4, none⟩ = some (.slice ac cs.length cc)) (by kernel_rfl) ⟨e0, e1, e2, e3, e4⟩ (fun hHeld => ?_)
 refine take_y 0 10 (v := ?_) rfl ?_ ?_; rotate_left; focus (intro w hSw; (try dsimp only at hSw); go_simp; (try rw [if_neg (by omega)]); (try with_reducible rfl))
 try simp only [Act.put, zp1, zp2, zp3]
 refine take_y 1 11 (v := ?_) rfl ?_ ?_; rotate_left; focus (intro w hSw; (try dsimp only at hSw); go_simp; (try rw [if_neg (by omega)]); (try with_reducible rfl))
 try simp only [Act.put, zp1, zp2, zp3]
 refine take_y 2 12 (v := ?_) rfl ?_ ?_; rotate_left; focus (intro w hSw; (try dsimp only at hSw); go_simp; (try rw [if_neg (by omega)]); (try with_reducible rfl))
 try simp only [Act.put, zp1, zp2, zp3]
 clear e0 e1 e2 e3 e4 elt
 refine wpAnyH_ready (rs := [3]) (by kernel_rfl) (by simp) ?_
 refine AllReadyH.cons rfl (fun K hK => ?_) AllReadyH.nil
 go_simp
 refine (l20ExDeed_any rb q O E M _ _ ps _ hX.drew.rdr (by omega) (Rds.ofOwns hX.drew.own.plan) ⟨_, _, _, rfl⟩ hX.ln hX.st (fun a n' c h e => by rcases hX.rb1 with h1 | h1 <;> simp [h, Value.ownBlock] at h1; exact h1 (by simpa using e))).mono ?_
 rintro en w3 ⟨k, l, s, q3, rfl, hs8, hqa, hqb, hr3, hg3⟩
 have hX4 := hX.drew.pick hr3 hg3
 have hZ4 := hZ2.drew.gb hg3 (by omega)
 have hQ4 := hQ2.drew.gb hg3 (by omega)
 clear hX hZ2 hQ2 hr3 hg3
 refine hK.out _ _ (by obtain ⟨e0, e1, e2, e3, e4, -⟩ := hX4.box.five; exact ⟨e0, e1, e2, e3, e4⟩) (fun hHeld2 => ?_)
 clear hHeld hK K; have hHeld := hHeld2; clear hHeld2; try simp only [Act.put, zp1, zp2, zp3]
 have hQ5 := Blk.gb (five_gb _ w.heap.size (.int .i64 O) (.int .i64 E) (.int .i64 M) (.slice ap ps.length cp) (.slice ac cs.length cc)) (show w.heap.size + 1 ≠ w.heap.size by omega) hQ4
 obtain ⟨p0, p1, p2, p3, p4, f0, f1, f2, f3, f4, plt⟩ := hZ4.five
 have hXd := hX4.done (.int .i64 O) (.int .i64 E) (.int .i64 M) (.slice ap ps.length cp) (.slice ac cs.length cc)
 have hbx := Blk.gb (five_gb _ w.heap.size (.int .i64 O) (.int .i64 E) (.int .i64 M) (.slice ap ps.length cp) (.slice ac cs.length cc)) (show w2.heap.size ≠ w.heap.size by omega) hX4.box
 have hZe := (five_set (y0 := .int .i64 O) (y1 := .int .i64 E) (y2 := .int .i64 M) (y3 := .slice ap ps.length cp) (y4 := .slice ac cs.length cc) hZ4)
 refine wpAnyH_ready (rs := [4]) (by kernel_rfl) (by simp) ?_
 refine AllReadyH.cons rfl (fun K hK => ?_) AllReadyH.nil
 go_simp
 refine hK.out _ _ (by obtain ⟨e0, e1, e2, e3, e4, -⟩ := hbx.five; exact ⟨e0, e1, e2, e3, e4⟩) (fun hHeld2 => ?_)
 clear hHeld hK K; have hHeld := hHeld2; clear hHeld2; try simp only [Act.put, zp1, zp2, zp3]
 obtain ⟨d0, d1, d2, g0, g1, g2, dlt⟩ := hQ5.three
 have hQe := ((hQ5.set (i := 0) (u := .int .i64 k) rfl).set (i := 1) (u := .int .i64 l) rfl).set (i := 2) (u := .string s) rfl
 have hbe := ((hbx.other (a := ⟨w.heap.size + 1, 0, none⟩) (u := .int .i64 k) (by show w2.heap.size ≠ w.heap.size + 1; omega)).other (a := ⟨w.heap.size + 1, 1, none⟩) (u := .int .i64 l) (by show w2.heap.size ≠ w.heap.size + 1; omega)).other (a := ⟨w.heap.size + 1, 2, none⟩) (u := .string s) (by show w2.heap.size ≠ w.heap.size + 1; omega)
 have hZf := ((hZe.other (a := ⟨w.heap.size + 1, 0, none⟩) (u := .int .i64 k) (by show w.heap.size ≠ w.heap.size + 1; omega)).other (a := ⟨w.heap.size + 1, 1, none⟩) (u := .int .i64 l) (by show w.heap.size ≠ w.heap.size + 1; omega)).other (a := ⟨w.heap.size + 1, 2, none⟩) (u := .string s) (by show w.heap.size ≠ w.heap.size + 1; omega)
 have hXe := hXd.deed (w.heap.size + 1) k l s (by omega) (hX4.low (by have := hX4.big; omega)).1 (hX4.low (by have := hX4.big; omega)).2
 refine wpAnyH_ready (rs := [5]) (by kernel_rfl) (by simp) ?_
 refine AllReadyH.cons rfl (fun K hK => ?_) AllReadyH.nil
 go_simp
 refine hK.out _ _ (by obtain ⟨e0, e1, e2, e3, e4, -⟩ := hbe.five; exact ⟨e0, e1, e2, e3, e4⟩) (fun hHeld2 => ?_)
 clear hHeld hK K; have hHeld := hHeld2; clear hHeld2; try simp only [Act.put, zp1, zp2, zp3]
 refine wpAnyH_done (by kernel_rfl) ?_ _
 clear hHeld
 go_wp2
 obtain ⟨z0, z1, z2, z3, z4, -⟩ := hZf.five
 obtain ⟨y0, y1, y2, -⟩ := hQe.three
 refine bodyPost_ret (v := .tuple #[.agg #[.int .i64 O, .int .i64 E, .int .i64 M, .slice ap ps.length cp, .slice ac cs.length cc], .agg #[.int .i64 k, .int .i64 l, .string s]]) (by simp [results, Try.results49, go_sem, z0, z1, z2, z3, z4, y0, y1, y2]) rfl ?_
 exact ⟨O, E, M, k, l, s, _, _, _, _, rfl, hs8, hXe⟩


end Go.Proofs.Ytedadhoneebfnaa
