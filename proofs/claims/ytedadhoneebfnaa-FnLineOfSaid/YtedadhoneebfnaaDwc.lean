/- The draw of an exchange and a text. -/
import Derived.Test.YtedadhoneebfnaaDwa
set_option linter.unusedSimpArgs false
set_option linter.unusedVariables false
namespace Go.Proofs.Ytedadhoneebfnaa
open Go.RowKit

/-- An exchange and a text. -/
def DrawnS (w : World) (e : Ending) (w' : World) : Prop := ∃ (O E M : Int) (s : ByteArray) (vp vc : Value) (ps : List ByteArray) (cs : List Cl), e = .returned (.tuple #[.agg #[.int .i64 O, .int .i64 E, .int .i64 M, vp, vc], .string s]) ∧ s.size ≤ 8 ∧ Drawn w w' vp vc ps cs

set_option maxRecDepth 100000 in
set_option maxHeartbeats 4000000 in
theorem DrawLineOf_any (a : Option Addr) (len cap : Nat) (zs : List Int) (w : World) (h : Code w a len cap zs) :
  Calls Try.prog 44 #[.slice a len cap] w (DrawnS w) := by
 have hZ := Blk.new (w := w) (cs := #[.int .i64 0, .int .i64 0, .int .i64 0, .slice none 0 0, .slice none 0 0]) (T := 33) rfl
 have hb0 : Below w.heap.size w (w.alloc (.cells #[.int .i64 0, .int .i64 0, .int .i64 0, .slice none 0 0, .slice none 0 0] 33)) := by (exact grownA)
 go_enter Try.func44, Try.ntmps44
 go_wp2_with fail
 refine (open_any _ _ _ _ _ (h.below hb0)).mono ?_
 rintro e w1 ⟨rb, rfl, hrb, hr, hb1⟩
 have hZ1 := hZ.belowAll hb1
 have hB1 := hb0.trans (Below.mono hb1 hb0.size)
 simp only [World.size_alloc] at hrb
 have hrw := hr.lt
 clear hZ hb0 hb1
 go_wp2_with fail
 refine (l20Exchange_any rb 0 _ _ hr (by omega) (by omega)).mono ?_
 rintro e w2 ⟨O, E, M, vp, vc, ps, cs, q, rfl, ho, hl, hc, hs, -, hq, hrd, hg⟩
 have hX := DrB.of (O := O) (E := E) (M := M) (w0 := w) hrb hrw hB1 hg hrd ho hl hc hs
 have hZ2 := (hZ1.gb hg (by omega)).alloc (.cells #[.int .i64 O, .int .i64 E, .int .i64 M, vp, vc] 33)
 have hwlt : w.heap.size < w2.heap.size := by have := hZ1.lt; have := hg.size; omega
 clear hZ1 hB1 hr hg hrd ho hrw h
 have hln := hX.ln
 have hbig := hX.big
 obtain ⟨ap, cp, ac, cc, rfl, rfl⟩ := agg_parts hX.own
 obtain ⟨n, hn⟩ : ∃ n, ps.length = n := ⟨_, rfl⟩
 have HN := Lib.hid hn
 rw [hn] at hX hZ2 hln ⊢
 clear hn hl
 go_upto_region 3 with fail
 go_cut [18] (fun t18 wc => ∃ (b : Bool) (q' : Nat), t18 = .bool b ∧ (b = true → 0 < n) ∧ q ≤ q' ∧ q' ≤ q + 1 ∧ DrB w wc rb q' w2.heap.size O E M (.slice ap n cp) (.slice ac cs.length cc) ps cs ∧ Blk wc w.heap.size #[.int .i64 0, .int .i64 0, .int .i64 0, .slice none 0 0, .slice none 0 0] 33)
 case first =>
  obtain ⟨e0, e1, e2, e3, e4, -, -, -, -, -, elt⟩ := hX.box.five
  by_cases hn0 : n = 0
  ·
   subst hn0
   go_wp2_with fail
   go_meet
   exact ⟨false, q, rfl, (fun h => by cases h), by omega, by omega, hX, hZ2⟩
  ·
   have hn1 : (0 : Int) < (n : Int) := by omega
   go_wp2_with fail
   refine (pick_any rb q _ _ hX.rdr (by omega) (by omega)).mono ?_
   rintro en w3 ⟨y, rfl, hya, hyb, hr3, hg3⟩
   have hX3 := hX.pick hr3 hg3
   have hZ3 := hZ2.gb hg3 (by omega)
   clear hX hZ2 hr3 hg3 e0 e1 e2 e3 e4 elt
   go_wp2_with fail
   go_meet
   exact ⟨_, q + 1, rfl, fun _ => by omega, by omega, by omega, hX3, hZ3⟩
 case rest =>
 clear hX hZ2
 obtain ⟨b, q', rfl, hbn, hqa, hqb, hX, hZ2⟩ := hcut
 generalize wc = w5 at *
 have hwlt5 : w.heap.size < w5.heap.size := hZ2.lt
 cases b
 ·
  clear hbn
  obtain ⟨e0, e1, e2, e3, e4, -, -, -, -, -, elt⟩ := hX.box.five
  go_wp2_with fail
  refine wp_region_held_drew (S := fun w' => w'.cell? ⟨w2.heap.size, 0, none⟩ = some (.int .i64 O) ∧ w'.cell? ⟨w2.heap.size, 1, none⟩ = some (.int .i64 E) ∧ w'.cell? ⟨w2.heap.size, 2, none⟩ = some (.int .i64 M) ∧ w'.cell? ⟨w2.heap.size, 3, none⟩ = some (.slice ap n cp) ∧ w'.cell? ⟨w2.heap.size, 4, none⟩ = some (.slice ac cs.length cc)) (by kernel_rfl) ⟨e0, e1, e2, e3, e4⟩ (fun hHeld => ?_)
  refine take_y 0 29 (v := ?_) rfl ?_ ?_; rotate_left; focus (intro w hSw; (try dsimp only at hSw); go_simp; (try rw [if_neg (by omega)]); (try with_reducible rfl))
  try simp only [Act.put, zp1, zp2, zp3]
  refine take_y 1 30 (v := ?_) rfl ?_ ?_; rotate_left; focus (intro w hSw; (try dsimp only at hSw); go_simp; (try rw [if_neg (by omega)]); (try with_reducible rfl))
  try simp only [Act.put, zp1, zp2, zp3]
  clear e0 e1 e2 e3 e4 elt
  refine wpAnyH_ready (rs := [2]) (by kernel_rfl) (by simp) ?_
  refine AllReadyH.cons rfl (fun K hK => ?_) AllReadyH.nil
  go_simp
  refine (l20Digits_any rb q' 4 _ hX.drew.rdr (by omega) (by omega) (by omega)).mono ?_
  rintro en w3 ⟨s, q3, rfl, hs4, -, hqc, hqd, hr3, hg3⟩
  have hX4 := hX.drew.pick hr3 hg3
  have hZ4 := hZ2.drew.gb hg3 (by omega)
  clear hX hZ2 hr3 hg3
  refine hK.out _ _ (by obtain ⟨e0, e1, e2, e3, e4, -⟩ := hX4.box.five; exact ⟨e0, e1, e2, e3, e4⟩) (fun hHeld2 => ?_)
  clear hHeld hK K; have hHeld := hHeld2; clear hHeld2; try simp only [Act.put, zp1, zp2, zp3]
  obtain ⟨p0, p1, p2, p3, p4, f0, f1, f2, f3, f4, plt⟩ := hZ4.five
  have hXd := hX4.done (.int .i64 O) (.int .i64 E) (.int .i64 M) (.slice ap n cp) (.slice ac cs.length cc)
  have hbx := Blk.gb (five_gb _ w.heap.size (.int .i64 O) (.int .i64 E) (.int .i64 M) (.slice ap n cp) (.slice ac cs.length cc)) (show w2.heap.size ≠ w.heap.size by omega) hX4.box
  have hZe := (five_set (y0 := .int .i64 O) (y1 := .int .i64 E) (y2 := .int .i64 M) (y3 := .slice ap n cp) (y4 := .slice ac cs.length cc) hZ4)
  refine wpAnyH_ready (rs := [3]) (by kernel_rfl) (by simp) ?_
  refine AllReadyH.cons rfl (fun K hK => ?_) AllReadyH.nil
  go_simp
  refine hK.out _ _ (by obtain ⟨e0, e1, e2, e3, e4, -⟩ := hbx.five; exact ⟨e0, e1, e2, e3, e4⟩) (fun hHeld2 => ?_)
  clear hHeld hK K; have hHeld := hHeld2; clear hHeld2; try simp only [Act.put, zp1, zp2, zp3]
  refine take_y 4 3 (v := ?_) rfl ?_ ?_; rotate_left; focus (intro w hSw; (try dsimp only at hSw); go_simp; (try rw [if_neg (by omega)]); (try with_reducible rfl))
  try simp only [Act.put, zp1, zp2, zp3]
  refine wpAnyH_done (by kernel_rfl) ?_ _
  clear hHeld
  go_wp2
  obtain ⟨z0, z1, z2, z3, z4, -⟩ := hZe.five
  refine bodyPost_ret (v := .tuple #[.agg #[.int .i64 O, .int .i64 E, .int .i64 M, .slice ap n cp, .slice ac cs.length cc], .string s]) (by simp [results, Try.results44, go_sem, z0, z1, z2, z3, z4]) rfl ?_
  exact ⟨_, _, _, s, _, _, _, _, rfl, by omega, hXd⟩
 ·
  have hpos := hbn rfl
  clear hbn
  obtain ⟨gp, cp', hsl, hgp, hOP⟩ := own_head hX.own.plan (by rw [HN.out]; exact hpos)
  rw [HN.out] at hsl
  cases hsl
  obtain ⟨e0, e1, e2, e3, e4, -, -, -, -, -, elt⟩ := hX.box.five
  go_wp2_with fail
  refine wp_region_held_drew (S := fun w' => w'.cell? ⟨w2.heap.size, 0, none⟩ = some (.int .i64 O) ∧ w'.cell? ⟨w2.heap.size, 1, none⟩ = some (.int .i64 E) ∧ w'.cell? ⟨w2.heap.size, 2, none⟩ = some (.int .i64 M) ∧ w'.cell? ⟨w2.heap.size, 3, none⟩ = some (.slice (some ⟨gp, 0, none⟩) n cp) ∧ w'.cell? ⟨w2.heap.size, 4, none⟩ = some (.slice ac cs.length cc)) (by kernel_rfl) ⟨e0, e1, e2, e3, e4⟩ (fun hHeld => ?_)
  refine take_y 0 19 (v := ?_) rfl ?_ ?_; rotate_left; focus (intro w hSw; (try dsimp only at hSw); go_simp; (try rw [if_neg (by omega)]); (try with_reducible rfl))
  try simp only [Act.put, zp1, zp2, zp3]
  refine take_y 1 20 (v := ?_) rfl ?_ ?_; rotate_left; focus (intro w hSw; (try dsimp only at hSw); go_simp; (try rw [if_neg (by omega)]); (try with_reducible rfl))
  try simp only [Act.put, zp1, zp2, zp3]
  refine take_y 2 21 (v := ?_) rfl ?_ ?_; rotate_left; focus (intro w hSw; (try dsimp only at hSw); go_simp; (try rw [if_neg (by omega)]); (try with_reducible rfl))
  try simp only [Act.put, zp1, zp2, zp3]
  refine take_y 3 22 (v := ?_) rfl ?_ ?_; rotate_left; focus (intro w hSw; (try dsimp only at hSw); go_simp; (try rw [if_neg (by omega)]); (try with_reducible rfl))
  try simp only [Act.put, zp1, zp2, zp3]
  refine take_y 4 23 (v := ?_) rfl ?_ ?_; rotate_left; focus (intro w hSw; (try dsimp only at hSw); go_simp; (try rw [if_neg (by omega)]); (try with_reducible rfl))
  try simp only [Act.put, zp1, zp2, zp3]
  refine take_y 5 24 (v := ?_) rfl ?_ ?_; rotate_left; focus (intro w hSw; (try dsimp only at hSw); go_simp; (try rw [if_neg (by omega)]); (try with_reducible rfl))
  try simp only [Act.put, zp1, zp2, zp3]
  refine take_y 6 25 (v := ?_) rfl ?_ ?_; rotate_left; focus (intro w hSw; (try dsimp only at hSw); go_simp; (try rw [if_neg (by omega)]); (try with_reducible rfl))
  try simp only [Act.put, zp1, zp2, zp3]
  clear e0 e1 e2 e3 e4 elt
  refine wpAnyH_ready (rs := [7]) (by kernel_rfl) (by simp) ?_
  refine AllReadyH.cons rfl (fun K hK => ?_) AllReadyH.nil
  go_simp
  refine (pick_any rb q' _ _ hX.drew.rdr (by omega) (by omega)).mono ?_
  rintro en w3 ⟨y, rfl, hya, hyb, hr3, hg3⟩
  have hX4 := hX.drew.pick hr3 hg3
  have hZ4 := hZ2.drew.gb hg3 (by omega)
  have hy : y < (n : Int) := by omega
  obtain ⟨k, rfl⟩ := Int.eq_ofNat_of_zero_le hya
  have hk : k < ps.length := by rw [HN.out]; omega
  obtain ⟨s, hs⟩ : ∃ s, ps[k]? = some s := ⟨_, List.getElem?_eq_getElem hk⟩
  have hs8 := hX4.st s (List.mem_of_getElem? hs)
  have hO4 := (by have h9 := hX4.own.plan; rw [HN.out] at h9; exact (Own.of h9).1 : Own w3 gp n cp 9 1 (strs ps))
  have c4 : w3.cell? ⟨gp, k, none⟩ = some (.string s) := (hO4.cell k (by omega)).trans (strs_at _ _ _ hs)
  have hcaps := hO4.caps
  clear hX hZ2 hr3 hg3 hs hyb
  refine hK.out _ _ (by obtain ⟨e0, e1, e2, e3, e4, -⟩ := hX4.box.five; exact ⟨e0, e1, e2, e3, e4⟩) (fun hHeld2 => ?_)
  clear hHeld hK K; have hHeld := hHeld2; clear hHeld2; try simp only [Act.put, zp1, zp2, zp3]
  refine wpAnyH_weak (S' := fun w' => (w'.cell? ⟨w2.heap.size, 0, none⟩ = some (.int .i64 O) ∧ w'.cell? ⟨w2.heap.size, 1, none⟩ = some (.int .i64 E) ∧ w'.cell? ⟨w2.heap.size, 2, none⟩ = some (.int .i64 M) ∧ w'.cell? ⟨w2.heap.size, 3, none⟩ = some (.slice (some ⟨gp, 0, none⟩) n cp) ∧ w'.cell? ⟨w2.heap.size, 4, none⟩ = some (.slice ac cs.length cc)) ∧ w'.cell? ⟨gp, k, none⟩ = some (.string s)) (fun _ h => h.1) _ _ _ _ ?_
  have hHeld2 := And.intro hHeld c4
  clear hHeld
  have hHeld := hHeld2
  clear hHeld2
  have i1 : (0 : Int) ≤ (k : Int) := by omega
  refine take_y 8 27 (v := ?_) rfl ?_ ?_; rotate_left; focus (intro w hSw; (try dsimp only at hSw); go_simp; (try rw [if_neg (by omega)]); (try with_reducible rfl))
  try simp only [Act.put, zp1, zp2, zp3]
  refine take_y 9 28 (v := ?_) rfl ?_ ?_; rotate_left; focus (intro w hSw; (try dsimp only at hSw); go_simp; (try rw [if_neg (by omega)]); (try with_reducible rfl))
  try simp only [Act.put, zp1, zp2, zp3]
  obtain ⟨p0, p1, p2, p3, p4, f0, f1, f2, f3, f4, plt⟩ := hZ4.five
  have hXd := hX4.done (.int .i64 O) (.int .i64 E) (.int .i64 M) (.slice (some ⟨gp, 0, none⟩) n cp) (.slice ac cs.length cc)
  have hbx := Blk.gb (five_gb _ w.heap.size (.int .i64 O) (.int .i64 E) (.int .i64 M) (.slice (some ⟨gp, 0, none⟩) n cp) (.slice ac cs.length cc)) (show w2.heap.size ≠ w.heap.size by omega) hX4.box
  have hZe := (five_set (y0 := .int .i64 O) (y1 := .int .i64 E) (y2 := .int .i64 M) (y3 := .slice (some ⟨gp, 0, none⟩) n cp) (y4 := .slice ac cs.length cc) hZ4)
  have hgne : ¬ w.heap.size = gp := by omega
  have c5 := keep_other (a := ⟨w.heap.size, 4, none⟩) (u := .slice ac cs.length cc) (fun e => hgne e.symm) (keep_other (a := ⟨w.heap.size, 3, none⟩) (u := .slice (some ⟨gp, 0, none⟩) n cp) (fun e => hgne e.symm) (keep_other (a := ⟨w.heap.size, 2, none⟩) (u := .int .i64 M) (fun e => hgne e.symm) (keep_other (a := ⟨w.heap.size, 1, none⟩) (u := .int .i64 E) (fun e => hgne e.symm) (keep_other (a := ⟨w.heap.size, 0, none⟩) (u := .int .i64 O) (fun e => hgne e.symm) c4))))
  refine wpAnyH_ready (rs := [10]) (by kernel_rfl) (by simp) ?_
  refine AllReadyH.cons rfl (fun K hK => ?_) AllReadyH.nil
  go_simp
  refine hK.out _ _ (by obtain ⟨e0, e1, e2, e3, e4, -⟩ := hbx.five; exact ⟨⟨e0, e1, e2, e3, e4⟩, c5⟩) (fun hHeld2 => ?_)
  clear hHeld hK K; have hHeld := hHeld2; clear hHeld2; try simp only [Act.put, zp1, zp2, zp3]
  refine take_y 11 3 (v := ?_) rfl ?_ ?_; rotate_left; focus (intro w hSw; (try dsimp only at hSw); go_simp; (try rw [if_neg (by omega)]); (try with_reducible rfl))
  try simp only [Act.put, zp1, zp2, zp3]
  refine wpAnyH_done (by kernel_rfl) ?_ _
  clear hHeld
  go_wp2
  obtain ⟨z0, z1, z2, z3, z4, -⟩ := hZe.five
  refine bodyPost_ret (v := .tuple #[.agg #[.int .i64 O, .int .i64 E, .int .i64 M, .slice (some ⟨gp, 0, none⟩) n cp, .slice ac cs.length cc], .string s]) (by simp [results, Try.results44, go_sem, z0, z1, z2, z3, z4]) rfl ?_
  exact ⟨_, _, _, s, _, _, _, _, rfl, hs8, hXd⟩


end Go.Proofs.Ytedadhoneebfnaa
