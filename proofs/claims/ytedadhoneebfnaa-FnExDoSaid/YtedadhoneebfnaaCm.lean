/- Contract of CallMove (program). -/
import Derived.Test.YtedadhoneebfnaaJ7
import Derived.Deep.LoopGhost
set_option linter.unusedSimpArgs false
set_option linter.unusedVariables false
namespace Go.Proofs.Ytedadhoneebfnaa
open Go.RowKit

/-- Calls made anew, and true. -/
def MvPost (cs : List Cl) (w : World) (e : Ending) (w' : World) : Prop := ∃ v, e = .returned (.tuple #[v, .bool true]) ∧ w'.ownsRow w.heap.size 57 3 v cs.length (ccells cs) ∧ Below w.heap.size w w'
theorem free_lt {E : Int} {m : Nat} {cs : List Cl} {x y : Int} : (freeL E m cs x y).length ≤ m := by
 rw [← freeTo_all]; exact freeTo_len E m cs x y m
/-- One call behind the others. -/
theorem ccells_snoc (cs : List Cl) (x y z : Int) : ccells cs ++ [.int .i64 x, .int .i64 y, .int .i64 z] = ccells (cs ++ [(x, y, z)]) := by simp [ccells, List.flatMap_append]

set_option maxRecDepth 100000 in
set_option maxHeartbeats 4000000 in
theorem iCallMove_any (O E : Int) (m : Nat) (v : Value) (cs : List Cl) (x y : Int) (w : World) (hok : CallsOk O E m cs) (hem : E ≤ m) (hv : Rds w v cs.length 3 (ccells cs)) (hx : 0 ≤ x ∧ x < O * E) (hy : 0 ≤ y ∧ y < O * E) (hf : freeB cs x y) :
  Calls Try.prog 112 #[.agg #[.int .i64 O, .int .i64 E, .int .i64 m], v, .int .i64 x, .int .i64 y] w (MvPost (moveL E m cs x y) w) := by
 obtain ⟨i0, hi, hz0, hz1, hz2⟩ := info_parts infoC
 have hm5 := hok.sh.m
 have he := hok.sh.e
 have HOK := Lib.hid hok
 have HEM := Lib.hid hem
 have HX := Lib.hid hx
 have HY := Lib.hid hy
 have HF := Lib.hid hf
 have hcn := hok.count (lines_le hok.sh)
 have hOE := lines_le hok.sh
 have hB := Blk.new (w := w) (cs := #[.int .i64 O, .int .i64 E, .int .i64 (m : Nat)]) (T := 30) rfl
 have hbel0 : Below w.heap.size w (w.alloc (.cells #[.int .i64 O, .int .i64 E, .int .i64 (m : Nat)] 30)) := by (exact grownA)
 have HV := Lib.hid hv
 obtain ⟨_, _, a, ca, rfl, _⟩ := hv
 have HCB := Lib.hid ((callsB_iff O E m cs).2 hok)
 have HEN : Hid (enoughB O E m = true) := (enoughB_iff O E m).2 ⟨hok.sh, hem⟩
 have hE0 : (E == 0) = false := by simp; omega
 have hE1 : ¬ E = 0 := by omega
 obtain ⟨dx, hdx⟩ : ∃ d, x / E = d := ⟨_, rfl⟩
 obtain ⟨dy, hdy⟩ : ∃ d, y / E = d := ⟨_, rfl⟩
 have hw1 : IntKind.i64.wrap (x / E) = x / E := wrap_quo (by omega) (L := O * E) (by omega) hOE (by omega)
 have hw2 : Int.tdiv x E = x / E := Int.tdiv_eq_ediv_of_nonneg (by omega)
 have hw3 : IntKind.i64.wrap (y / E) = y / E := wrap_quo (by omega) (L := O * E) (by omega) hOE (by omega)
 have hw4 : Int.tdiv y E = y / E := Int.tdiv_eq_ediv_of_nonneg (by omega)
 rw [hdx] at hw1 hw2
 rw [hdy] at hw3 hw4
 have HDX := Lib.hid hdx
 have HDY := Lib.hid hdy
 obtain ⟨t1, t2, t3, _, _, _, tlt⟩ := hB.three
 have hx0 := hx.1
 have hy0 := hy.1
 clear hok hf hdx hdy hx hy hem
 go_enter Try.func112, Try.ntmps112
 go_wp2_with fail
 refine (iEnough_any _ _ _ _).mono ?_
 rintro e w1 ⟨rfl, hb1⟩
 have hbel1 : Below w.heap.size w w1 := by (exact grownA)
 have hB1 := hB.below hb1 (by simp)
 rw [HEN.out]
 clear hB hb1 t1 t2 t3 tlt hbel0
 obtain ⟨t1, t2, t3, _, _, _, tlt⟩ := hB1.three
 go_wp2_with fail
 refine (iCallsValid_any _ _ _ _ _ _ (HV.out.below hbel1)).mono ?_
 rintro e w2 ⟨rfl, hb2⟩
 have hbel2 : Below w.heap.size w w2 := by (exact grownA)
 have hB2 := hB1.belowAll hb2
 rw [HCB.out]
 clear hB1 hb2 t1 t2 t3 tlt hbel1
 obtain ⟨t1, t2, t3, _, _, _, tlt⟩ := hB2.three
 go_wp2_with fail
 refine (copyCalls_any _ _ _ (HV.out.below hbel2) (by omega)).mono ?_
 rintro e w3 ⟨g, cap, rfl, hg, ho3, hb3⟩
 have hbel3 : Below w.heap.size w w3 := by (exact grownA)
 have hB3 := hB2.belowAll hb3
 have hg0 : w.heap.size < g := by have := hB2.lt; omega
 clear hB2 hb3 t1 t2 t3 tlt hbel2 hg
 obtain ⟨t1, t2, t3, _, _, _, tlt⟩ := hB3.three
 go_wp2_with fail
 refine (linesFree_any _ _ _ _ _ _ _ _ HOK.out.sh (HV.out.below hbel3) HX.out HY.out HF.out).mono ?_
 rintro e w4 ⟨rfl, hb4⟩
 have hbel4 : Below w.heap.size w w4 := by (exact grownA)
 have hB4 := hB3.belowAll hb4
 have ho4 := ho3.below hb4 ho3.lt
 clear hB3 hb4 t1 t2 t3 tlt hbel3 ho3
 obtain ⟨t1, t2, t3, _, _, _, tlt⟩ := hB4.three
 go_wp2_with fail
 refine (iMiddleFree_any _ _ _ _ _ _ _ _ HOK.out (HV.out.below hbel4) HX.out HY.out HF.out).mono ?_
 rintro e w5 ⟨vf, rfl, of5, hb5⟩
 have hbel5 : Below w.heap.size w w5 := by (exact grownA)
 have hB5 := hB4.belowAll hb5
 have ho5 := ho4.below hb5 ho4.lt
 clear hB4 hb5 t1 t2 t3 tlt hbel4 ho4
 obtain ⟨t1, t2, t3, _, _, _, tlt⟩ := hB5.three
 obtain ⟨fr, hfr⟩ : ∃ f, freeL E m cs x y = f := ⟨_, rfl⟩
 have hfl : fr.length ≤ m := by rw [← hfr]; exact free_lt
 rw [hfr] at of5
 have HFR := Lib.hid hfr
 clear hfr
 obtain ⟨af, cf, rfl, _, _, _, hcf⟩ := (Rds.ofOwns of5).open1
 have hln : 0 ≤ (cs.length : Int) := by omega
 cases fr with
 | cons f fr =>
  simp only [List.length_cons] at hcf hfl ⊢
  rcases hcf with hcf | ⟨bf, off, rfl, hbf, hcf⟩
  ·
   omega
  have q1 := hcf 0 (by omega)
  rw [show (ivs (f :: fr))[0]? = some (.int .i64 f) from rfl] at q1
  simp only [Nat.add_zero] at q1
  have HM : Hid (moveL E m cs x y = cs ++ [(x, y, f)]) := by unfold Hid moveL; rw [HFR.out]
  have hlp : (0 : Int) < ((fr.length + 1 : Nat) : Int) := by omega
  clear of5 hcf
  go_wp2_with (at_builtin; refine wpList_append_own _ rfl _ _ 31 rfl w.heap.size 57 i0 _ 3 24 Try.underlying31 hi hz0 hz1 hz2 rfl (by decide) _ _ _ rfl ((ho5.back (by omega)).alloc _) ⟨w5.heap.size, 0, none⟩ 1 1 [.int .i64 x, .int .i64 y, .int .i64 f] rfl rfl (news3 _ _ _ _ _ _ (by first | rfl | simp)) (oneC _ _ _) (by unfold maxLen; omega) (by omega) (by simp; omega) ?_; intro v' w6 hown' hgrow _)
  have hbel6 : Below w.heap.size w w6 := Below.grown (by (exact grownA)) hgrow (by simp; omega) (own_ge (ho5.back (Nat.le_of_lt hg0)))
  clear hgrow q1
  go_wp2
  go_returns
  unfold MvPost
  rw [HM.out]
  refine ⟨_, rfl, ?_, hbel6⟩
  rw [List.length_append, ← ccells_snoc]
  exact hown'
 | nil =>
  have hcx := mv_cx HOK.out HEM.out HX.out HY.out HF.out
  have hea := first_ex (m := m) HOK.out rfl HEM.out false HX.out.1 (fun c hc => by simpa using (HF.out c hc).1)
  have heb := first_ex (m := m) HOK.out rfl HEM.out true HY.out.1 (fun c hc => by simpa using (HF.out c hc).2)
  obtain ⟨fa, hfa⟩ : ∃ a, firstL E m cs false (x / E) = a := ⟨_, rfl⟩
  obtain ⟨fb, hfb⟩ : ∃ b, firstL E m cs true (y / E) = b := ⟨_, rfl⟩
  rw [hfa, hfb] at hcx
  have HM : Hid (moveL E m cs x y = flipL fa fb (chainL E fa fb cs y) cs ++ [(x, y, fa)]) := by unfold Hid moveL; rw [HFR.out]; simp only [hfa, hfb]
  have HEA := Lib.hid hea
  have HEB := Lib.hid heb
  have HFA := Lib.hid hfa
  have HFB := Lib.hid hfb
  have HCX := Lib.hid hcx
  have hxe : IntKind.i64.wrap (x / E) = dx := by rw [HDX.out]; exact hw1
  clear of5 hcf hcx hea heb hfa hfb hxe
  go_wp2_with fail
  refine wp_region_held_drew (S := fun w' => w'.cell? ⟨w.heap.size, 0, none⟩ = some (.int .i64 O) ∧ w'.cell? ⟨w.heap.size, 1, none⟩ = some (.int .i64 E) ∧ w'.cell? ⟨w.heap.size, 2, none⟩ = some (.int .i64 (m : Nat))) (by kernel_rfl) (by (try dsimp only); (exact keepA)) (fun hHeld => ?_)
  refine take_y 0 50 (v := ?_) rfl ?_ ?_; rotate_left; focus (intro w hSw; (try dsimp only at hSw); go_simp; (try rw [if_neg (by omega)]); (try with_reducible rfl))
  try simp only [Act.put, zp1, zp2, zp3]
  refine take_y 1 51 (v := ?_) rfl ?_ ?_; rotate_left; focus (intro w hSw; (try dsimp only at hSw); go_simp; (try rw [if_neg (by omega)]); (try with_reducible rfl))
  try simp only [Act.put, zp1, zp2, zp3]
  refine take_y 2 52 (v := ?_) rfl ?_ ?_; rotate_left; focus (intro w hSw; (try dsimp only at hSw); go_simp; (try rw [if_neg (by omega)]); (try with_reducible rfl))
  try simp only [Act.put, zp1, zp2, zp3]
  refine take_y 3 53 (v := ?_) rfl ?_ ?_; rotate_left; focus (intro w hSw; (try dsimp only at hSw); go_simp; (try rw [if_neg (by omega)]); (try with_reducible rfl))
  try simp only [Act.put, zp1, zp2, zp3]
  refine take_y 4 54 (v := ?_) rfl ?_ ?_; rotate_left; focus (intro w hSw; (try dsimp only at hSw); go_simp; (try rw [if_neg (by omega)]); (try with_reducible rfl))
  try simp only [Act.put, zp1, zp2, zp3]
  refine take_y 5 55 (v := ?_) rfl ?_ ?_; rotate_left; focus (intro w hSw; (try dsimp only at hSw); go_simp; (try rw [if_neg (by omega)]); (try with_reducible rfl))
  try simp only [Act.put, zp1, zp2, zp3]
  refine wpAnyH_ready (rs := [6]) (by kernel_rfl) (by simp) ?_
  refine AllReadyH.cons rfl (fun K hK => ?_) AllReadyH.nil
  go_simp
  refine (middlesFrom_any _ _ _ _ _ _ _ HOK.out ((HV.out.below hbel5).drewN 1)).mono ?_
  rintro e w6 ⟨g1, rfl, hg1, ho1, hb6⟩
  refine hK.out _ _ againA (fun hHeld2 => ?_); clear hHeld hK K; have hHeld := hHeld2; clear hHeld2; (try simp only [Act.put, zp1, zp2, zp3])
  have hbel6 : Below w.heap.size w w6 := (hbel5.drew).trans (Below.mono hb6 hbel5.size)
  have hB6 := hB5.drew.belowAll hb6
  have ho6 := (Own.drew ho5).below hb6 ho5.lt
  refine wpAnyH_ready (rs := [7]) (by kernel_rfl) (by simp) ?_
  refine AllReadyH.cons rfl (fun K hK => ?_) AllReadyH.nil
  go_simp
  rw [← HDX.out] at ho1
  refine (firstUnused_any E m cs false (x / E) _ _ _ (by omega) HEA.out ho1).mono ?_
  rintro e w7 ⟨rfl, rfl⟩
  rw [HFA.out]
  refine hK.out _ _ againA (fun hHeld2 => ?_); clear hHeld hK K; have hHeld := hHeld2; clear hHeld2; (try simp only [Act.put, zp1, zp2, zp3])
  refine take_y 8 12 (v := ?_) rfl ?_ ?_; rotate_left; focus (intro w hSw; (try dsimp only at hSw); go_simp; (try rw [if_neg (by omega)]); (try with_reducible rfl))
  try simp only [Act.put, zp1, zp2, zp3]
  refine wpAnyH_done (by kernel_rfl) ?_ _
  clear hHeld hB5 t1 t2 t3 tlt ho1 hb6 hbel5 ho5
  obtain ⟨t1, t2, t3, _, _, _, tlt⟩ := hB6.three
  go_wp2_with fail
  refine wp_region_held_drew (S := fun w' => w'.cell? ⟨w.heap.size, 0, none⟩ = some (.int .i64 O) ∧ w'.cell? ⟨w.heap.size, 1, none⟩ = some (.int .i64 E) ∧ w'.cell? ⟨w.heap.size, 2, none⟩ = some (.int .i64 (m : Nat))) (by kernel_rfl) (by (try dsimp only); (exact keepA)) (fun hHeld => ?_)
  refine take_y 0 58 (v := ?_) rfl ?_ ?_; rotate_left; focus (intro w hSw; (try dsimp only at hSw); go_simp; (try rw [if_neg (by omega)]); (try with_reducible rfl))
  try simp only [Act.put, zp1, zp2, zp3]
  refine take_y 1 59 (v := ?_) rfl ?_ ?_; rotate_left; focus (intro w hSw; (try dsimp only at hSw); go_simp; (try rw [if_neg (by omega)]); (try with_reducible rfl))
  try simp only [Act.put, zp1, zp2, zp3]
  refine take_y 2 60 (v := ?_) rfl ?_ ?_; rotate_left; focus (intro w hSw; (try dsimp only at hSw); go_simp; (try rw [if_neg (by omega)]); (try with_reducible rfl))
  try simp only [Act.put, zp1, zp2, zp3]
  refine take_y 3 61 (v := ?_) rfl ?_ ?_; rotate_left; focus (intro w hSw; (try dsimp only at hSw); go_simp; (try rw [if_neg (by omega)]); (try with_reducible rfl))
  try simp only [Act.put, zp1, zp2, zp3]
  refine take_y 4 62 (v := ?_) rfl ?_ ?_; rotate_left; focus (intro w hSw; (try dsimp only at hSw); go_simp; (try rw [if_neg (by omega)]); (try with_reducible rfl))
  try simp only [Act.put, zp1, zp2, zp3]
  refine take_y 5 63 (v := ?_) rfl ?_ ?_; rotate_left; focus (intro w hSw; (try dsimp only at hSw); go_simp; (try rw [if_neg (by omega)]); (try with_reducible rfl))
  try simp only [Act.put, zp1, zp2, zp3]
  refine wpAnyH_ready (rs := [6]) (by kernel_rfl) (by simp) ?_
  refine AllReadyH.cons rfl (fun K hK => ?_) AllReadyH.nil
  go_simp
  refine (middlesTo_any _ _ _ _ _ _ _ HOK.out ((HV.out.below hbel6).drewN 1)).mono ?_
  rintro e w7 ⟨g2, rfl, hg2, ho2, hb7⟩
  refine hK.out _ _ againA (fun hHeld2 => ?_); clear hHeld hK K; have hHeld := hHeld2; clear hHeld2; (try simp only [Act.put, zp1, zp2, zp3])
  have hbel7 : Below w.heap.size w w7 := (hbel6.drew).trans (Below.mono hb7 hbel6.size)
  have hB7 := hB6.drew.belowAll hb7
  have ho7 := (Own.drew ho6).below hb7 ho6.lt
  refine wpAnyH_ready (rs := [7]) (by kernel_rfl) (by simp) ?_
  refine AllReadyH.cons rfl (fun K hK => ?_) AllReadyH.nil
  go_simp
  rw [← HDY.out] at ho2
  refine (firstUnused_any E m cs true (y / E) _ _ _ (by omega) HEB.out ho2).mono ?_
  rintro e w8 ⟨rfl, rfl⟩
  rw [HFB.out]
  refine hK.out _ _ againA (fun hHeld2 => ?_); clear hHeld hK K; have hHeld := hHeld2; clear hHeld2; (try simp only [Act.put, zp1, zp2, zp3])
  refine take_y 8 13 (v := ?_) rfl ?_ ?_; rotate_left; focus (intro w hSw; (try dsimp only at hSw); go_simp; (try rw [if_neg (by omega)]); (try with_reducible rfl))
  try simp only [Act.put, zp1, zp2, zp3]
  refine wpAnyH_done (by kernel_rfl) ?_ _
  clear hHeld hB6 t1 t2 t3 tlt ho2 hb7 hbel6 ho6
  obtain ⟨t1, t2, t3, _, _, _, tlt⟩ := hB7.three
  go_wp2_with fail
  refine wp_region_held_drew (S := fun w' => w'.cell? ⟨w.heap.size, 0, none⟩ = some (.int .i64 O) ∧ w'.cell? ⟨w.heap.size, 1, none⟩ = some (.int .i64 E) ∧ w'.cell? ⟨w.heap.size, 2, none⟩ = some (.int .i64 (m : Nat))) (by kernel_rfl) (by (try dsimp only); (exact keepA)) (fun hHeld => ?_)
  refine take_y 0 66 (v := ?_) rfl ?_ ?_; rotate_left; focus (intro w hSw; (try dsimp only at hSw); go_simp; (try rw [if_neg (by omega)]); (try with_reducible rfl))
  try simp only [Act.put, zp1, zp2, zp3]
  refine take_y 1 67 (v := ?_) rfl ?_ ?_; rotate_left; focus (intro w hSw; (try dsimp only at hSw); go_simp; (try rw [if_neg (by omega)]); (try with_reducible rfl))
  try simp only [Act.put, zp1, zp2, zp3]
  refine take_y 2 68 (v := ?_) rfl ?_ ?_; rotate_left; focus (intro w hSw; (try dsimp only at hSw); go_simp; (try rw [if_neg (by omega)]); (try with_reducible rfl))
  try simp only [Act.put, zp1, zp2, zp3]
  refine take_y 3 69 (v := ?_) rfl ?_ ?_; rotate_left; focus (intro w hSw; (try dsimp only at hSw); go_simp; (try rw [if_neg (by omega)]); (try with_reducible rfl))
  try simp only [Act.put, zp1, zp2, zp3]
  refine take_y 4 70 (v := ?_) rfl ?_ ?_; rotate_left; focus (intro w hSw; (try dsimp only at hSw); go_simp; (try rw [if_neg (by omega)]); (try with_reducible rfl))
  try simp only [Act.put, zp1, zp2, zp3]
  refine take_y 5 71 (v := ?_) rfl ?_ ?_; rotate_left; focus (intro w hSw; (try dsimp only at hSw); go_simp; (try rw [if_neg (by omega)]); (try with_reducible rfl))
  try simp only [Act.put, zp1, zp2, zp3]
  refine take_y 6 72 (v := ?_) rfl ?_ ?_; rotate_left; focus (intro w hSw; (try dsimp only at hSw); go_simp; (try rw [if_neg (by omega)]); (try with_reducible rfl))
  try simp only [Act.put, zp1, zp2, zp3]
  refine wpAnyH_ready (rs := [7]) (by kernel_rfl) (by simp) ?_
  refine AllReadyH.cons rfl (fun K hK => ?_) AllReadyH.nil
  go_simp
  refine (callTo_any O E m _ cs dy fa (-1) _ HOK.out.sh HOK.out.at' ((Rds.ofOwn ho7).drewN 1)).mono ?_
  rintro e w8 ⟨r, rfl, hfd, hb8⟩
  refine hK.out _ _ againA (fun hHeld2 => ?_); clear hHeld hK K; have hHeld := hHeld2; clear hHeld2; (try simp only [Act.put, zp1, zp2, zp3])
  have hbel8 : Below w.heap.size w w8 := (hbel7.drew).trans (Below.mono hb8 hbel7.size)
  have hB8 := hB7.drew.belowAll hb8
  have ho8 := (Own.drew ho7).below hb8 ho7.lt
  rw [← HDY.out] at hfd
  have HAT := Lib.hid (MvAt.start HCX.out hfd)
  refine take_y 8 14 (v := ?_) rfl ?_ ?_; rotate_left; focus (intro w hSw; (try dsimp only at hSw); go_simp; (try rw [if_neg (by omega)]); (try with_reducible rfl))
  try simp only [Act.put, zp1, zp2, zp3]
  refine wpAnyH_done (by kernel_rfl) ?_ _
  clear hHeld hB7 t1 t2 t3 tlt hb8 hbel7 ho7 hfd hw1 hw2 hw3 hw4
  go_wp2_with fail
  obtain ⟨n, hn⟩ : ∃ n, cs.length = n := ⟨_, rfl⟩
  have HN := Lib.hid hn
  rw [hn] at ho8 hcn hln ⊢
  have hfl0 : flipL fa fb [] cs = cs := flipL_nil _ _ _
  have HFL := Lib.hid hfl0
  clear hn hfl0
  go_loopg [14] (n + 1) (fun gk at' wr => ∃ (ch : List Nat) (outer r : Int), at' = .int .i64 r ∧ Hid (MvAt O E m cs x y fa fb true outer fa ch r) ∧ Own wr g n cap 57 3 (ccells (flipL fa fb ch cs)) ∧ Below w.heap.size w wr ∧ Blk wr w.heap.size #[.int .i64 O, .int .i64 E, .int .i64 (m : Nat)] 30 ∧ Hid (ch.length + gk = n + 1))
  case atStart => exact ⟨[], _, _, rfl, HAT.out, by rw [HFL.out]; exact ho8, hbel8, hB8, by unfold Hid; simp⟩
  case round =>
   obtain ⟨ch, outer, r', rfl, hat, hown, hbel, hBr, hgk⟩ := hrel
   by_cases hr : 0 ≤ r'
   ·
    obtain ⟨k, c, rfl, hk, hc, f2, f1, hg, hlen, hnx⟩ := hat.out.step hr
    obtain ⟨s1, s2, s3, _, _, _, slt⟩ := hBr.three
    obtain ⟨d1, d2, d3⟩ := ccells_at _ _ _ f2
    rw [HN.out] at hk
    have c1 := (hown.cell (k * 3 + 2) (by omega)).trans d3
    have fz := hown.free (k * 3 + 2)
    have hglt := hown.lt
    have hown1 : Own (wr.setCell ⟨g, k * 3 + 2, none⟩ (.int .i64 fb)) g n cap 57 3 (ccells (flipL fa fb (ch ++ [k]) cs)) := by
     rw [← f1, show fa + fb - fa = fb by omega, ← ccells_via _ _ _ fb f2]
     exact hown.set rfl
    obtain ⟨e1, e2, e3⟩ := ccells_at _ _ _ (show (flipL fa fb (ch ++ [k]) cs)[k]? = some (c.1, c.2.1, fb) by rw [← f1, show fa + fb - fa = fb by omega, List.getElem?_set_self (by rw [flipL_len, HN.out]; exact hk)])
    have k1 := (hown1.cell (k * 3) (by omega)).trans e1
    simp only at k1 c1
    have hB1 : Blk (wr.setCell ⟨g, k * 3 + 2, none⟩ (.int .i64 fb)) w.heap.size #[.int .i64 O, .int .i64 E, .int .i64 (m : Nat)] 30 := Blk.other (by simp; omega) hBr
    have hbel1 : Below w.heap.size w (wr.setCell ⟨g, k * 3 + 2, none⟩ (.int .i64 fb)) := hbel.setCell (by simp; omega) _
    obtain ⟨u1, u2, u3, _, _, _, ult⟩ := hB1.three
    have i1 : (0 : Int) ≤ (k : Int) := by omega
    have i2 : (k : Int) < (n : Int) := by omega
    have hat3 := HOK.out.at' k c hc
    have hw1 : IntKind.i64.wrap (c.1 / E) = c.1 / E := wrap_quo (by omega) (L := O * E) (by omega) hOE (by omega)
    have hw2 : Int.tdiv c.1 E = c.1 / E := Int.tdiv_eq_ediv_of_nonneg (by omega)
    obtain ⟨dz, hdz⟩ : ∃ d, c.1 / E = d := ⟨_, rfl⟩
    rw [hdz] at hw1 hw2
    have hsw : swC E (!true) c = dz := hdz
    have HSW := Lib.hid hsw
    have HC := Lib.hid hc
    have HG := Lib.hid hg
    have HNX := Lib.hid hnx
    have HL := Lib.hid hlen
    have HW : Hid (fa + fb - fa = fb) := by unfold Hid; omega
    have HCZ := Lib.hid hat3
    obtain ⟨cx, hcx⟩ : ∃ z, c.1 = z := ⟨_, rfl⟩
    rw [hcx] at k1 hw2
    have HCXE := Lib.hid hcx
    clear hc f1 f2 hg hnx hlen d1 d2 d3 e1 e2 e3 hat3 hdz hsw hcx hr hat hown hBr
    go_wp2_with fail
    refine wp_region_held_drew (S := fun w' => w'.cell? ⟨w.heap.size, 0, none⟩ = some (.int .i64 O) ∧ w'.cell? ⟨w.heap.size, 1, none⟩ = some (.int .i64 E) ∧ w'.cell? ⟨w.heap.size, 2, none⟩ = some (.int .i64 (m : Nat)) ∧ w'.cell? ⟨g, k * 3, none⟩ = some (.int .i64 cx)) (by kernel_rfl) (by (try dsimp only); (exact keepA)) (fun hHeld => ?_)
    refine take_y 0 81 (v := ?_) rfl ?_ ?_; rotate_left; focus (intro w hSw; (try dsimp only at hSw); go_simp; (try rw [if_neg (by omega)]); (try with_reducible rfl))
    try simp only [Act.put, zp1, zp2, zp3]
    refine take_y 1 82 (v := ?_) rfl ?_ ?_; rotate_left; focus (intro w hSw; (try dsimp only at hSw); go_simp; (try rw [if_neg (by omega)]); (try with_reducible rfl))
    try simp only [Act.put, zp1, zp2, zp3]
    refine take_y 2 83 (v := ?_) rfl ?_ ?_; rotate_left; focus (intro w hSw; (try dsimp only at hSw); go_simp; (try rw [if_neg (by omega)]); (try with_reducible rfl))
    try simp only [Act.put, zp1, zp2, zp3]
    refine take_y 3 84 (v := ?_) rfl ?_ ?_; rotate_left; focus (intro w hSw; (try dsimp only at hSw); go_simp; (try rw [if_neg (by omega)]); (try with_reducible rfl))
    try simp only [Act.put, zp1, zp2, zp3]
    refine take_y 4 85 (v := ?_) rfl ?_ ?_; rotate_left; focus (intro w hSw; (try dsimp only at hSw); go_simp; (try rw [if_neg (by omega)]); (try with_reducible rfl))
    try simp only [Act.put, zp1, zp2, zp3]
    refine take_y 5 86 (v := ?_) rfl ?_ ?_; rotate_left; focus (intro w hSw; (try dsimp only at hSw); go_simp; (try rw [if_neg (by omega)]); (try with_reducible rfl))
    try simp only [Act.put, zp1, zp2, zp3]
    refine take_y 6 87 (v := ?_) rfl ?_ ?_; rotate_left; focus (intro w hSw; (try dsimp only at hSw); go_simp; (try rw [if_neg (by omega)]); (try with_reducible rfl))
    try simp only [Act.put, zp1, zp2, zp3]
    refine take_y 7 88 (v := ?_) rfl ?_ ?_; rotate_left; focus (intro w hSw; (try dsimp only at hSw); go_simp; (try rw [if_neg (by omega)]); (try with_reducible rfl))
    try simp only [Act.put, zp1, zp2, zp3]
    refine take_y 8 89 (v := ?_) rfl ?_ ?_; rotate_left; focus (intro w hSw; (try dsimp only at hSw); go_simp; (try rw [if_neg (by omega)]); (try with_reducible rfl))
    try simp only [Act.put, zp1, zp2, zp3]
    refine take_y 9 90 (v := ?_) rfl ?_ ?_; rotate_left; focus (intro w hSw; (try dsimp only at hSw); go_simp; (try rw [if_neg (by omega)]); (try with_reducible rfl))
    try simp only [Act.put, zp1, zp2, zp3]
    refine take_y 10 91 (v := ?_) rfl ?_ ?_; rotate_left; focus (intro w hSw; (try dsimp only at hSw); go_simp; (try rw [if_neg (by omega)]); (try with_reducible rfl))
    try simp only [Act.put, zp1, zp2, zp3]
    refine take_y 11 92 (v := ?_) rfl ?_ ?_; rotate_left; focus (intro w hSw; (try dsimp only at hSw); go_simp; (try rw [if_neg (by omega)]); (try with_reducible rfl))
    try simp only [Act.put, zp1, zp2, zp3]
    refine wpAnyH_ready (rs := [12]) (by kernel_rfl) (by simp) ?_
    refine AllReadyH.cons rfl (fun K hK => ?_) AllReadyH.nil
    go_simp
    refine (callFrom_any O E m _ (flipL fa fb (ch ++ [k]) cs) dz fb k _ HOK.out.sh (HCX.out.at HG.out) (by rw [flipL_len, HN.out]; exact (Rds.ofOwn hown1).drewN 1)).mono ?_
    rintro e w9 ⟨r2, rfl, hfd2, hb9⟩
    refine hK.out _ _ againA (fun hHeld2 => ?_); clear hHeld hK K; have hHeld := hHeld2; clear hHeld2; (try simp only [Act.put, zp1, zp2, zp3])
    have hbel9 : Below w.heap.size w w9 := (hbel1.drew).trans (Below.mono hb9 hbel1.size)
    have hB9 := hB1.drew.belowAll hb9
    have ho9 := (Own.drew hown1).below hb9 hown1.lt
    rw [flipL_len] at hfd2
    have hat2 := HNX.out r2 (by rw [HSW.out, HW.out]; exact hfd2)
    rw [HSW.out, HW.out] at hat2
    have HAT2 := Lib.hid hat2
    refine take_y 13 14 (v := ?_) rfl ?_ ?_; rotate_left; focus (intro w hSw; (try dsimp only at hSw); go_simp; (try rw [if_neg (by omega)]); (try with_reducible rfl))
    try simp only [Act.put, zp1, zp2, zp3]
    refine wpAnyH_done (by kernel_rfl) ?_ _
    clear hHeld hB1 u1 u2 u3 ult hb9 hbel1 hown1 hfd2 hw1 hw2 k1 hat2 HNX s1 s2 s3 slt c1 fz HCXE
    by_cases hr2 : 0 ≤ r2
    ·
     obtain ⟨k2, c2, rfl, hk2, hc2, f2, f1, hg, hlen, hnx⟩ := HAT2.out.step hr2
     obtain ⟨s1, s2, s3, _, _, _, slt⟩ := hB9.three
     obtain ⟨d1, d2, d3⟩ := ccells_at _ _ _ f2
     rw [HN.out] at hk2
     have q1 := (ho9.cell (k2 * 3 + 2) (by omega)).trans d3
     have fz := ho9.free (k2 * 3 + 2)
     have hglt9 := ho9.lt
     have hown1 : Own (w9.setCell ⟨g, k2 * 3 + 2, none⟩ (.int .i64 fa)) g n cap 57 3 (ccells (flipL fa fb ((ch ++ [k]) ++ [k2]) cs)) := by
      rw [← f1, show fa + fb - fb = fa by omega, ← ccells_via _ _ _ fa f2]
      exact ho9.set rfl
     obtain ⟨e1, e2, e3⟩ := ccells_at _ _ _ (show (flipL fa fb ((ch ++ [k]) ++ [k2]) cs)[k2]? = some (c2.1, c2.2.1, fa) by rw [← f1, show fa + fb - fb = fa by omega, List.getElem?_set_self (by rw [flipL_len, HN.out]; exact hk2)])
     have k1 := (hown1.cell (k2 * 3 + 1) (by omega)).trans e2
     simp only at k1 q1
     have hB1 : Blk (w9.setCell ⟨g, k2 * 3 + 2, none⟩ (.int .i64 fa)) w.heap.size #[.int .i64 O, .int .i64 E, .int .i64 (m : Nat)] 30 := Blk.other (by simp; omega) hB9
     have hbel1 : Below w.heap.size w (w9.setCell ⟨g, k2 * 3 + 2, none⟩ (.int .i64 fa)) := hbel9.setCell (by simp; omega) _
     obtain ⟨u1, u2, u3, _, _, _, ult⟩ := hB1.three
     have i1 : (0 : Int) ≤ (k2 : Int) := by omega
     have i2 : (k2 : Int) < (n : Int) := by omega
     have hat3 := HOK.out.at' k2 c2 hc2
     have hw1 : IntKind.i64.wrap (c2.2.1 / E) = c2.2.1 / E := wrap_quo (by omega) (L := O * E) (by omega) hOE (by omega)
     have hw2 : Int.tdiv c2.2.1 E = c2.2.1 / E := Int.tdiv_eq_ediv_of_nonneg (by omega)
     obtain ⟨dz, hdz⟩ : ∃ d, c2.2.1 / E = d := ⟨_, rfl⟩
     rw [hdz] at hw1 hw2
     have hsw : swC E (!!true) c2 = dz := hdz
     have HSW := Lib.hid hsw
     have HC2 := Lib.hid hc2
     have HG2 := Lib.hid hg
     have HNX := Lib.hid hnx
     have HL2 := Lib.hid hlen
     have HW2 : Hid (fa + fb - fb = fa) := by unfold Hid; omega
     obtain ⟨cx, hcx⟩ : ∃ z, c2.2.1 = z := ⟨_, rfl⟩
     rw [hcx] at k1 hw2
     clear hc2 f1 f2 hg hlen d1 d2 d3 e1 e2 e3 hat3 hdz hsw hcx hr2 ho9 hB9 hnx
     go_wp2_with fail
     refine wp_region_held_drew (S := fun w' => w'.cell? ⟨w.heap.size, 0, none⟩ = some (.int .i64 O) ∧ w'.cell? ⟨w.heap.size, 1, none⟩ = some (.int .i64 E) ∧ w'.cell? ⟨w.heap.size, 2, none⟩ = some (.int .i64 (m : Nat)) ∧ w'.cell? ⟨g, k2 * 3 + 1, none⟩ = some (.int .i64 cx)) (by kernel_rfl) (by (try dsimp only); (exact keepA)) (fun hHeld => ?_)
     refine take_y 0 101 (v := ?_) rfl ?_ ?_; rotate_left; focus (intro w hSw; (try dsimp only at hSw); go_simp; (try rw [if_neg (by omega)]); (try with_reducible rfl))
     try simp only [Act.put, zp1, zp2, zp3]
     refine take_y 1 102 (v := ?_) rfl ?_ ?_; rotate_left; focus (intro w hSw; (try dsimp only at hSw); go_simp; (try rw [if_neg (by omega)]); (try with_reducible rfl))
     try simp only [Act.put, zp1, zp2, zp3]
     refine take_y 2 103 (v := ?_) rfl ?_ ?_; rotate_left; focus (intro w hSw; (try dsimp only at hSw); go_simp; (try rw [if_neg (by omega)]); (try with_reducible rfl))
     try simp only [Act.put, zp1, zp2, zp3]
     refine take_y 3 104 (v := ?_) rfl ?_ ?_; rotate_left; focus (intro w hSw; (try dsimp only at hSw); go_simp; (try rw [if_neg (by omega)]); (try with_reducible rfl))
     try simp only [Act.put, zp1, zp2, zp3]
     refine take_y 4 105 (v := ?_) rfl ?_ ?_; rotate_left; focus (intro w hSw; (try dsimp only at hSw); go_simp; (try rw [if_neg (by omega)]); (try with_reducible rfl))
     try simp only [Act.put, zp1, zp2, zp3]
     refine take_y 5 106 (v := ?_) rfl ?_ ?_; rotate_left; focus (intro w hSw; (try dsimp only at hSw); go_simp; (try rw [if_neg (by omega)]); (try with_reducible rfl))
     try simp only [Act.put, zp1, zp2, zp3]
     refine take_y 6 107 (v := ?_) rfl ?_ ?_; rotate_left; focus (intro w hSw; (try dsimp only at hSw); go_simp; (try rw [if_neg (by omega)]); (try with_reducible rfl))
     try simp only [Act.put, zp1, zp2, zp3]
     refine take_y 7 108 (v := ?_) rfl ?_ ?_; rotate_left; focus (intro w hSw; (try dsimp only at hSw); go_simp; (try rw [if_neg (by omega)]); (try with_reducible rfl))
     try simp only [Act.put, zp1, zp2, zp3]
     refine take_y 8 109 (v := ?_) rfl ?_ ?_; rotate_left; focus (intro w hSw; (try dsimp only at hSw); go_simp; (try rw [if_neg (by omega)]); (try with_reducible rfl))
     try simp only [Act.put, zp1, zp2, zp3]
     refine take_y 9 110 (v := ?_) rfl ?_ ?_; rotate_left; focus (intro w hSw; (try dsimp only at hSw); go_simp; (try rw [if_neg (by omega)]); (try with_reducible rfl))
     try simp only [Act.put, zp1, zp2, zp3]
     refine take_y 10 111 (v := ?_) rfl ?_ ?_; rotate_left; focus (intro w hSw; (try dsimp only at hSw); go_simp; (try rw [if_neg (by omega)]); (try with_reducible rfl))
     try simp only [Act.put, zp1, zp2, zp3]
     refine take_y 11 112 (v := ?_) rfl ?_ ?_; rotate_left; focus (intro w hSw; (try dsimp only at hSw); go_simp; (try rw [if_neg (by omega)]); (try with_reducible rfl))
     try simp only [Act.put, zp1, zp2, zp3]
     refine wpAnyH_ready (rs := [12]) (by kernel_rfl) (by simp) ?_
     refine AllReadyH.cons rfl (fun K hK => ?_) AllReadyH.nil
     go_simp
     refine (callTo_any O E m _ (flipL fa fb ((ch ++ [k]) ++ [k2]) cs) dz fa k2 _ HOK.out.sh (HCX.out.at HG2.out) (by rw [flipL_len, HN.out]; exact (Rds.ofOwn hown1).drewN 1)).mono ?_
     rintro e wa ⟨r3, rfl, hfd3, hba⟩
     refine hK.out _ _ againA (fun hHeld2 => ?_); clear hHeld hK K; have hHeld := hHeld2; clear hHeld2; (try simp only [Act.put, zp1, zp2, zp3])
     have hbela : Below w.heap.size w wa := (hbel1.drew).trans (Below.mono hba hbel1.size)
     have hBa := hB1.drew.belowAll hba
     have hoa := (Own.drew hown1).below hba hown1.lt
     rw [flipL_len] at hfd3
     have hat4 := HNX.out r3 (by rw [HSW.out, HW2.out]; exact hfd3)
     rw [HSW.out, HW2.out] at hat4
     have HAT4 := Lib.hid hat4
     refine take_y 13 14 (v := ?_) rfl ?_ ?_; rotate_left; focus (intro w hSw; (try dsimp only at hSw); go_simp; (try rw [if_neg (by omega)]); (try with_reducible rfl))
     try simp only [Act.put, zp1, zp2, zp3]
     refine wpAnyH_done (by kernel_rfl) ?_ _
     clear hHeld hB1 u1 u2 u3 ult hba hbel1 hown1 hfd3 hw1 hw2 k1 hat4 HNX s1 s2 s3 slt q1 fz
     go_wp2_with fail
     have hl2 := HL2.out
     have hg2 := hgk.out
     rw [HN.out] at hl2
     simp only [List.length_append, List.length_cons, List.length_nil] at hl2
     go_roundg (gk - 2)
     case measure => omega
     case rel =>
      refine ⟨(ch ++ [k]) ++ [k2], dz, r3, rfl, HAT4.out, hoa, hbela, hBa, ?_⟩
      unfold Hid
      simp only [List.length_append, List.length_cons, List.length_nil]
      omega
    ·
     have HCH := Lib.hid (HAT2.out.stop (by omega))
     have hrz := hbel9.size
     go_wp2_with (at_builtin; refine wpList_append_own _ rfl _ _ 31 rfl w.heap.size 57 i0 _ 3 24 Try.underlying31 hi hz0 hz1 hz2 rfl (by decide) _ _ _ rfl ((ho9.back (by omega)).alloc _) ⟨w9.heap.size, 0, none⟩ 1 1 [.int .i64 x, .int .i64 y, .int .i64 fa] rfl rfl (news3 _ _ _ _ _ _ (by first | rfl | simp)) (oneC _ _ _) (by unfold maxLen; omega) (by omega) (by simp; omega) ?_; intro v' w6 hown' hgrow _)
     have hbel6 : Below w.heap.size w w6 := Below.grown (by (exact grownA)) hgrow (by simp; omega) (own_ge (ho9.back (Nat.le_of_lt hg0)))
     clear hgrow
     go_wp2
     go_returns
     unfold MvPost
     rw [HM.out, HCH.out]
     refine ⟨_, rfl, ?_, hbel6⟩
     rw [List.length_append, flipL_len, HN.out, ← ccells_snoc]
     exact hown'
   ·
    have HCH := Lib.hid (hat.out.stop (by omega))
    have hrz := hbel.size
    clear hat
    go_wp2_with (at_builtin; refine wpList_append_own _ rfl _ _ 31 rfl w.heap.size 57 i0 _ 3 24 Try.underlying31 hi hz0 hz1 hz2 rfl (by decide) _ _ _ rfl ((hown.back (by omega)).alloc _) ⟨wr.heap.size, 0, none⟩ 1 1 [.int .i64 x, .int .i64 y, .int .i64 fa] rfl rfl (news3 _ _ _ _ _ _ (by first | rfl | simp)) (oneC _ _ _) (by unfold maxLen; omega) (by omega) (by simp; omega) ?_; intro v' w6 hown' hgrow _)
    have hbel6 : Below w.heap.size w w6 := Below.grown (by (exact grownA)) hgrow (by simp; omega) (own_ge (hown.back (Nat.le_of_lt hg0)))
    clear hgrow
    go_wp2
    go_returns
    unfold MvPost
    rw [HM.out, HCH.out]
    refine ⟨_, rfl, ?_, hbel6⟩
    rw [List.length_append, flipL_len, HN.out, ← ccells_snoc]
    exact hown'

end Go.Proofs.Ytedadhoneebfnaa
