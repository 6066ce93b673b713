/- Contract of CallMove of the reference. -/
import Derived.Test.YtedadhoneebfnaaJ8
import Derived.Test.YtedadhoneebfnaaCm
import Derived.StillTailTactics
set_option linter.unusedSimpArgs false
set_option linter.unusedVariables false
namespace Go.Proofs.Ytedadhoneebfnaa
open Go.RowKit

def nats (ch : List Nat) : List Int := ch.map Int.ofNat
theorem nats_len (ch : List Nat) : (nats ch).length = ch.length := by simp [nats]
theorem nats_snoc (ch : List Nat) (k : Nat) : nats (ch ++ [k]) = nats ch ++ [(k : Int)] := by simp [nats]
theorem nats_at {ch : List Nat} {k j : Nat} (h : ch[k]? = some j) : (nats ch)[k]? = some (j : Int) := by simp [nats, h]
theorem nats_mem {ch : List Nat} {k : Nat} : decide ((k : Int) ∈ nats ch) = decide (k ∈ ch) := by
 rw [Bool.eq_iff_iff, decide_eq_true_iff, decide_eq_true_iff]
 unfold nats
 rw [List.mem_map]
 constructor
 ·
  rintro ⟨j, h1, h2⟩; have h3 : (j : Int) = (k : Int) := h2; have : j = k := by omega
  subst this; exact h1
 ·
  intro h; exact ⟨k, h, rfl⟩
/-- A call that the reference looks for. -/
def wantP (E : Int) (cs : List Cl) (s : Bool) (outer want : Int) (ch : List Nat) (k : Nat) : Prop := k ∉ ch ∧ ∃ c, cs[k]? = some c ∧ c.2.2 = want ∧ swC E s c = outer
theorem found_yes {n : Nat} {P : Nat → Prop} (h : P n) : Found (n + 1) P n := .inr ⟨n, by omega, rfl, h⟩
theorem found_no {n : Nat} {P : Nat → Prop} {r : Int} (h : ¬ P n) (hf : Found n P r) : Found (n + 1) P r := by
 rcases hf with ⟨h1, h2⟩ | ⟨k, h1, h2, h3⟩
 ·
  refine .inl ⟨h1, fun k hk => ?_⟩
  by_cases e : k = n
  ·
   subst e; exact h
  ·
   exact h2 k (by omega)
 ·
  exact .inr ⟨k, by omega, h2, h3⟩
theorem not_in_take {ch : List Nat} {k j : Nat} (hnd : ch.Nodup) (hj : ch[k]? = some j) : j ∉ ch.take k := by
 intro hm
 obtain ⟨i, hi⟩ := List.mem_iff_getElem?.1 hm
 have hl := (List.getElem?_eq_some_iff.1 hi).1
 rw [List.length_take] at hl
 rw [List.getElem?_take_of_lt (by omega)] at hi
 have hk := (List.getElem?_eq_some_iff.1 hj).1
 have := (List.getElem?_inj (by omega) hnd).1 (hi.trans hj.symm)
 omega
def sideI (s : Bool) : Int := if s then 1 else 0
theorem rds_flat1 {w : World} {base : Nat} {E : TypeId} {v : Value} {zs : List Int} (h : w.ownsRow base E 1 v zs.length (ivs zs)) : Rds w v zs.length 1 (ivs zs) := Rds.ofOwns h

set_option maxRecDepth 100000 in
set_option maxHeartbeats 16000000 in
theorem sCallMove_any (O E : Int) (m : Nat) (v : Value) (cs : List Cl) (x y : Int) (w : World) (hok : CallsOk O E m cs) (hem : E ≤ m) (hv : Rds w v cs.length 3 (ccells cs)) (hx : 0 ≤ x ∧ x < O * E) (hy : 0 ≤ y ∧ y < O * E) (hf : freeB cs x y) :
  Calls Try.prog 97 #[.agg #[.int .i64 O, .int .i64 E, .int .i64 m], v, .int .i64 x, .int .i64 y] w (MvPost (moveL E m cs x y) w) := by
 obtain ⟨i0, hi, hz0, hz1, hz2⟩ := info_parts infoC
 obtain ⟨j0, hj, hy0, hy1, hy2⟩ := info_parts infoI8
 have hm5 := hok.sh.m
 have he := hok.sh.e
 have HOK := Lib.hid hok
 have HEM := Lib.hid hem
 have HX := Lib.hid hx
 have HY := Lib.hid hy
 have HF := Lib.hid hf
 have hcn := hok.count (lines_le hok.sh)
 have hOE := lines_le hok.sh
 have hB := Blk.new (w := w) (cs := #[.int .i64 O, .int .i64 E, .int .i64 (m : Nat)]) (T := 30) rfl
 have hbel0 : Below w.heap.size w (w.alloc (.cells #[.int .i64 O, .int .i64 E, .int .i64 (m : Nat)] 30)) := by (exact grownA)
 have HV := Lib.hid hv
 obtain ⟨-, -, a, ca, rfl, -⟩ := hv
 have HCB := Lib.hid ((callsB_iff O E m cs).2 hok)
 have HEN : Hid (enoughB O E m = true) := (enoughB_iff O E m).2 ⟨hok.sh, hem⟩
 have hE0 : (E == 0) = false := by simp; omega
 have hE1 : ¬ E = 0 := by omega
 obtain ⟨dx, hdx⟩ : ∃ d, x / E = d := ⟨_, rfl⟩
 obtain ⟨dy, hdy⟩ : ∃ d, y / E = d := ⟨_, rfl⟩
 have hw1 : IntKind.i64.wrap (x / E) = x / E := wrap_quo (by omega) (L := O * E) (by omega) hOE (by omega)
 have hw2 : Int.tdiv x E = x / E := Int.tdiv_eq_ediv_of_nonneg (by omega)
 have hw3 : IntKind.i64.wrap (y / E) = y / E := wrap_quo (by omega) (L := O * E) (by omega) hOE (by omega)
 have hw4 : Int.tdiv y E = y / E := Int.tdiv_eq_ediv_of_nonneg (by omega)
 rw [hdx] at hw1 hw2
 rw [hdy] at hw3 hw4
 have HDX := Lib.hid hdx
 have HDY := Lib.hid hdy
 have HIX : Hid ((decide ((0 : Int) ≤ x) && decide (x ≤ O * E - 1)) = true) := by unfold Hid; simp; omega
 have HIY : Hid ((decide ((0 : Int) ≤ y) && decide (y ≤ O * E - 1)) = true) := by unfold Hid; simp; omega
 have hOE0 : 0 ≤ O * E := by omega
 obtain ⟨L, hL⟩ : ∃ L, O * E = L := ⟨_, rfl⟩
 have HL := Lib.hid hL
 obtain ⟨t1, t2, t3, -, -, -, tlt⟩ := hB.three
 have hx0 := hx.1
 have hy0' := hy.1
 rw [hL] at hOE hOE0
 clear hok hf hdx hdy hx hy hem hL
 go_enter Try.func97, Try.ntmps97
 go_wp2_with fail
 refine (sCallsValid_any _ _ _ _ _ _ (HV.out.below hbel0)).mono ?_
 rintro e w1 ⟨rfl, hb1⟩
 have hbel1 : Below w.heap.size w w1 := by (exact grownA)
 have hB1 := hB.belowAll hb1
 rw [HCB.out]
 clear hB hb1 t1 t2 t3 tlt hbel0
 obtain ⟨t1, t2, t3, -, -, -, tlt⟩ := hB1.three
 go_wp2_with fail
 refine (sEnough_any _ _ _ _).mono ?_
 rintro e w2 ⟨rfl, hb2⟩
 have hbel2 : Below w.heap.size w w2 := by (exact grownA)
 have hB2 := hB1.belowAll hb2
 rw [HEN.out]
 clear hB1 hb2 t1 t2 t3 tlt hbel1
 obtain ⟨t1, t2, t3, -, -, -, tlt⟩ := hB2.three
 have hgz2 := hbel2.size
 go_wp2_with (at_builtin; refine wpList_append_head _ rfl _ _ 31 rfl (w.heap.size + 1) 57 i0 _ 3 24 Try.underlying31 hi hz0 hz1 hz2 rfl (by decide) _ 0 0 [] rfl (own_empty8 (by first | rfl | simp) (by omega)) _ cs.length (ccells cs) rfl (HV.out.below (hbel2.alloc (by omega) _)) (ccells_one cs) (by unfold maxLen; omega) (by omega) (by first | omega | (simp; omega)) ?_; intro g cap w3 hol hgl; have hB3 : Blk w3 w.heap.size #[.int .i64 O, .int .i64 E, .int .i64 (m : Nat)] 30 := Blk.gbr hgl (by simp; omega) (hB2.alloc _); have hbel3 : Below w.heap.size w w3 := (hbel2.alloc (by omega) _).grown hgl (by simp; omega) (fun k hk => by cases hk; omega); obtain ⟨v1, v2, v3, -, -, -, vlt⟩ := hB3.three)
 have hol2 := Own.of hol
 rw [Nat.zero_add] at hol2
 obtain ⟨ho3, hg0⟩ := hol2
 rw [List.nil_append] at ho3
 clear hol hgl hB2 hbel2 t1 t2 t3 tlt hgz2
 refine (l4Lines_any _ _ _ _ HOK.out.sh).mono ?_
 rintro e w4 ⟨rfl, hb4⟩
 have hbel4 : Below w.heap.size w w4 := by (exact grownA)
 have hB4 := hB3.belowAll hb4
 have ho4 := ho3.below hb4 ho3.lt
 rw [HL.out]
 clear hB3 hb4 v1 v2 v3 vlt hbel3 ho3
 obtain ⟨t1, t2, t3, -, -, -, tlt⟩ := hB4.three
 go_wp2_with fail
 refine (sIn_any _ _ _ _).mono ?_
 rintro e w5 ⟨rfl, rfl⟩
 rw [show (decide ((0 : Int) ≤ x) && decide (x ≤ L - 1)) = true by rw [← HL.out]; exact HIX.out]
 go_wp2_with fail
 refine (l4Lines_any _ _ _ _ HOK.out.sh).mono ?_
 rintro e w5 ⟨rfl, hb5⟩
 have hbel5 : Below w.heap.size w w5 := by (exact grownA)
 have hB5 := hB4.belowAll hb5
 have ho5 := ho4.below hb5 ho4.lt
 rw [HL.out]
 clear hB4 hb5 t1 t2 t3 tlt hbel4 ho4
 obtain ⟨t1, t2, t3, -, -, -, tlt⟩ := hB5.three
 go_wp2_with fail
 refine (sIn_any _ _ _ _).mono ?_
 rintro e w6 ⟨rfl, rfl⟩
 rw [show (decide ((0 : Int) ≤ y) && decide (y ≤ L - 1)) = true by rw [← HL.out]; exact HIY.out]
 go_wp2_with fail
 refine (l4Line_any _ cs _ _ _ (HV.out.below hbel5) HF.out).mono ?_
 rintro e w6 ⟨rfl, rfl⟩
 go_wp2_with fail
 refine (sMiddleFree_any _ _ _ _ _ _ _ _ HOK.out (HV.out.below hbel5) HX.out HY.out HF.out).mono ?_
 rintro e w6 ⟨vf, rfl, of6, hb6⟩
 have hbel6 : Below w.heap.size w w6 := by (exact grownA)
 have hB6 := hB5.belowAll hb6
 have ho6 := ho5.below hb6 ho5.lt
 clear hB5 hb6 t1 t2 t3 tlt hbel5 ho5
 obtain ⟨t1, t2, t3, -, -, -, tlt⟩ := hB6.three
 obtain ⟨fr, hfr⟩ : ∃ f, freeL E m cs x y = f := ⟨_, rfl⟩
 have hfl : fr.length ≤ m := by rw [← hfr]; exact free_lt
 rw [hfr] at of6
 have HFR := Lib.hid hfr
 clear hfr
 obtain ⟨af, cf, rfl, -, -, -, hcf⟩ := (Rds.ofOwns of6).open1
 have hln : 0 ≤ (cs.length : Int) := by omega
 cases fr with
 | cons f fr =>
  simp only [List.length_cons] at hcf hfl ⊢
  rcases hcf with hcf | ⟨bf, off, rfl, hbf, hcf⟩
  ·
   omega
  have q1 := hcf 0 (by omega)
  rw [show (ivs (f :: fr))[0]? = some (.int .i64 f) from rfl] at q1
  simp only [Nat.add_zero] at q1
  have HM : Hid (moveL E m cs x y = cs ++ [(x, y, f)]) := by unfold Hid moveL; rw [HFR.out]
  have hlp : (0 : Int) < ((fr.length + 1 : Nat) : Int) := by omega
  clear of6 hcf
  go_wp2_with (at_builtin; refine wpList_append_own _ rfl _ _ 31 rfl w.heap.size 57 i0 _ 3 24 Try.underlying31 hi hz0 hz1 hz2 rfl (by decide) _ _ _ rfl ((ho6.back (by omega)).alloc _) ⟨w6.heap.size, 0, none⟩ 1 1 [.int .i64 x, .int .i64 y, .int .i64 f] rfl rfl (news3 _ _ _ _ _ _ (by first | rfl | simp)) (oneC _ _ _) (by unfold maxLen; omega) (by omega) (by simp; omega) ?_; intro v' w7 hown' hgrow _)
  have hbel7 : Below w.heap.size w w7 := Below.grown (by (exact grownA)) hgrow (by simp; omega) (own_ge (ho6.back (by omega)))
  clear hgrow q1
  go_wp2
  go_returns
  unfold MvPost
  rw [HM.out]
  refine ⟨_, rfl, ?_, hbel7⟩
  rw [List.length_append, ← ccells_snoc]
  exact hown'
 | nil =>
  have hcx := mv_cx HOK.out HEM.out HX.out HY.out HF.out
  have hea := first_ex (m := m) HOK.out rfl HEM.out false HX.out.1 (fun c hc => by simpa using (HF.out c hc).1)
  have heb := first_ex (m := m) HOK.out rfl HEM.out true HY.out.1 (fun c hc => by simpa using (HF.out c hc).2)
  obtain ⟨fa, hfa⟩ : ∃ a, firstL E m cs false (x / E) = a := ⟨_, rfl⟩
  obtain ⟨fb, hfb⟩ : ∃ b, firstL E m cs true (y / E) = b := ⟨_, rfl⟩
  rw [hfa, hfb] at hcx
  have HM : Hid (moveL E m cs x y = flipL fa fb (chainL E fa fb cs y) cs ++ [(x, y, fa)]) := by unfold Hid moveL; rw [HFR.out]; simp only [hfa, hfb]
  have HEA := Lib.hid hea
  have HEB := Lib.hid heb
  have HFA := Lib.hid hfa
  have HFB := Lib.hid hfb
  have HCX := Lib.hid hcx
  clear of6 hcf hcx hea heb hfa hfb
  go_wp2_with fail
  refine wp_region_held_drew (S := fun w' => w'.cell? ⟨w.heap.size, 0, none⟩ = some (.int .i64 O) ∧ w'.cell? ⟨w.heap.size, 1, none⟩ = some (.int .i64 E) ∧ w'.cell? ⟨w.heap.size, 2, none⟩ = some (.int .i64 (m : Nat))) (by kernel_rfl) (by (try dsimp only); (exact keepA)) (fun hHeld => ?_)
  refine take_y 0 73 (v := ?_) rfl ?_ ?_; rotate_left; focus (intro w hSw; (try dsimp only at hSw); go_simp; (try rw [if_neg (by omega)]); (try with_reducible rfl))
  try simp only [Act.put, zp1, zp2, zp3]
  refine take_y 1 74 (v := ?_) rfl ?_ ?_; rotate_left; focus (intro w hSw; (try dsimp only at hSw); go_simp; (try rw [if_neg (by omega)]); (try with_reducible rfl))
  try simp only [Act.put, zp1, zp2, zp3]
  refine take_y 2 75 (v := ?_) rfl ?_ ?_; rotate_left; focus (intro w hSw; (try dsimp only at hSw); go_simp; (try rw [if_neg (by omega)]); (try with_reducible rfl))
  try simp only [Act.put, zp1, zp2, zp3]
  refine take_y 3 76 (v := ?_) rfl ?_ ?_; rotate_left; focus (intro w hSw; (try dsimp only at hSw); go_simp; (try rw [if_neg (by omega)]); (try with_reducible rfl))
  try simp only [Act.put, zp1, zp2, zp3]
  refine take_y 4 77 (v := ?_) rfl ?_ ?_; rotate_left; focus (intro w hSw; (try dsimp only at hSw); go_simp; (try rw [if_neg (by omega)]); (try with_reducible rfl))
  try simp only [Act.put, zp1, zp2, zp3]
  refine take_y 5 78 (v := ?_) rfl ?_ ?_; rotate_left; focus (intro w hSw; (try dsimp only at hSw); go_simp; (try rw [if_neg (by omega)]); (try with_reducible rfl))
  try simp only [Act.put, zp1, zp2, zp3]
  refine take_y 6 79 (v := ?_) rfl ?_ ?_; rotate_left; focus (intro w hSw; (try dsimp only at hSw); go_simp; (try rw [if_neg (by omega)]); (try with_reducible rfl))
  try simp only [Act.put, zp1, zp2, zp3]
  refine wpAnyH_ready (rs := [7]) (by kernel_rfl) (by simp) ?_
  refine AllReadyH.cons rfl (fun K hK => ?_) AllReadyH.nil
  go_simp
  refine (l4Used0_any _ _ _ _ _ _ _ HOK.out ((HV.out.below hbel6).drewN 1) (by omega)).mono ?_
  rintro e w7 ⟨vu, rfl, hou, hb7⟩
  refine hK.out _ _ againA (fun hHeld2 => ?_); clear hHeld hK K; have hHeld := hHeld2; clear hHeld2; (try simp only [Act.put, zp1, zp2, zp3])
  have hbel7 : Below w.heap.size w w7 := (hbel6.drew).trans (Below.mono hb7 hbel6.size)
  have hB7 := hB6.drew.belowAll hb7
  have ho7 := (Own.drew ho6).below hb7 ho6.lt
  rw [← HDX.out] at hou
  refine wpAnyH_ready (rs := [8]) (by kernel_rfl) (by simp) ?_
  refine AllReadyH.cons rfl (fun K hK => ?_) AllReadyH.nil
  go_simp
  refine (l4First_any O E m _ cs false (x / E) _ (by omega) HEA.out (Rds.ofOwns hou)).mono ?_
  rintro e w8 ⟨rfl, hb8⟩
  rw [HFA.out]
  refine hK.out _ _ againA (fun hHeld2 => ?_); clear hHeld hK K; have hHeld := hHeld2; clear hHeld2; (try simp only [Act.put, zp1, zp2, zp3])
  have hbel8 : Below w.heap.size w w8 := hbel7.trans (Below.mono hb8 hbel7.size)
  have hB8 := hB7.belowAll hb8
  have ho8 := ho7.below hb8 ho7.lt
  refine take_y 9 12 (v := ?_) rfl ?_ ?_; rotate_left; focus (intro w hSw; (try dsimp only at hSw); go_simp; (try rw [if_neg (by omega)]); (try with_reducible rfl))
  try simp only [Act.put, zp1, zp2, zp3]
  refine wpAnyH_done (by kernel_rfl) ?_ _
  clear hHeld hB6 t1 t2 t3 tlt hou hb7 hb8 hbel6 ho6 hB7 ho7 hbel7
  obtain ⟨t1, t2, t3, -, -, -, tlt⟩ := hB8.three
  go_wp2_with fail
  refine wp_region_held_drew (S := fun w' => w'.cell? ⟨w.heap.size, 0, none⟩ = some (.int .i64 O) ∧ w'.cell? ⟨w.heap.size, 1, none⟩ = some (.int .i64 E) ∧ w'.cell? ⟨w.heap.size, 2, none⟩ = some (.int .i64 (m : Nat))) (by kernel_rfl) (by (try dsimp only); (exact keepA)) (fun hHeld => ?_)
  refine take_y 0 82 (v := ?_) rfl ?_ ?_; rotate_left; focus (intro w hSw; (try dsimp only at hSw); go_simp; (try rw [if_neg (by omega)]); (try with_reducible rfl))
  try simp only [Act.put, zp1, zp2, zp3]
  refine take_y 1 83 (v := ?_) rfl ?_ ?_; rotate_left; focus (intro w hSw; (try dsimp only at hSw); go_simp; (try rw [if_neg (by omega)]); (try with_reducible rfl))
  try simp only [Act.put, zp1, zp2, zp3]
  refine take_y 2 84 (v := ?_) rfl ?_ ?_; rotate_left; focus (intro w hSw; (try dsimp only at hSw); go_simp; (try rw [if_neg (by omega)]); (try with_reducible rfl))
  try simp only [Act.put, zp1, zp2, zp3]
  refine take_y 3 85 (v := ?_) rfl ?_ ?_; rotate_left; focus (intro w hSw; (try dsimp only at hSw); go_simp; (try rw [if_neg (by omega)]); (try with_reducible rfl))
  try simp only [Act.put, zp1, zp2, zp3]
  refine take_y 4 86 (v := ?_) rfl ?_ ?_; rotate_left; focus (intro w hSw; (try dsimp only at hSw); go_simp; (try rw [if_neg (by omega)]); (try with_reducible rfl))
  try simp only [Act.put, zp1, zp2, zp3]
  refine take_y 5 87 (v := ?_) rfl ?_ ?_; rotate_left; focus (intro w hSw; (try dsimp only at hSw); go_simp; (try rw [if_neg (by omega)]); (try with_reducible rfl))
  try simp only [Act.put, zp1, zp2, zp3]
  refine take_y 6 88 (v := ?_) rfl ?_ ?_; rotate_left; focus (intro w hSw; (try dsimp only at hSw); go_simp; (try rw [if_neg (by omega)]); (try with_reducible rfl))
  try simp only [Act.put, zp1, zp2, zp3]
  refine wpAnyH_ready (rs := [7]) (by kernel_rfl) (by simp) ?_
  refine AllReadyH.cons rfl (fun K hK => ?_) AllReadyH.nil
  go_simp
  refine (l4Used1_any _ _ _ _ _ _ _ HOK.out ((HV.out.below hbel8).drewN 1) (by omega)).mono ?_
  rintro e w9 ⟨vu, rfl, hou, hb9⟩
  refine hK.out _ _ againA (fun hHeld2 => ?_); clear hHeld hK K; have hHeld := hHeld2; clear hHeld2; (try simp only [Act.put, zp1, zp2, zp3])
  have hbel9 : Below w.heap.size w w9 := (hbel8.drew).trans (Below.mono hb9 hbel8.size)
  have hB9 := hB8.drew.belowAll hb9
  have ho9 := (Own.drew ho8).below hb9 ho8.lt
  rw [← HDY.out] at hou
  refine wpAnyH_ready (rs := [8]) (by kernel_rfl) (by simp) ?_
  refine AllReadyH.cons rfl (fun K hK => ?_) AllReadyH.nil
  go_simp
  refine (l4First_any O E m _ cs true (y / E) _ (by omega) HEB.out (Rds.ofOwns hou)).mono ?_
  rintro e wa ⟨rfl, hba⟩
  rw [HFB.out]
  refine hK.out _ _ againA (fun hHeld2 => ?_); clear hHeld hK K; have hHeld := hHeld2; clear hHeld2; (try simp only [Act.put, zp1, zp2, zp3])
  have hbela : Below w.heap.size w wa := hbel9.trans (Below.mono hba hbel9.size)
  have hBa := hB9.belowAll hba
  have hoa := ho9.below hba ho9.lt
  refine take_y 9 13 (v := ?_) rfl ?_ ?_; rotate_left; focus (intro w hSw; (try dsimp only at hSw); go_simp; (try rw [if_neg (by omega)]); (try with_reducible rfl))
  try simp only [Act.put, zp1, zp2, zp3]
  refine wpAnyH_done (by kernel_rfl) ?_ _
  clear hHeld hB8 t1 t2 t3 tlt hou hb9 hba hbel8 ho8 hB9 ho9 hbel9
  obtain ⟨t1, t2, t3, -, -, -, tlt⟩ := hBa.three
  have hgza := hbela.size
  have hgla := hoa.lt
  have hab := HCX.out
  have a0 := hab.a0
  have a1 := hab.a1
  have b0 := hab.b0
  have b1 := hab.b1
  clear hab
  go_wp2_with fail
  obtain ⟨n, hn⟩ : ∃ n, cs.length = n := ⟨_, rfl⟩
  have HN := Lib.hid hn
  rw [hn] at hoa hcn hln ⊢
  clear hn
  go_loopg [14, 15, 16, 17] (n + 1) (fun gk vch sd ou wt wr => ∃ (ch : List Nat) (s : Bool) (outer want : Int), sd = .int .i64 (sideI s) ∧ ou = .int .i64 outer ∧ wt = .int .i64 want ∧ Hid (ChAt E cs fa fb (x / E) y s outer want ch) ∧ wr.ownsRow wa.heap.size 3 1 vch ch.length (ivs (nats ch)) ∧ Below wa.heap.size wa wr ∧ Hid (ch.length + gk = n + 1))
  case atStart => exact ⟨[], true, _, _, rfl, rfl, rfl, (by have := ChAt.start (a := fa) (b := fb) (I := x / E) (y := y) HCX.out.hO; unfold Hid; rw [HDY.out] at this; exact this), (by exact own_empty8 rfl (Nat.le_refl _)), (Below.refl _ _).alloc (Nat.le_refl _) _, by unfold Hid; simp⟩
  case round =>
   obtain ⟨ch, s, outer, want, rfl, rfl, rfl, hat, hown, hbel, hgk⟩ := hrel
   obtain ⟨wo, rfl⟩ : ∃ wo : World, wo = wr := ⟨_, rfl⟩
   have hOw := hoa.below hbel hoa.lt
   have hBr := hBa.below hbel hBa.lt
   have hbelW : Below w.heap.size w wo := hbela.trans (Below.mono hbel hgza)
   obtain ⟨s1, s2, s3, -, -, -, slt⟩ := hBr.three
   have hglt := hOw.lt
   have hwn : 0 ≤ want ∧ want < m := by
    rcases hat.out.inv.st with ⟨_, h⟩ | ⟨_, h, _⟩ <;> rw [h] <;> omega
   obtain ⟨hwn0, hwn1⟩ := hwn
   clear t1 t2 t3 tlt
   cases s
   ·
    simp only [sideI]
    try simp only [if_true, if_false]
    go_wp2_with fail
    go_loopg [18, 19] n (fun gj nx i wi => ∃ (k q : Nat) (r : Int), k ≤ n ∧ i = .int .i64 k ∧ nx = .int .i64 r ∧ Hid (Found k (wantP E cs false outer want ch) r) ∧ wi = wo.drewN q ∧ Hid (k + gj = n))
    case atStart => exact ⟨0, 0, -1, by omega, rfl, rfl, .inl ⟨rfl, fun k h => absurd h (by omega)⟩, rfl, by unfold Hid; omega⟩
    case round =>
     obtain ⟨k, q, r, hk, rfl, rfl, hfd, rfl, hgj⟩ := hrel
     by_cases hkn : k < n
     ·
      obtain ⟨c, hc⟩ : ∃ c, cs[k]? = some c := ⟨_, List.getElem?_eq_getElem (by rw [HN.out]; omega)⟩
      obtain ⟨d1, d2, d3⟩ := ccells_at _ _ _ hc
      have k1 := (hOw.cell (k * 3) (by omega)).trans d1
      have k2 := (hOw.cell (k * 3 + 1) (by omega)).trans d2
      have k3 := (hOw.cell (k * 3 + 2) (by omega)).trans d3
      have i1 : (0 : Int) ≤ (k : Int) := by omega
      have i2 : (k : Int) < (n : Int) := by omega
      clear d1 d2 d3
      have hat3 := HOK.out.at' k c hc
      have hw5 : IntKind.i64.wrap (c.1 / E) = c.1 / E := wrap_quo (by omega) (L := O * E) (by omega) (by rw [HL.out]; exact hOE) (by omega)
      have hw6 : Int.tdiv c.1 E = c.1 / E := Int.tdiv_eq_ediv_of_nonneg (by omega)
      obtain ⟨dz, hdz⟩ : ∃ d, c.1 / E = d := ⟨_, rfl⟩
      rw [hdz] at hw5 hw6
      have HSW : Hid (swC E false c = dz) := hdz
      obtain ⟨cz, hcz⟩ : ∃ d, c.1 = d := ⟨_, rfl⟩
      rw [hcz] at k1 hw6
      obtain ⟨cv, hcv⟩ : ∃ d, c.2.2 = d := ⟨_, rfl⟩
      rw [hcv] at k3
      have HC := Lib.hid hc
      have HCV := Lib.hid hcv
      clear hc hcz hcv hat3 hdz
      by_cases hq : dz = outer
      ·
       have hqb : ((dz : Int) == outer) = true := by simpa using hq
       have hqd : decide (dz = outer) = true := by simpa using hq
       have HQ := Lib.hid hq
       clear hq
       go_wp2_with fail
       go_quiet (fail)
       clear hw5 hw6 hqb hqd
       by_cases hv : cv = want
       ·
        have hvb : ((cv : Int) == want) = true := by simpa using hv
        have HVV := Lib.hid hv
        clear hv
        go_wp2_with fail
        refine (l1Has_any _ (nats ch) (k : Nat) _ (by rw [nats_len]; exact (Rds.ofOwns hown).drewN _)).mono ?_
        rintro e w9 ⟨rfl, rfl⟩
        rw [nats_mem]
        by_cases hin : k ∈ ch
        ·
         have HST : Hid (Found (k + 1) (wantP E cs false outer want ch) r) := found_no (fun h => h.1 hin) hfd.out
         rw [decide_eq_true hin]
         clear hin
         go_wp2_with fail
         go_roundg (gk - 1)
         case measure => have := hgj.out; omega
         case rel => exact ⟨k + 1, _, r, by omega, by go_num, rfl, HST.out, rfl, by have := hgj.out; unfold Hid; omega⟩
        ·
         have HST : Hid (Found (k + 1) (wantP E cs false outer want ch) (k : Nat)) := found_yes ⟨hin, c, HC.out, by rw [HCV.out]; exact HVV.out, by rw [HSW.out]; exact HQ.out⟩
         rw [decide_eq_false hin]
         clear hin
         go_wp2_with fail
         go_roundg (gk - 1)
         case measure => have := hgj.out; omega
         case rel => exact ⟨k + 1, _, k, by omega, by go_num, rfl, HST.out, rfl, by have := hgj.out; unfold Hid; omega⟩
       ·
        have hvb : ((cv : Int) == want) = false := by simpa using hv
        have HST : Hid (Found (k + 1) (wantP E cs false outer want ch) r) := found_no (fun h => by obtain ⟨_, d, h1, h2, _⟩ := h; rw [HC.out] at h1; cases h1; rw [HCV.out] at h2; exact hv h2) hfd.out
        clear hv
        go_wp2_with fail
        go_roundg (gk - 1)
        case measure => have := hgj.out; omega
        case rel => exact ⟨k + 1, _, r, by omega, by go_num, rfl, HST.out, rfl, by have := hgj.out; unfold Hid; omega⟩
      ·
       have hqb : ((dz : Int) == outer) = false := by simpa using hq
       have hqd : decide (dz = outer) = false := by simpa using hq
       have HST : Hid (Found (k + 1) (wantP E cs false outer want ch) r) := found_no (fun h => by obtain ⟨_, d, h1, _, h3⟩ := h; rw [HC.out] at h1; cases h1; rw [HSW.out] at h3; exact hq h3) hfd.out
       clear hq
       go_wp2_with fail
       go_quiet (fail)
       clear hw5 hw6 hqb hqd
       go_wp2_with fail
       go_roundg (gk - 1)
       case measure => have := hgj.out; omega
       case rel => exact ⟨k + 1, _, r, by omega, by go_num, rfl, HST.out, rfl, by have := hgj.out; unfold Hid; omega⟩
     ·
      obtain rfl : n = k := by omega
      have hnx := last_next (E := E) (cs := cs) (s := false) (outer := outer) (want := want) (ch := ch) (r := r) HOK.out.uniq (by rw [HN.out]; exact hfd.out)
      have HNX := Lib.hid hnx
      clear hnx hfd
      by_cases hr : r < 0
      ·
       have hnn : nextK cs.length (viaL cs) (swL E cs) false outer want ch = none := by
        rcases HNX.out with ⟨_, h⟩ | ⟨k, h, _⟩
        ·
         exact h
        ·
         omega
       have HCH := Lib.hid (hat.out.stop hnn)
       have HND := Lib.hid hat.out.inv.nd
       have HLT := Lib.hid hat.out.lt
       have hll : ch.length ≤ 12 := by have := hat.out.len; rw [HN.out] at this; omega
       clear hnn HNX
       obtain ⟨ac, cc, rfl, -, -, -, -⟩ := (Rds.ofOwns hown).open1
       have hfl0 : flipL fa fb (ch.take 0) cs = cs := by rw [List.take_zero]; exact flipL_nil _ _ _
       have HFL := Lib.hid hfl0
       clear hfl0
       go_wp2_with fail
       obtain ⟨lc, hlc⟩ : ∃ l, ch.length = l := ⟨_, rfl⟩
       have HLC := Lib.hid hlc
       rw [hlc] at hown hll ⊢
       clear hlc
       go_loopg [21] lc (fun g3 i wi => ∃ (k : Nat), k ≤ lc ∧ i = .int .i64 k ∧ Own wi g n cap 57 3 (ccells (flipL fa fb (ch.take k) cs)) ∧ wi.ownsRow wa.heap.size 3 1 (.slice ac lc cc) lc (ivs (nats ch)) ∧ Below w.heap.size w wi ∧ Hid (k + g3 = lc))
       case atStart => exact ⟨0, by omega, rfl, by rw [HFL.out]; exact hOw, hown, below_drewN hbelW _, by unfold Hid; omega⟩
       case round =>
        obtain ⟨k, hk, rfl, ho3, hr3, hbel3, hg3⟩ := hrel
        have hz3 := hbel3.size
        by_cases hkl : k < lc
        ·
         obtain ⟨j, hj⟩ : ∃ j, ch[k]? = some j := ⟨_, List.getElem?_eq_getElem (by rw [HLC.out]; exact hkl)⟩
         have hjn := HLT.out j (List.mem_of_getElem? hj)
         obtain ⟨c, hc⟩ : ∃ c, cs[j]? = some c := ⟨_, List.getElem?_eq_getElem hjn⟩
         rw [HN.out] at hjn
         obtain ⟨f1, f2⟩ := flip_one (a := fa) (b := fb) (ch := ch.take k) (not_in_take HND.out hj) hc
         have f3 := flipL_at (a := fa) (b := fb) (ch := ch.take k) hc
         have HTK : Hid (ch.take k ++ [j] = ch.take (k + 1)) := by unfold Hid; rw [List.take_add_one, hj]; rfl
         have hat3 := HOK.out.at' j c hc
         obtain ⟨d1, d2, d3⟩ := ccells_at _ _ _ f1
         have q2 := (ho3.cell (j * 3 + 2) (by omega)).trans d3
         have fz := ho3.free (j * 3 + 2)
         have hgl3 := ho3.lt
         obtain ⟨a4, c4, hve, -, -, -, hc4⟩ := (Rds.ofOwns hr3).open1
         cases hve
         rcases hc4 with h | ⟨b, off, rfl, hb, hc4⟩
         ·
          omega
         have q1 := hc4 k hkl
         rw [ivs_at (nats ch) k j (nats_at hj)] at q1
         obtain ⟨cv, hcv⟩ : ∃ z, c.2.2 = z := ⟨_, rfl⟩
         rw [hcv] at q2 hat3 f2
         have hown1 : Own (wr.setCell ⟨g, j * 3 + 2, none⟩ (.int .i64 (fa + fb - cv))) g n cap 57 3 (ccells (flipL fa fb (ch.take (k + 1)) cs)) := by
          rw [← HTK.out, ← f2, ← ccells_via _ _ _ (fa + fb - cv) f1]
          exact ho3.set rfl
         have hrow1 : (wr.setCell ⟨g, j * 3 + 2, none⟩ (.int .i64 (fa + fb - cv))).ownsRow wa.heap.size 3 1 (.slice (some ⟨b, off, none⟩) lc cc) lc (ivs (nats ch)) :=
          hr3.kept (gb_set (World.grownBy.refl _ _)) (.inr (fun e => by have := own_ge hr3 _ e; omega))
         have hbel4 : Below w.heap.size w (wr.setCell ⟨g, j * 3 + 2, none⟩ (.int .i64 (fa + fb - cv))) := hbel3.setCell (by simp; omega) _
         have hs1 : IntKind.i64.wrap (fa + fb) = fa + fb := IntWalk.i64_in _ (by omega)
         have hs2 : IntKind.i64.wrap (fa + fb - cv) = fa + fb - cv := IntWalk.i64_in _ (by omega)
         have i1 : (0 : Int) ≤ (k : Int) := by omega
         have i2 : (k : Int) < (lc : Int) := by omega
         have i3 : (0 : Int) ≤ (j : Int) := by omega
         have i4 : (j : Int) < (n : Int) := by omega
         clear hj hc f1 f2 f3 hat3 d1 d2 d3 hcv hc4
         go_wp2_with fail
         go_still_tail 19, (by kernel_rfl)
         change wpList _ _ _ _ _ wr.drew
         go_wp2_with fail
         go_roundg (lc - (k + 1))
         case measure => have := hg3.out; omega
         case rel => exact ⟨k + 1, by omega, by go_num, hown1, hrow1, hbel4.drew, by have := hg3.out; unfold Hid; omega⟩
        ·
         obtain rfl : lc = k := by omega
         have HTA : Hid (flipL fa fb (ch.take lc) cs = flipL fa fb ch cs) := by unfold Hid; rw [List.take_of_length_le (by rw [HLC.out]; omega)]
         rw [HTA.out] at ho3
         clear hr3
         go_wp2_with (at_builtin; refine wpList_append_own _ rfl _ _ 31 rfl w.heap.size 57 i0 _ 3 24 Try.underlying31 hi hz0 hz1 hz2 rfl (by decide) _ _ _ rfl ((ho3.back (by omega)).alloc _) ⟨wr.heap.size, 0, none⟩ 1 1 [.int .i64 x, .int .i64 y, .int .i64 fa] rfl rfl (news3 _ _ _ _ _ _ (by first | rfl | simp)) (oneC _ _ _) (by unfold maxLen; omega) (by omega) (by simp; omega) ?_; intro v' w7 hown' hgrow _)
         have hbel7 : Below w.heap.size w w7 := Below.grown (by (exact grownA)) hgrow (by simp; omega) (own_ge (ho3.back (by omega)))
         clear hgrow
         go_wp2
         go_returns
         unfold MvPost
         rw [HM.out, HCH.out]
         refine ⟨_, rfl, ?_, hbel7⟩
         rw [List.length_append, flipL_len, HN.out, ← ccells_snoc]
         exact hown'
      ·
       obtain ⟨j, rfl, hnk⟩ : ∃ j : Nat, r = j ∧ nextK cs.length (viaL cs) (swL E cs) false outer want ch = some j := by
        rcases HNX.out with ⟨h1, _⟩ | h
        ·
         omega
        ·
         exact h
       obtain ⟨hj1, _⟩ := nextK_some hnk
       obtain ⟨c, hc⟩ : ∃ c, cs[j]? = some c := ⟨_, List.getElem?_eq_getElem hj1⟩
       have hgo := hat.out.go HOK.out.uniq HCX.out.hI hnk
       rw [swL_at hc] at hgo
       have hle := hgo.len
       have hat3 := HOK.out.at' j c hc
       rw [HN.out] at hj1 hle
       have hw5 : IntKind.i64.wrap (c.2.1 / E) = c.2.1 / E := wrap_quo (by omega) (L := O * E) (by omega) (by rw [HL.out]; exact hOE) (by omega)
       have hw6 : Int.tdiv c.2.1 E = c.2.1 / E := Int.tdiv_eq_ediv_of_nonneg (by omega)
       have hwz : swC E (!false) c = c.2.1 / E := rfl
       rw [hwz] at hgo
       obtain ⟨dz, hdz⟩ : ∃ d, c.2.1 / E = d := ⟨_, rfl⟩
       rw [hdz] at hw5 hw6 hgo
       have HGO := Lib.hid hgo
       have HC := Lib.hid hc
       have HLE := Lib.hid hle
       have hlc : ch.length ≤ 12 := by simp only [List.length_append, List.length_cons, List.length_nil] at hle; omega
       obtain ⟨d1, d2, d3⟩ := ccells_at _ _ _ hc
       have HD1 := Lib.hid d1
       have HD2 := Lib.hid d2
       clear hc hnk hgo hat3 hdz hwz d1 d2 d3 hle
       go_wp2_with (at_builtin; refine wpList_append_own _ rfl _ _ 54 rfl wa.heap.size 3 j0 _ 1 8 Try.underlying54 hj hy0 hy1 hy2 rfl (by decide) _ _ _ rfl (World.ownsRow.alloc (w := wo.drewN _) hown _) ⟨wo.heap.size, 0, none⟩ 1 1 [.int .i64 (j : Nat)] rfl rfl (new1 _ _ _ _ (by first | rfl | simp)) (one1 _) (by unfold maxLen; omega) (by omega) (by have := hbel.size; first | omega | (simp; omega)) ?_; intro v' w5 hown' hgrow _; have hbel5 : Below wa.heap.size wa w5 := Below.grown ((below_drewN hbel _).alloc hbel.size _) hgrow (by have := hbel.size; first | omega | (simp; omega)) (own_ge hown); obtain ⟨u1, u2, u3, -, -, -, ult⟩ := (hBa.below hbel5 hBa.lt).three; have q0 := ((hoa.below hbel5 hoa.lt).cell (j * 3 + 1) (by omega)).trans HD2.out; have hglt5 := (hoa.below hbel5 hoa.lt).lt; have i1 : (0 : Int) ≤ (j : Int) := (by omega); have i2 : (j : Int) < (n : Int) := (by omega))
       go_quiet (fail)
       clear hw5 hw6
       go_wp2_with fail
       go_roundg (n - ch.length)
       case measure =>
        have h8 := hgk.out
        have h9 := HLE.out
        simp only [List.length_append, List.length_cons, List.length_nil] at h9
        omega
       case rel =>
        refine ⟨ch ++ [j], true, dz, fa + fb - want, rfl, rfl, rfl, HGO.out, ?_, below_drewN hbel5 _, ?_⟩
        ·
         rw [List.length_append, nats_snoc, ← ivs_snoc]; exact hown'
        ·
         unfold Hid
         have h8 := hgk.out
         have h9 := HLE.out
         simp only [List.length_append, List.length_cons, List.length_nil] at h9 ⊢
         omega
   ·
    simp only [sideI]
    try simp only [if_true, if_false]
    go_wp2_with fail
    go_loopg [18, 19] n (fun gj nx i wi => ∃ (k q : Nat) (r : Int), k ≤ n ∧ i = .int .i64 k ∧ nx = .int .i64 r ∧ Hid (Found k (wantP E cs true outer want ch) r) ∧ wi = wo.drewN q ∧ Hid (k + gj = n))
    case atStart => exact ⟨0, 0, -1, by omega, rfl, rfl, .inl ⟨rfl, fun k h => absurd h (by omega)⟩, rfl, by unfold Hid; omega⟩
    case round =>
     obtain ⟨k, q, r, hk, rfl, rfl, hfd, rfl, hgj⟩ := hrel
     by_cases hkn : k < n
     ·
      obtain ⟨c, hc⟩ : ∃ c, cs[k]? = some c := ⟨_, List.getElem?_eq_getElem (by rw [HN.out]; omega)⟩
      obtain ⟨d1, d2, d3⟩ := ccells_at _ _ _ hc
      have k1 := (hOw.cell (k * 3) (by omega)).trans d1
      have k2 := (hOw.cell (k * 3 + 1) (by omega)).trans d2
      have k3 := (hOw.cell (k * 3 + 2) (by omega)).trans d3
      have i1 : (0 : Int) ≤ (k : Int) := by omega
      have i2 : (k : Int) < (n : Int) := by omega
      clear d1 d2 d3
      have hat3 := HOK.out.at' k c hc
      have hw5 : IntKind.i64.wrap (c.2.1 / E) = c.2.1 / E := wrap_quo (by omega) (L := O * E) (by omega) (by rw [HL.out]; exact hOE) (by omega)
      have hw6 : Int.tdiv c.2.1 E = c.2.1 / E := Int.tdiv_eq_ediv_of_nonneg (by omega)
      obtain ⟨dz, hdz⟩ : ∃ d, c.2.1 / E = d := ⟨_, rfl⟩
      rw [hdz] at hw5 hw6
      have HSW : Hid (swC E true c = dz) := hdz
      obtain ⟨cz, hcz⟩ : ∃ d, c.2.1 = d := ⟨_, rfl⟩
      rw [hcz] at k2 hw6
      obtain ⟨cv, hcv⟩ : ∃ d, c.2.2 = d := ⟨_, rfl⟩
      rw [hcv] at k3
      have HC := Lib.hid hc
      have HCV := Lib.hid hcv
      clear hc hcz hcv hat3 hdz
      by_cases hq : dz = outer
      ·
       have hqb : ((dz : Int) == outer) = true := by simpa using hq
       have hqd : decide (dz = outer) = true := by simpa using hq
       have HQ := Lib.hid hq
       clear hq
       go_wp2_with fail
       go_quiet (fail)
       clear hw5 hw6 hqb hqd
       by_cases hv : cv = want
       ·
        have hvb : ((cv : Int) == want) = true := by simpa using hv
        have HVV := Lib.hid hv
        clear hv
        go_wp2_with fail
        refine (l1Has_any _ (nats ch) (k : Nat) _ (by rw [nats_len]; exact (Rds.ofOwns hown).drewN _)).mono ?_
        rintro e w9 ⟨rfl, rfl⟩
        rw [nats_mem]
        by_cases hin : k ∈ ch
        ·
         have HST : Hid (Found (k + 1) (wantP E cs true outer want ch) r) := found_no (fun h => h.1 hin) hfd.out
         rw [decide_eq_true hin]
         clear hin
         go_wp2_with fail
         go_roundg (gk - 1)
         case measure => have := hgj.out; omega
         case rel => exact ⟨k + 1, _, r, by omega, by go_num, rfl, HST.out, rfl, by have := hgj.out; unfold Hid; omega⟩
        ·
         have HST : Hid (Found (k + 1) (wantP E cs true outer want ch) (k : Nat)) := found_yes ⟨hin, c, HC.out, by rw [HCV.out]; exact HVV.out, by rw [HSW.out]; exact HQ.out⟩
         rw [decide_eq_false hin]
         clear hin
         go_wp2_with fail
         go_roundg (gk - 1)
         case measure => have := hgj.out; omega
         case rel => exact ⟨k + 1, _, k, by omega, by go_num, rfl, HST.out, rfl, by have := hgj.out; unfold Hid; omega⟩
       ·
        have hvb : ((cv : Int) == want) = false := by simpa using hv
        have HST : Hid (Found (k + 1) (wantP E cs true outer want ch) r) := found_no (fun h => by obtain ⟨_, d, h1, h2, _⟩ := h; rw [HC.out] at h1; cases h1; rw [HCV.out] at h2; exact hv h2) hfd.out
        clear hv
        go_wp2_with fail
        go_roundg (gk - 1)
        case measure => have := hgj.out; omega
        case rel => exact ⟨k + 1, _, r, by omega, by go_num, rfl, HST.out, rfl, by have := hgj.out; unfold Hid; omega⟩
      ·
       have hqb : ((dz : Int) == outer) = false := by simpa using hq
       have hqd : decide (dz = outer) = false := by simpa using hq
       have HST : Hid (Found (k + 1) (wantP E cs true outer want ch) r) := found_no (fun h => by obtain ⟨_, d, h1, _, h3⟩ := h; rw [HC.out] at h1; cases h1; rw [HSW.out] at h3; exact hq h3) hfd.out
       clear hq
       go_wp2_with fail
       go_quiet (fail)
       clear hw5 hw6 hqb hqd
       go_wp2_with fail
       go_roundg (gk - 1)
       case measure => have := hgj.out; omega
       case rel => exact ⟨k + 1, _, r, by omega, by go_num, rfl, HST.out, rfl, by have := hgj.out; unfold Hid; omega⟩
     ·
      obtain rfl : n = k := by omega
      have hnx := last_next (E := E) (cs := cs) (s := true) (outer := outer) (want := want) (ch := ch) (r := r) HOK.out.uniq (by rw [HN.out]; exact hfd.out)
      have HNX := Lib.hid hnx
      clear hnx hfd
      by_cases hr : r < 0
      ·
       have hnn : nextK cs.length (viaL cs) (swL E cs) true outer want ch = none := by
        rcases HNX.out with ⟨_, h⟩ | ⟨k, h, _⟩
        ·
         exact h
        ·
         omega
       have HCH := Lib.hid (hat.out.stop hnn)
       have HND := Lib.hid hat.out.inv.nd
       have HLT := Lib.hid hat.out.lt
       have hll : ch.length ≤ 12 := by have := hat.out.len; rw [HN.out] at this; omega
       clear hnn HNX
       obtain ⟨ac, cc, rfl, -, -, -, -⟩ := (Rds.ofOwns hown).open1
       have hfl0 : flipL fa fb (ch.take 0) cs = cs := by rw [List.take_zero]; exact flipL_nil _ _ _
       have HFL := Lib.hid hfl0
       clear hfl0
       go_wp2_with fail
       obtain ⟨lc, hlc⟩ : ∃ l, ch.length = l := ⟨_, rfl⟩
       have HLC := Lib.hid hlc
       rw [hlc] at hown hll ⊢
       clear hlc
       go_loopg [21] lc (fun g3 i wi => ∃ (k : Nat), k ≤ lc ∧ i = .int .i64 k ∧ Own wi g n cap 57 3 (ccells (flipL fa fb (ch.take k) cs)) ∧ wi.ownsRow wa.heap.size 3 1 (.slice ac lc cc) lc (ivs (nats ch)) ∧ Below w.heap.size w wi ∧ Hid (k + g3 = lc))
       case atStart => exact ⟨0, by omega, rfl, by rw [HFL.out]; exact hOw, hown, below_drewN hbelW _, by unfold Hid; omega⟩
       case round =>
        obtain ⟨k, hk, rfl, ho3, hr3, hbel3, hg3⟩ := hrel
        have hz3 := hbel3.size
        by_cases hkl : k < lc
        ·
         obtain ⟨j, hj⟩ : ∃ j, ch[k]? = some j := ⟨_, List.getElem?_eq_getElem (by rw [HLC.out]; exact hkl)⟩
         have hjn := HLT.out j (List.mem_of_getElem? hj)
         obtain ⟨c, hc⟩ : ∃ c, cs[j]? = some c := ⟨_, List.getElem?_eq_getElem hjn⟩
         rw [HN.out] at hjn
         obtain ⟨f1, f2⟩ := flip_one (a := fa) (b := fb) (ch := ch.take k) (not_in_take HND.out hj) hc
         have f3 := flipL_at (a := fa) (b := fb) (ch := ch.take k) hc
         have HTK : Hid (ch.take k ++ [j] = ch.take (k + 1)) := by unfold Hid; rw [List.take_add_one, hj]; rfl
         have hat3 := HOK.out.at' j c hc
         obtain ⟨d1, d2, d3⟩ := ccells_at _ _ _ f1
         have q2 := (ho3.cell (j * 3 + 2) (by omega)).trans d3
         have fz := ho3.free (j * 3 + 2)
         have hgl3 := ho3.lt
         obtain ⟨a4, c4, hve, -, -, -, hc4⟩ := (Rds.ofOwns hr3).open1
         cases hve
         rcases hc4 with h | ⟨b, off, rfl, hb, hc4⟩
         ·
          omega
         have q1 := hc4 k hkl
         rw [ivs_at (nats ch) k j (nats_at hj)] at q1
         obtain ⟨cv, hcv⟩ : ∃ z, c.2.2 = z := ⟨_, rfl⟩
         rw [hcv] at q2 hat3 f2
         have hown1 : Own (wr.setCell ⟨g, j * 3 + 2, none⟩ (.int .i64 (fa + fb - cv))) g n cap 57 3 (ccells (flipL fa fb (ch.take (k + 1)) cs)) := by
          rw [← HTK.out, ← f2, ← ccells_via _ _ _ (fa + fb - cv) f1]
          exact ho3.set rfl
         have hrow1 : (wr.setCell ⟨g, j * 3 + 2, none⟩ (.int .i64 (fa + fb - cv))).ownsRow wa.heap.size 3 1 (.slice (some ⟨b, off, none⟩) lc cc) lc (ivs (nats ch)) :=
          hr3.kept (gb_set (World.grownBy.refl _ _)) (.inr (fun e => by have := own_ge hr3 _ e; omega))
         have hbel4 : Below w.heap.size w (wr.setCell ⟨g, j * 3 + 2, none⟩ (.int .i64 (fa + fb - cv))) := hbel3.setCell (by simp; omega) _
         have hs1 : IntKind.i64.wrap (fa + fb) = fa + fb := IntWalk.i64_in _ (by omega)
         have hs2 : IntKind.i64.wrap (fa + fb - cv) = fa + fb - cv := IntWalk.i64_in _ (by omega)
         have i1 : (0 : Int) ≤ (k : Int) := by omega
         have i2 : (k : Int) < (lc : Int) := by omega
         have i3 : (0 : Int) ≤ (j : Int) := by omega
         have i4 : (j : Int) < (n : Int) := by omega
         clear hj hc f1 f2 f3 hat3 d1 d2 d3 hcv hc4
         go_wp2_with fail
         go_still_tail 19, (by kernel_rfl)
         change wpList _ _ _ _ _ wr.drew
         go_wp2_with fail
         go_roundg (lc - (k + 1))
         case measure => have := hg3.out; omega
         case rel => exact ⟨k + 1, by omega, by go_num, hown1, hrow1, hbel4.drew, by have := hg3.out; unfold Hid; omega⟩
        ·
         obtain rfl : lc = k := by omega
         have HTA : Hid (flipL fa fb (ch.take lc) cs = flipL fa fb ch cs) := by unfold Hid; rw [List.take_of_length_le (by rw [HLC.out]; omega)]
         rw [HTA.out] at ho3
         clear hr3
         go_wp2_with (at_builtin; refine wpList_append_own _ rfl _ _ 31 rfl w.heap.size 57 i0 _ 3 24 Try.underlying31 hi hz0 hz1 hz2 rfl (by decide) _ _ _ rfl ((ho3.back (by omega)).alloc _) ⟨wr.heap.size, 0, none⟩ 1 1 [.int .i64 x, .int .i64 y, .int .i64 fa] rfl rfl (news3 _ _ _ _ _ _ (by first | rfl | simp)) (oneC _ _ _) (by unfold maxLen; omega) (by omega) (by simp; omega) ?_; intro v' w7 hown' hgrow _)
         have hbel7 : Below w.heap.size w w7 := Below.grown (by (exact grownA)) hgrow (by simp; omega) (own_ge (ho3.back (by omega)))
         clear hgrow
         go_wp2
         go_returns
         unfold MvPost
         rw [HM.out, HCH.out]
         refine ⟨_, rfl, ?_, hbel7⟩
         rw [List.length_append, flipL_len, HN.out, ← ccells_snoc]
         exact hown'
      ·
       obtain ⟨j, rfl, hnk⟩ : ∃ j : Nat, r = j ∧ nextK cs.length (viaL cs) (swL E cs) true outer want ch = some j := by
        rcases HNX.out with ⟨h1, _⟩ | h
        ·
         omega
        ·
         exact h
       obtain ⟨hj1, _⟩ := nextK_some hnk
       obtain ⟨c, hc⟩ : ∃ c, cs[j]? = some c := ⟨_, List.getElem?_eq_getElem hj1⟩
       have hgo := hat.out.go HOK.out.uniq HCX.out.hI hnk
       rw [swL_at hc] at hgo
       have hle := hgo.len
       have hat3 := HOK.out.at' j c hc
       rw [HN.out] at hj1 hle
       have hw5 : IntKind.i64.wrap (c.1 / E) = c.1 / E := wrap_quo (by omega) (L := O * E) (by omega) (by rw [HL.out]; exact hOE) (by omega)
       have hw6 : Int.tdiv c.1 E = c.1 / E := Int.tdiv_eq_ediv_of_nonneg (by omega)
       have hwz : swC E (!true) c = c.1 / E := rfl
       rw [hwz] at hgo
       obtain ⟨dz, hdz⟩ : ∃ d, c.1 / E = d := ⟨_, rfl⟩
       rw [hdz] at hw5 hw6 hgo
       have HGO := Lib.hid hgo
       have HC := Lib.hid hc
       have HLE := Lib.hid hle
       have hlc : ch.length ≤ 12 := by simp only [List.length_append, List.length_cons, List.length_nil] at hle; omega
       obtain ⟨d1, d2, d3⟩ := ccells_at _ _ _ hc
       have HD1 := Lib.hid d1
       have HD2 := Lib.hid d2
       clear hc hnk hgo hat3 hdz hwz d1 d2 d3 hle
       go_wp2_with (at_builtin; refine wpList_append_own _ rfl _ _ 54 rfl wa.heap.size 3 j0 _ 1 8 Try.underlying54 hj hy0 hy1 hy2 rfl (by decide) _ _ _ rfl (World.ownsRow.alloc (w := wo.drewN _) hown _) ⟨wo.heap.size, 0, none⟩ 1 1 [.int .i64 (j : Nat)] rfl rfl (new1 _ _ _ _ (by first | rfl | simp)) (one1 _) (by unfold maxLen; omega) (by omega) (by have := hbel.size; first | omega | (simp; omega)) ?_; intro v' w5 hown' hgrow _; have hbel5 : Below wa.heap.size wa w5 := Below.grown ((below_drewN hbel _).alloc hbel.size _) hgrow (by have := hbel.size; first | omega | (simp; omega)) (own_ge hown); obtain ⟨u1, u2, u3, -, -, -, ult⟩ := (hBa.below hbel5 hBa.lt).three; have q0 := ((hoa.below hbel5 hoa.lt).cell (j * 3) (by omega)).trans HD1.out; have hglt5 := (hoa.below hbel5 hoa.lt).lt; have i1 : (0 : Int) ≤ (j : Int) := (by omega); have i2 : (j : Int) < (n : Int) := (by omega))
       go_quiet (fail)
       clear hw5 hw6
       go_wp2_with fail
       go_roundg (n - ch.length)
       case measure =>
        have h8 := hgk.out
        have h9 := HLE.out
        simp only [List.length_append, List.length_cons, List.length_nil] at h9
        omega
       case rel =>
        refine ⟨ch ++ [j], false, dz, fa + fb - want, rfl, rfl, rfl, HGO.out, ?_, below_drewN hbel5 _, ?_⟩
        ·
         rw [List.length_append, nats_snoc, ← ivs_snoc]; exact hown'
        ·
         unfold Hid
         have h8 := hgk.out
         have h9 := HLE.out
         simp only [List.length_append, List.length_cons, List.length_nil] at h9 ⊢
         omega

end Go.Proofs.Ytedadhoneebfnaa
