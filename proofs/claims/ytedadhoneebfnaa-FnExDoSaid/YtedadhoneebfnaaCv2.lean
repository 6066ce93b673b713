/- Contract of CallsValid of the reference. -/
import Derived.Test.YtedadhoneebfnaaCv
import Derived.Test.YtedadhoneebfnaaJ2
import Derived.Deep.RegionHeld3
import Derived.Handy
import Derived.IntWalk
import Derived.Deep.QuietTactic
import Derived.BigQuiet
set_option linter.unusedSimpArgs false
set_option linter.unusedVariables false
namespace Go.Proofs.Ytedadhoneebfnaa
open Go.RowKit

theorem quo_wraps {O E M x : Int} (h : ShapeOk O E M) (h0 : 0 ≤ x) (h1 : x < O * E) : IntKind.i64.wrap (x / E) = x / E ∧ Int.tdiv x E = x / E :=
 ⟨wrap_quo h0 h1 (lines_le h) (by have := h.e; omega), Int.tdiv_eq_ediv_of_nonneg h0⟩

set_option maxRecDepth 100000 in
set_option maxHeartbeats 20000000 in
theorem sCallsValid_any (O E M : Int) (v : Value) (cs : List Cl) (w : World) (hv : Rds w v cs.length 3 (ccells cs)) :
  Calls Try.prog 66 #[.agg #[.int .i64 O, .int .i64 E, .int .i64 M], v] w fun e w' => e = .returned (.bool (callsB O E M cs)) ∧ Below w.heap.size w w' := by
 obtain ⟨hl1, hm1, a, ca, rfl, hn1, hc1⟩ := hv
 unfold maxLen at hm1
 have hB := Blk.new (w := w) (cs := #[.int .i64 O, .int .i64 E, .int .i64 M]) (T := 30) rfl
 have hbel0 : Below w.heap.size w (w.alloc (.cells #[.int .i64 O, .int .i64 E, .int .i64 M] 30)) := by (exact grownA)
 obtain ⟨n, hn⟩ : ∃ n, cs.length = n := ⟨_, rfl⟩
 rw [hn] at hm1 hn1 hc1 ⊢
 have HN := Lib.hid hn
 clear hn hl1
 go_enter Try.func66, Try.ntmps66
 go_wp2_with fail
 refine (sShapeValid_any _ _ _ _).mono ?_
 rintro e w1 ⟨rfl, hb⟩
 have hbel1 : Below w.heap.size w w1 := by (exact grownA)
 have hB1 := hB.below hb (by simp)
 have hz1 := hbel1.size
 clear hB hb hbel0
 obtain ⟨d, hd⟩ : ∃ d, shapeB O E M = d := ⟨_, rfl⟩
 have HD := Lib.hid hd
 rw [hd]
 clear hd
 cases d
 ·
  have HF := Lib.hid (callsB_shape cs HD.out)
  go_wp2
  go_returns
  exact ⟨by rw [HF.out]; rfl, hbel1⟩
 ·
  have hsh := (shapeB_iff _ _ _).1 HD.out
  have HSH := Lib.hid hsh
  have he := hsh.e
  have hmm := hsh.m
  have hLL := lines_le hsh
  have hL0 : 1 ≤ O * E := by
   have ho := hsh.o
   exact Int.le_trans (show (1 : Int) ≤ 1 * 1 by omega) (Int.le_trans (Int.mul_le_mul_of_nonneg_right ho.1 (by omega)) (Int.mul_le_mul_of_nonneg_left he.1 (by omega)))
  obtain ⟨L, hL⟩ : ∃ L, O * E = L := ⟨_, rfl⟩
  rw [hL] at hLL hL0
  have HLE := Lib.hid hL
  have hlt1 := hB1.lt
  clear hsh hL
  go_wp2_with fail
  go_loopw [5] (fun i wr => ∃ k : Nat, k ≤ n ∧ i = .int .i64 k ∧ Hid (ClTo (O * E) E M cs k) ∧ Below w1.heap.size w1 wr) (fun i _ => n - (intOf i).toNat)
  case atStart => exact ⟨0, by omega, rfl, ClTo.zero _ _ _ _, Below.refl _ _⟩
  case round =>
   obtain ⟨k, hk, rfl, hok, hbel⟩ := hrel
   obtain ⟨wo, rfl⟩ : ∃ wo : World, wo = wr := ⟨_, rfl⟩
   have hz := hbel.size
   by_cases hkn : k < n
   ·
    rcases hc1 with hc1 | ⟨b, off, rfl, hb, hc1⟩
    ·
     omega
    obtain ⟨c, hc⟩ : ∃ c, cs[k]? = some c := ⟨_, List.getElem?_eq_getElem (by rw [HN.out]; omega)⟩
    obtain ⟨g1, g2, g3⟩ := ccells_at cs k c hc
    have hcw : ∀ i, wo.cell? ⟨b, off + i, none⟩ = w.cell? ⟨b, off + i, none⟩ := fun i => (hbel.cell (p := ⟨b, off + i, none⟩) (by show b < _; omega)).trans (hbel1.cell (p := ⟨b, off + i, none⟩) hb)
    have c1 : wo.cell? ⟨b, off + k * 3, none⟩ = some (.int .i64 c.1) := by rw [hcw, hc1 _ (by omega), g1]
    have c2 : wo.cell? ⟨b, off + k * 3 + 1, none⟩ = some (.int .i64 c.2.1) := by rw [Nat.add_assoc, hcw, hc1 _ (by omega), g2]
    have c3 : wo.cell? ⟨b, off + k * 3 + 2, none⟩ = some (.int .i64 c.2.2) := by rw [Nat.add_assoc, hcw, hc1 _ (by omega), g3]
    have HC := Lib.hid hc
    have HC1 := Lib.hid hc1
    have hBr := hB1.below hbel hlt1
    obtain ⟨s1, s2, s3, f1, f2, f3, hslt⟩ := hBr.three
    obtain ⟨x, y, m⟩ := c
    simp only at c1 c2 c3
    clear hc g1 g2 g3 hcw hc1
    have hCb := Blk.new (w := wo) (cs := #[.int .i64 x, .int .i64 y, .int .i64 m]) (T := 57) rfl
    have hbr : Below w1.heap.size w1 (wo.alloc (.cells #[.int .i64 x, .int .i64 y, .int .i64 m] 57)) := by (exact grownA)
    have hSb := hBr.alloc (.cells #[.int .i64 x, .int .i64 y, .int .i64 m] 57)
    obtain ⟨t1, t2, t3, e1, e2, e3, hclt⟩ := hCb.three
    obtain ⟨u1, u2, u3, _, _, _, hult⟩ := hSb.three
    obtain ⟨d1, hd1⟩ : ∃ d, lnB L x = d := ⟨_, rfl⟩
    obtain ⟨d2, hd2⟩ : ∃ d, lnB L y = d := ⟨_, rfl⟩
    obtain ⟨d3, hd3⟩ : ∃ d, lnB M m = d := ⟨_, rfl⟩
    have HD1 := Lib.hid hd1
    have HD2 := Lib.hid hd2
    have HD3 := Lib.hid hd3
    have K0 : Hid (∀ w : World, Calls Try.prog 65 #[.agg #[.int .i64 O, .int .i64 E, .int .i64 M]] w fun e w' => e = .returned (.int .i64 L) ∧ Below w.heap.size w w') := fun w => (l4Lines_any O E M w HSH.out).mono fun e w' h => by rw [HLE.out] at h; exact h
    have kin : ∀ (L z : Int) (d : Bool), lnB L z = d → Hid (∀ w : World, Calls Try.prog 96 #[.int .i64 z, .int .i64 0, .int .i64 (L - 1)] w fun e w' => e = .returned (.bool d) ∧ w = w') := fun L z d hd w => (sIn_any z 0 (L - 1) w).mono fun e w' h => ⟨by
     rw [h.1, ← hd]
     congr 2
     unfold lnB
     congr 1
     rw [decide_eq_decide]; omega, h.2⟩
    have K1 := kin _ _ _ hd1
    have K2 := kin _ _ _ hd2
    have K3 := kin _ _ _ hd3
    have hwL : IntKind.i64.wrap (L - 1) = L - 1 := IntWalk.i64_in _ (by omega)
    have hwM : IntKind.i64.wrap (M - 1) = M - 1 := IntWalk.i64_in _ (by omega)
    clear hd1 hd2 hd3 kin
    go_wp2_with fail
    clear c1 c2 c3 s1 s2 s3 f1 f2 f3 hBr
    cases d1
    ·
     have HF := Lib.hid (callsB_at (O := O) (E := E) (M := M) HC.out (fun h => by have h1 := HD1.out; have h2 := h.1; rw [HLE.out] at h2; simp [lnB] at h1; simp only at h2; omega))
     refine wp_region_held_drew (S := (fun w' => w'.cell? ⟨wo.heap.size, 0, none⟩ = some (.int .i64 x) ∧ w'.cell? ⟨wo.heap.size, 1, none⟩ = some (.int .i64 y) ∧ w'.cell? ⟨wo.heap.size, 2, none⟩ = some (.int .i64 m) ∧ w'.cell? ⟨w.heap.size, 0, none⟩ = some (.int .i64 O) ∧ w'.cell? ⟨w.heap.size, 1, none⟩ = some (.int .i64 E) ∧ w'.cell? ⟨w.heap.size, 2, none⟩ = some (.int .i64 M))) (by kernel_rfl) (by (try dsimp only); (exact keepA)) (fun hHeld => ?_)
     refine take_y 0 22 (v := ?_) rfl ?_ ?_; rotate_left; focus (intro w hSw; (try dsimp only at hSw); go_simp; (try rw [if_neg (by omega)]); (try with_reducible rfl))
     try simp only [Act.put, zp1, zp2, zp3]
     refine take_y 1 23 (v := ?_) rfl ?_ ?_; rotate_left; focus (intro w hSw; (try dsimp only at hSw); go_simp; (try rw [if_neg (by omega)]); (try with_reducible rfl))
     try simp only [Act.put, zp1, zp2, zp3]
     refine take_y 2 24 (v := ?_) rfl ?_ ?_; rotate_left; focus (intro w hSw; (try dsimp only at hSw); go_simp; (try rw [if_neg (by omega)]); (try with_reducible rfl))
     try simp only [Act.put, zp1, zp2, zp3]
     refine wpAnyH_ready (rs := [3]) (by kernel_rfl) (by simp) ?_
     refine AllReadyH.cons rfl (fun K hK => ?_) AllReadyH.nil
     go_simp
     refine (K0.out _).mono ?_
     rintro e w2 ⟨rfl, hb2⟩
     refine hK.out _ _ againA (fun hHeld2 => ?_); clear hHeld hK K; have hHeld := hHeld2; clear hHeld2; (try simp only [Act.put, zp1, zp2, zp3])
     refine take_y 4 26 (v := ?_) rfl ?_ ?_; rotate_left; focus (intro w hSw; (try dsimp only at hSw); go_simp; (try rw [if_neg (by omega)]); (try with_reducible rfl))
     try simp only [Act.put, zp1, zp2, zp3]
     refine wpAnyH_ready (rs := [5]) (by kernel_rfl) (by simp) ?_
     refine AllReadyH.cons rfl (fun K hK => ?_) AllReadyH.nil
     go_simp
     refine (K1.out _).mono ?_
     rintro e w3 ⟨rfl, rfl⟩
     refine hK.out _ _ againA (fun hHeld2 => ?_); clear hHeld hK K; have hHeld := hHeld2; clear hHeld2; (try simp only [Act.put, zp1, zp2, zp3])
     refine take_y 6 28 (v := ?_) rfl ?_ ?_; rotate_left; focus (intro w hSw; (try dsimp only at hSw); go_simp; (try rw [if_neg (by omega)]); (try with_reducible rfl))
     try simp only [Act.put, zp1, zp2, zp3]
     refine take_y 7 29 (v := ?_) rfl ?_ ?_; rotate_left; focus (intro w hSw; (try dsimp only at hSw); go_simp; (try rw [if_neg (by omega)]); (try with_reducible rfl))
     try simp only [Act.put, zp1, zp2, zp3]
     refine take_on (i := 8) (d := some 30) (v := undef) rfl (by rfl) (by kernel_rfl) (by kernel_rfl) (by kernel_rfl) (fun _ _ _ h => h) (Or.inr ⟨by kernel_rfl, rfl⟩) (by assumption) ?_
     try simp only [Act.put, zp1, zp2, zp3]
     refine take_on (i := 9) (d := some 31) (v := undef) rfl (by rfl) (by kernel_rfl) (by kernel_rfl) (by kernel_rfl) (fun _ _ _ h => h) (Or.inr ⟨by kernel_rfl, rfl⟩) (by assumption) ?_
     try simp only [Act.put, zp1, zp2, zp3]
     refine take_on (i := 10) (d := some 32) (v := undef) rfl (by rfl) (by kernel_rfl) (by kernel_rfl) (by kernel_rfl) (fun _ _ _ h => h) (Or.inr ⟨by kernel_rfl, rfl⟩) (by assumption) ?_
     try simp only [Act.put, zp1, zp2, zp3]
     refine take_on (i := 11) (d := some 33) (v := undef) rfl (by rfl) (by kernel_rfl) (by kernel_rfl) (by kernel_rfl) (fun _ _ _ h => h) (Or.inr ⟨by kernel_rfl, rfl⟩) (by assumption) ?_
     try simp only [Act.put, zp1, zp2, zp3]
     refine take_on (i := 12) (d := some 34) (v := undef) rfl (by rfl) (by kernel_rfl) (by kernel_rfl) (by kernel_rfl) (fun _ _ _ h => h) (Or.inr ⟨by kernel_rfl, rfl⟩) (by assumption) ?_
     try simp only [Act.put, zp1, zp2, zp3]
     refine take_on (i := 13) (d := some 35) (v := undef) rfl (by rfl) (by kernel_rfl) (by kernel_rfl) (by kernel_rfl) (fun _ _ _ h => h) (Or.inr ⟨by kernel_rfl, rfl⟩) (by assumption) ?_
     try simp only [Act.put, zp1, zp2, zp3]
     refine take_on (i := 14) (d := some 36) (v := undef) rfl (by rfl) (by kernel_rfl) (by kernel_rfl) (by kernel_rfl) (fun _ _ _ h => h) (Or.inr ⟨by kernel_rfl, rfl⟩) (by assumption) ?_
     try simp only [Act.put, zp1, zp2, zp3]
     refine take_y 15 37 (v := ?_) rfl ?_ ?_; rotate_left; focus (intro w hSw; (try dsimp only at hSw); go_simp; (try rw [if_neg (by omega)]); (try with_reducible rfl))
     try simp only [Act.put, zp1, zp2, zp3]
     refine take_y 16 38 (v := ?_) rfl ?_ ?_; rotate_left; focus (intro w hSw; (try dsimp only at hSw); go_simp; (try rw [if_neg (by omega)]); (try with_reducible rfl))
     try simp only [Act.put, zp1, zp2, zp3]
     refine take_on (i := 17) (d := some 39) (v := undef) rfl (by rfl) (by kernel_rfl) (by kernel_rfl) (by kernel_rfl) (fun _ _ _ h => h) (Or.inr ⟨by kernel_rfl, rfl⟩) (by assumption) ?_
     try simp only [Act.put, zp1, zp2, zp3]
     refine take_on (i := 18) (d := some 40) (v := undef) rfl (by rfl) (by kernel_rfl) (by kernel_rfl) (by kernel_rfl) (fun _ _ _ h => h) (Or.inr ⟨by kernel_rfl, rfl⟩) (by assumption) ?_
     try simp only [Act.put, zp1, zp2, zp3]
     refine take_on (i := 19) (d := some 41) (v := undef) rfl (by rfl) (by kernel_rfl) (by kernel_rfl) (by kernel_rfl) (fun _ _ _ h => h) (Or.inr ⟨by kernel_rfl, rfl⟩) (by assumption) ?_
     try simp only [Act.put, zp1, zp2, zp3]
     refine take_on (i := 20) (d := some 42) (v := undef) rfl (by rfl) (by kernel_rfl) (by kernel_rfl) (by kernel_rfl) (fun _ _ _ h => h) (Or.inr ⟨by kernel_rfl, rfl⟩) (by assumption) ?_
     try simp only [Act.put, zp1, zp2, zp3]
     refine take_on (i := 21) (d := some 43) (v := undef) rfl (by rfl) (by kernel_rfl) (by kernel_rfl) (by kernel_rfl) (fun _ _ _ h => h) (Or.inr ⟨by kernel_rfl, rfl⟩) (by assumption) ?_
     try simp only [Act.put, zp1, zp2, zp3]
     refine take_on (i := 22) (d := some 44) (v := undef) rfl (by rfl) (by kernel_rfl) (by kernel_rfl) (by kernel_rfl) (fun _ _ _ h => h) (Or.inr ⟨by kernel_rfl, rfl⟩) (by assumption) ?_
     try simp only [Act.put, zp1, zp2, zp3]
     refine take_on (i := 23) (d := some 45) (v := undef) rfl (by rfl) (by kernel_rfl) (by kernel_rfl) (by kernel_rfl) (fun _ _ _ h => h) (Or.inr ⟨by kernel_rfl, rfl⟩) (by assumption) ?_
     try simp only [Act.put, zp1, zp2, zp3]
     refine take_y 24 46 (v := ?_) rfl ?_ ?_; rotate_left; focus (intro w hSw; (try dsimp only at hSw); go_simp; (try rw [if_neg (by omega)]); (try with_reducible rfl))
     try simp only [Act.put, zp1, zp2, zp3]
     refine wpAnyH_done (by kernel_rfl) ?_ _
     clear hHeld
     have hbelF : Below w.heap.size w w2 := by (exact grownA)
     clear hb2
     go_wp2
     go_returns
     exact ⟨by rw [HF.out]; rfl, hbelF⟩
    ·
     cases d2
     ·
      have HF := Lib.hid (callsB_at (O := O) (E := E) (M := M) HC.out (fun h => by have h1 := HD2.out; have h2 := h.2.1; rw [HLE.out] at h2; simp [lnB] at h1; simp only at h2; omega))
      refine wp_region_held_drew (S := (fun w' => w'.cell? ⟨wo.heap.size, 0, none⟩ = some (.int .i64 x) ∧ w'.cell? ⟨wo.heap.size, 1, none⟩ = some (.int .i64 y) ∧ w'.cell? ⟨wo.heap.size, 2, none⟩ = some (.int .i64 m) ∧ w'.cell? ⟨w.heap.size, 0, none⟩ = some (.int .i64 O) ∧ w'.cell? ⟨w.heap.size, 1, none⟩ = some (.int .i64 E) ∧ w'.cell? ⟨w.heap.size, 2, none⟩ = some (.int .i64 M))) (by kernel_rfl) (by (try dsimp only); (exact keepA)) (fun hHeld => ?_)
      refine take_y 0 22 (v := ?_) rfl ?_ ?_; rotate_left; focus (intro w hSw; (try dsimp only at hSw); go_simp; (try rw [if_neg (by omega)]); (try with_reducible rfl))
      try simp only [Act.put, zp1, zp2, zp3]
      refine take_y 1 23 (v := ?_) rfl ?_ ?_; rotate_left; focus (intro w hSw; (try dsimp only at hSw); go_simp; (try rw [if_neg (by omega)]); (try with_reducible rfl))
      try simp only [Act.put, zp1, zp2, zp3]
      refine take_y 2 24 (v := ?_) rfl ?_ ?_; rotate_left; focus (intro w hSw; (try dsimp only at hSw); go_simp; (try rw [if_neg (by omega)]); (try with_reducible rfl))
      try simp only [Act.put, zp1, zp2, zp3]
      refine wpAnyH_ready (rs := [3]) (by kernel_rfl) (by simp) ?_
      refine AllReadyH.cons rfl (fun K hK => ?_) AllReadyH.nil
      go_simp
      refine (K0.out _).mono ?_
      rintro e w2 ⟨rfl, hb2⟩
      refine hK.out _ _ againA (fun hHeld2 => ?_); clear hHeld hK K; have hHeld := hHeld2; clear hHeld2; (try simp only [Act.put, zp1, zp2, zp3])
      refine take_y 4 26 (v := ?_) rfl ?_ ?_; rotate_left; focus (intro w hSw; (try dsimp only at hSw); go_simp; (try rw [if_neg (by omega)]); (try with_reducible rfl))
      try simp only [Act.put, zp1, zp2, zp3]
      refine wpAnyH_ready (rs := [5]) (by kernel_rfl) (by simp) ?_
      refine AllReadyH.cons rfl (fun K hK => ?_) AllReadyH.nil
      go_simp
      refine (K1.out _).mono ?_
      rintro e w3 ⟨rfl, rfl⟩
      refine hK.out _ _ againA (fun hHeld2 => ?_); clear hHeld hK K; have hHeld := hHeld2; clear hHeld2; (try simp only [Act.put, zp1, zp2, zp3])
      refine take_y 6 28 (v := ?_) rfl ?_ ?_; rotate_left; focus (intro w hSw; (try dsimp only at hSw); go_simp; (try rw [if_neg (by omega)]); (try with_reducible rfl))
      try simp only [Act.put, zp1, zp2, zp3]
      refine take_y 7 29 (v := ?_) rfl ?_ ?_; rotate_left; focus (intro w hSw; (try dsimp only at hSw); go_simp; (try rw [if_neg (by omega)]); (try with_reducible rfl))
      try simp only [Act.put, zp1, zp2, zp3]
      refine take_y 8 30 (v := ?_) rfl ?_ ?_; rotate_left; focus (intro w hSw; (try dsimp only at hSw); go_simp; (try rw [if_neg (by omega)]); (try with_reducible rfl))
      try simp only [Act.put, zp1, zp2, zp3]
      refine take_y 9 31 (v := ?_) rfl ?_ ?_; rotate_left; focus (intro w hSw; (try dsimp only at hSw); go_simp; (try rw [if_neg (by omega)]); (try with_reducible rfl))
      try simp only [Act.put, zp1, zp2, zp3]
      refine take_y 10 32 (v := ?_) rfl ?_ ?_; rotate_left; focus (intro w hSw; (try dsimp only at hSw); go_simp; (try rw [if_neg (by omega)]); (try with_reducible rfl))
      try simp only [Act.put, zp1, zp2, zp3]
      refine wpAnyH_ready (rs := [11]) (by kernel_rfl) (by simp) ?_
      refine AllReadyH.cons rfl (fun K hK => ?_) AllReadyH.nil
      go_simp
      refine (K0.out _).mono ?_
      rintro e w4 ⟨rfl, hb4⟩
      refine hK.out _ _ againA (fun hHeld2 => ?_); clear hHeld hK K; have hHeld := hHeld2; clear hHeld2; (try simp only [Act.put, zp1, zp2, zp3])
      refine take_y 12 34 (v := ?_) rfl ?_ ?_; rotate_left; focus (intro w hSw; (try dsimp only at hSw); go_simp; (try rw [if_neg (by omega)]); (try with_reducible rfl))
      try simp only [Act.put, zp1, zp2, zp3]
      refine wpAnyH_ready (rs := [13]) (by kernel_rfl) (by simp) ?_
      refine AllReadyH.cons rfl (fun K hK => ?_) AllReadyH.nil
      go_simp
      refine (K2.out _).mono ?_
      rintro e w5 ⟨rfl, rfl⟩
      refine hK.out _ _ againA (fun hHeld2 => ?_); clear hHeld hK K; have hHeld := hHeld2; clear hHeld2; (try simp only [Act.put, zp1, zp2, zp3])
      refine take_y 14 36 (v := ?_) rfl ?_ ?_; rotate_left; focus (intro w hSw; (try dsimp only at hSw); go_simp; (try rw [if_neg (by omega)]); (try with_reducible rfl))
      try simp only [Act.put, zp1, zp2, zp3]
      refine take_y 15 37 (v := ?_) rfl ?_ ?_; rotate_left; focus (intro w hSw; (try dsimp only at hSw); go_simp; (try rw [if_neg (by omega)]); (try with_reducible rfl))
      try simp only [Act.put, zp1, zp2, zp3]
      refine take_y 16 38 (v := ?_) rfl ?_ ?_; rotate_left; focus (intro w hSw; (try dsimp only at hSw); go_simp; (try rw [if_neg (by omega)]); (try with_reducible rfl))
      try simp only [Act.put, zp1, zp2, zp3]
      refine take_on (i := 17) (d := some 39) (v := undef) rfl (by rfl) (by kernel_rfl) (by kernel_rfl) (by kernel_rfl) (fun _ _ _ h => h) (Or.inr ⟨by kernel_rfl, rfl⟩) (by assumption) ?_
      try simp only [Act.put, zp1, zp2, zp3]
      refine take_on (i := 18) (d := some 40) (v := undef) rfl (by rfl) (by kernel_rfl) (by kernel_rfl) (by kernel_rfl) (fun _ _ _ h => h) (Or.inr ⟨by kernel_rfl, rfl⟩) (by assumption) ?_
      try simp only [Act.put, zp1, zp2, zp3]
      refine take_on (i := 19) (d := some 41) (v := undef) rfl (by rfl) (by kernel_rfl) (by kernel_rfl) (by kernel_rfl) (fun _ _ _ h => h) (Or.inr ⟨by kernel_rfl, rfl⟩) (by assumption) ?_
      try simp only [Act.put, zp1, zp2, zp3]
      refine take_on (i := 20) (d := some 42) (v := undef) rfl (by rfl) (by kernel_rfl) (by kernel_rfl) (by kernel_rfl) (fun _ _ _ h => h) (Or.inr ⟨by kernel_rfl, rfl⟩) (by assumption) ?_
      try simp only [Act.put, zp1, zp2, zp3]
      refine take_on (i := 21) (d := some 43) (v := undef) rfl (by rfl) (by kernel_rfl) (by kernel_rfl) (by kernel_rfl) (fun _ _ _ h => h) (Or.inr ⟨by kernel_rfl, rfl⟩) (by assumption) ?_
      try simp only [Act.put, zp1, zp2, zp3]
      refine take_on (i := 22) (d := some 44) (v := undef) rfl (by rfl) (by kernel_rfl) (by kernel_rfl) (by kernel_rfl) (fun _ _ _ h => h) (Or.inr ⟨by kernel_rfl, rfl⟩) (by assumption) ?_
      try simp only [Act.put, zp1, zp2, zp3]
      refine take_on (i := 23) (d := some 45) (v := undef) rfl (by rfl) (by kernel_rfl) (by kernel_rfl) (by kernel_rfl) (fun _ _ _ h => h) (Or.inr ⟨by kernel_rfl, rfl⟩) (by assumption) ?_
      try simp only [Act.put, zp1, zp2, zp3]
      refine take_y 24 46 (v := ?_) rfl ?_ ?_; rotate_left; focus (intro w hSw; (try dsimp only at hSw); go_simp; (try rw [if_neg (by omega)]); (try with_reducible rfl))
      try simp only [Act.put, zp1, zp2, zp3]
      refine wpAnyH_done (by kernel_rfl) ?_ _
      clear hHeld
      have hbelF2 : Below w.heap.size w w2 := by (exact grownA)
      clear hb2
      have hbelF : Below w.heap.size w w4 := by (exact grownA)
      clear hb4
      go_wp2
      go_returns
      exact ⟨by rw [HF.out]; rfl, hbelF⟩
     ·
      cases d3
      ·
       have HF := Lib.hid (callsB_at (O := O) (E := E) (M := M) HC.out (fun h => by have h1 := HD3.out; have h2 := h.2.2; simp [lnB] at h1; simp only at h2; omega))
       refine wp_region_held_drew (S := (fun w' => w'.cell? ⟨wo.heap.size, 0, none⟩ = some (.int .i64 x) ∧ w'.cell? ⟨wo.heap.size, 1, none⟩ = some (.int .i64 y) ∧ w'.cell? ⟨wo.heap.size, 2, none⟩ = some (.int .i64 m) ∧ w'.cell? ⟨w.heap.size, 0, none⟩ = some (.int .i64 O) ∧ w'.cell? ⟨w.heap.size, 1, none⟩ = some (.int .i64 E) ∧ w'.cell? ⟨w.heap.size, 2, none⟩ = some (.int .i64 M))) (by kernel_rfl) (by (try dsimp only); (exact keepA)) (fun hHeld => ?_)
       refine take_y 0 22 (v := ?_) rfl ?_ ?_; rotate_left; focus (intro w hSw; (try dsimp only at hSw); go_simp; (try rw [if_neg (by omega)]); (try with_reducible rfl))
       try simp only [Act.put, zp1, zp2, zp3]
       refine take_y 1 23 (v := ?_) rfl ?_ ?_; rotate_left; focus (intro w hSw; (try dsimp only at hSw); go_simp; (try rw [if_neg (by omega)]); (try with_reducible rfl))
       try simp only [Act.put, zp1, zp2, zp3]
       refine take_y 2 24 (v := ?_) rfl ?_ ?_; rotate_left; focus (intro w hSw; (try dsimp only at hSw); go_simp; (try rw [if_neg (by omega)]); (try with_reducible rfl))
       try simp only [Act.put, zp1, zp2, zp3]
       refine wpAnyH_ready (rs := [3]) (by kernel_rfl) (by simp) ?_
       refine AllReadyH.cons rfl (fun K hK => ?_) AllReadyH.nil
       go_simp
       refine (K0.out _).mono ?_
       rintro e w2 ⟨rfl, hb2⟩
       refine hK.out _ _ againA (fun hHeld2 => ?_); clear hHeld hK K; have hHeld := hHeld2; clear hHeld2; (try simp only [Act.put, zp1, zp2, zp3])
       refine take_y 4 26 (v := ?_) rfl ?_ ?_; rotate_left; focus (intro w hSw; (try dsimp only at hSw); go_simp; (try rw [if_neg (by omega)]); (try with_reducible rfl))
       try simp only [Act.put, zp1, zp2, zp3]
       refine wpAnyH_ready (rs := [5]) (by kernel_rfl) (by simp) ?_
       refine AllReadyH.cons rfl (fun K hK => ?_) AllReadyH.nil
       go_simp
       refine (K1.out _).mono ?_
       rintro e w3 ⟨rfl, rfl⟩
       refine hK.out _ _ againA (fun hHeld2 => ?_); clear hHeld hK K; have hHeld := hHeld2; clear hHeld2; (try simp only [Act.put, zp1, zp2, zp3])
       refine take_y 6 28 (v := ?_) rfl ?_ ?_; rotate_left; focus (intro w hSw; (try dsimp only at hSw); go_simp; (try rw [if_neg (by omega)]); (try with_reducible rfl))
       try simp only [Act.put, zp1, zp2, zp3]
       refine take_y 7 29 (v := ?_) rfl ?_ ?_; rotate_left; focus (intro w hSw; (try dsimp only at hSw); go_simp; (try rw [if_neg (by omega)]); (try with_reducible rfl))
       try simp only [Act.put, zp1, zp2, zp3]
       refine take_y 8 30 (v := ?_) rfl ?_ ?_; rotate_left; focus (intro w hSw; (try dsimp only at hSw); go_simp; (try rw [if_neg (by omega)]); (try with_reducible rfl))
       try simp only [Act.put, zp1, zp2, zp3]
       refine take_y 9 31 (v := ?_) rfl ?_ ?_; rotate_left; focus (intro w hSw; (try dsimp only at hSw); go_simp; (try rw [if_neg (by omega)]); (try with_reducible rfl))
       try simp only [Act.put, zp1, zp2, zp3]
       refine take_y 10 32 (v := ?_) rfl ?_ ?_; rotate_left; focus (intro w hSw; (try dsimp only at hSw); go_simp; (try rw [if_neg (by omega)]); (try with_reducible rfl))
       try simp only [Act.put, zp1, zp2, zp3]
       refine wpAnyH_ready (rs := [11]) (by kernel_rfl) (by simp) ?_
       refine AllReadyH.cons rfl (fun K hK => ?_) AllReadyH.nil
       go_simp
       refine (K0.out _).mono ?_
       rintro e w4 ⟨rfl, hb4⟩
       refine hK.out _ _ againA (fun hHeld2 => ?_); clear hHeld hK K; have hHeld := hHeld2; clear hHeld2; (try simp only [Act.put, zp1, zp2, zp3])
       refine take_y 12 34 (v := ?_) rfl ?_ ?_; rotate_left; focus (intro w hSw; (try dsimp only at hSw); go_simp; (try rw [if_neg (by omega)]); (try with_reducible rfl))
       try simp only [Act.put, zp1, zp2, zp3]
       refine wpAnyH_ready (rs := [13]) (by kernel_rfl) (by simp) ?_
       refine AllReadyH.cons rfl (fun K hK => ?_) AllReadyH.nil
       go_simp
       refine (K2.out _).mono ?_
       rintro e w5 ⟨rfl, rfl⟩
       refine hK.out _ _ againA (fun hHeld2 => ?_); clear hHeld hK K; have hHeld := hHeld2; clear hHeld2; (try simp only [Act.put, zp1, zp2, zp3])
       refine take_y 14 36 (v := ?_) rfl ?_ ?_; rotate_left; focus (intro w hSw; (try dsimp only at hSw); go_simp; (try rw [if_neg (by omega)]); (try with_reducible rfl))
       try simp only [Act.put, zp1, zp2, zp3]
       refine take_y 15 37 (v := ?_) rfl ?_ ?_; rotate_left; focus (intro w hSw; (try dsimp only at hSw); go_simp; (try rw [if_neg (by omega)]); (try with_reducible rfl))
       try simp only [Act.put, zp1, zp2, zp3]
       refine take_y 16 38 (v := ?_) rfl ?_ ?_; rotate_left; focus (intro w hSw; (try dsimp only at hSw); go_simp; (try rw [if_neg (by omega)]); (try with_reducible rfl))
       try simp only [Act.put, zp1, zp2, zp3]
       refine take_y 17 39 (v := ?_) rfl ?_ ?_; rotate_left; focus (intro w hSw; (try dsimp only at hSw); go_simp; (try rw [if_neg (by omega)]); (try with_reducible rfl))
       try simp only [Act.put, zp1, zp2, zp3]
       refine take_y 18 40 (v := ?_) rfl ?_ ?_; rotate_left; focus (intro w hSw; (try dsimp only at hSw); go_simp; (try rw [if_neg (by omega)]); (try with_reducible rfl))
       try simp only [Act.put, zp1, zp2, zp3]
       refine take_y 19 41 (v := ?_) rfl ?_ ?_; rotate_left; focus (intro w hSw; (try dsimp only at hSw); go_simp; (try rw [if_neg (by omega)]); (try with_reducible rfl))
       try simp only [Act.put, zp1, zp2, zp3]
       refine take_y 20 42 (v := ?_) rfl ?_ ?_; rotate_left; focus (intro w hSw; (try dsimp only at hSw); go_simp; (try rw [if_neg (by omega)]); (try with_reducible rfl))
       try simp only [Act.put, zp1, zp2, zp3]
       refine take_y 21 43 (v := ?_) rfl ?_ ?_; rotate_left; focus (intro w hSw; (try dsimp only at hSw); go_simp; (try rw [if_neg (by omega)]); (try with_reducible rfl))
       try simp only [Act.put, zp1, zp2, zp3]
       refine wpAnyH_ready (rs := [22]) (by kernel_rfl) (by simp) ?_
       refine AllReadyH.cons rfl (fun K hK => ?_) AllReadyH.nil
       go_simp
       refine (K3.out _).mono ?_
       rintro e w6 ⟨rfl, rfl⟩
       refine hK.out _ _ againA (fun hHeld2 => ?_); clear hHeld hK K; have hHeld := hHeld2; clear hHeld2; (try simp only [Act.put, zp1, zp2, zp3])
       refine take_y 23 45 (v := ?_) rfl ?_ ?_; rotate_left; focus (intro w hSw; (try dsimp only at hSw); go_simp; (try rw [if_neg (by omega)]); (try with_reducible rfl))
       try simp only [Act.put, zp1, zp2, zp3]
       refine take_y 24 46 (v := ?_) rfl ?_ ?_; rotate_left; focus (intro w hSw; (try dsimp only at hSw); go_simp; (try rw [if_neg (by omega)]); (try with_reducible rfl))
       try simp only [Act.put, zp1, zp2, zp3]
       refine wpAnyH_done (by kernel_rfl) ?_ _
       clear hHeld
       have hbelF2 : Below w.heap.size w w2 := by (exact grownA)
       clear hb2
       have hbelF : Below w.heap.size w w4 := by (exact grownA)
       clear hb4
       go_wp2
       go_returns
       exact ⟨by rw [HF.out]; rfl, hbelF⟩
      ·
       have HAT : Hid (ClAt (O * E) M (x, y, m)) := by
        have h1 := HD1.out; have h2 := HD2.out; have h3 := HD3.out
        simp [lnB] at h1 h2 h3
        rw [← HLE.out] at h1 h2
        exact ⟨h1, h2, h3.1, h3.2⟩
       refine wp_region_held_drew (S := (fun w' => w'.cell? ⟨wo.heap.size, 0, none⟩ = some (.int .i64 x) ∧ w'.cell? ⟨wo.heap.size, 1, none⟩ = some (.int .i64 y) ∧ w'.cell? ⟨wo.heap.size, 2, none⟩ = some (.int .i64 m) ∧ w'.cell? ⟨w.heap.size, 0, none⟩ = some (.int .i64 O) ∧ w'.cell? ⟨w.heap.size, 1, none⟩ = some (.int .i64 E) ∧ w'.cell? ⟨w.heap.size, 2, none⟩ = some (.int .i64 M))) (by kernel_rfl) (by (try dsimp only); (exact keepA)) (fun hHeld => ?_)
       refine take_y 0 22 (v := ?_) rfl ?_ ?_; rotate_left; focus (intro w hSw; (try dsimp only at hSw); go_simp; (try rw [if_neg (by omega)]); (try with_reducible rfl))
       try simp only [Act.put, zp1, zp2, zp3]
       refine take_y 1 23 (v := ?_) rfl ?_ ?_; rotate_left; focus (intro w hSw; (try dsimp only at hSw); go_simp; (try rw [if_neg (by omega)]); (try with_reducible rfl))
       try simp only [Act.put, zp1, zp2, zp3]
       refine take_y 2 24 (v := ?_) rfl ?_ ?_; rotate_left; focus (intro w hSw; (try dsimp only at hSw); go_simp; (try rw [if_neg (by omega)]); (try with_reducible rfl))
       try simp only [Act.put, zp1, zp2, zp3]
       refine wpAnyH_ready (rs := [3]) (by kernel_rfl) (by simp) ?_
       refine AllReadyH.cons rfl (fun K hK => ?_) AllReadyH.nil
       go_simp
       refine (K0.out _).mono ?_
       rintro e w2 ⟨rfl, hb2⟩
       refine hK.out _ _ againA (fun hHeld2 => ?_); clear hHeld hK K; have hHeld := hHeld2; clear hHeld2; (try simp only [Act.put, zp1, zp2, zp3])
       refine take_y 4 26 (v := ?_) rfl ?_ ?_; rotate_left; focus (intro w hSw; (try dsimp only at hSw); go_simp; (try rw [if_neg (by omega)]); (try with_reducible rfl))
       try simp only [Act.put, zp1, zp2, zp3]
       refine wpAnyH_ready (rs := [5]) (by kernel_rfl) (by simp) ?_
       refine AllReadyH.cons rfl (fun K hK => ?_) AllReadyH.nil
       go_simp
       refine (K1.out _).mono ?_
       rintro e w3 ⟨rfl, rfl⟩
       refine hK.out _ _ againA (fun hHeld2 => ?_); clear hHeld hK K; have hHeld := hHeld2; clear hHeld2; (try simp only [Act.put, zp1, zp2, zp3])
       refine take_y 6 28 (v := ?_) rfl ?_ ?_; rotate_left; focus (intro w hSw; (try dsimp only at hSw); go_simp; (try rw [if_neg (by omega)]); (try with_reducible rfl))
       try simp only [Act.put, zp1, zp2, zp3]
       refine take_y 7 29 (v := ?_) rfl ?_ ?_; rotate_left; focus (intro w hSw; (try dsimp only at hSw); go_simp; (try rw [if_neg (by omega)]); (try with_reducible rfl))
       try simp only [Act.put, zp1, zp2, zp3]
       refine take_y 8 30 (v := ?_) rfl ?_ ?_; rotate_left; focus (intro w hSw; (try dsimp only at hSw); go_simp; (try rw [if_neg (by omega)]); (try with_reducible rfl))
       try simp only [Act.put, zp1, zp2, zp3]
       refine take_y 9 31 (v := ?_) rfl ?_ ?_; rotate_left; focus (intro w hSw; (try dsimp only at hSw); go_simp; (try rw [if_neg (by omega)]); (try with_reducible rfl))
       try simp only [Act.put, zp1, zp2, zp3]
       refine take_y 10 32 (v := ?_) rfl ?_ ?_; rotate_left; focus (intro w hSw; (try dsimp only at hSw); go_simp; (try rw [if_neg (by omega)]); (try with_reducible rfl))
       try simp only [Act.put, zp1, zp2, zp3]
       refine wpAnyH_ready (rs := [11]) (by kernel_rfl) (by simp) ?_
       refine AllReadyH.cons rfl (fun K hK => ?_) AllReadyH.nil
       go_simp
       refine (K0.out _).mono ?_
       rintro e w4 ⟨rfl, hb4⟩
       refine hK.out _ _ againA (fun hHeld2 => ?_); clear hHeld hK K; have hHeld := hHeld2; clear hHeld2; (try simp only [Act.put, zp1, zp2, zp3])
       refine take_y 12 34 (v := ?_) rfl ?_ ?_; rotate_left; focus (intro w hSw; (try dsimp only at hSw); go_simp; (try rw [if_neg (by omega)]); (try with_reducible rfl))
       try simp only [Act.put, zp1, zp2, zp3]
       refine wpAnyH_ready (rs := [13]) (by kernel_rfl) (by simp) ?_
       refine AllReadyH.cons rfl (fun K hK => ?_) AllReadyH.nil
       go_simp
       refine (K2.out _).mono ?_
       rintro e w5 ⟨rfl, rfl⟩
       refine hK.out _ _ againA (fun hHeld2 => ?_); clear hHeld hK K; have hHeld := hHeld2; clear hHeld2; (try simp only [Act.put, zp1, zp2, zp3])
       refine take_y 14 36 (v := ?_) rfl ?_ ?_; rotate_left; focus (intro w hSw; (try dsimp only at hSw); go_simp; (try rw [if_neg (by omega)]); (try with_reducible rfl))
       try simp only [Act.put, zp1, zp2, zp3]
       refine take_y 15 37 (v := ?_) rfl ?_ ?_; rotate_left; focus (intro w hSw; (try dsimp only at hSw); go_simp; (try rw [if_neg (by omega)]); (try with_reducible rfl))
       try simp only [Act.put, zp1, zp2, zp3]
       refine take_y 16 38 (v := ?_) rfl ?_ ?_; rotate_left; focus (intro w hSw; (try dsimp only at hSw); go_simp; (try rw [if_neg (by omega)]); (try with_reducible rfl))
       try simp only [Act.put, zp1, zp2, zp3]
       refine take_y 17 39 (v := ?_) rfl ?_ ?_; rotate_left; focus (intro w hSw; (try dsimp only at hSw); go_simp; (try rw [if_neg (by omega)]); (try with_reducible rfl))
       try simp only [Act.put, zp1, zp2, zp3]
       refine take_y 18 40 (v := ?_) rfl ?_ ?_; rotate_left; focus (intro w hSw; (try dsimp only at hSw); go_simp; (try rw [if_neg (by omega)]); (try with_reducible rfl))
       try simp only [Act.put, zp1, zp2, zp3]
       refine take_y 19 41 (v := ?_) rfl ?_ ?_; rotate_left; focus (intro w hSw; (try dsimp only at hSw); go_simp; (try rw [if_neg (by omega)]); (try with_reducible rfl))
       try simp only [Act.put, zp1, zp2, zp3]
       refine take_y 20 42 (v := ?_) rfl ?_ ?_; rotate_left; focus (intro w hSw; (try dsimp only at hSw); go_simp; (try rw [if_neg (by omega)]); (try with_reducible rfl))
       try simp only [Act.put, zp1, zp2, zp3]
       refine take_y 21 43 (v := ?_) rfl ?_ ?_; rotate_left; focus (intro w hSw; (try dsimp only at hSw); go_simp; (try rw [if_neg (by omega)]); (try with_reducible rfl))
       try simp only [Act.put, zp1, zp2, zp3]
       refine wpAnyH_ready (rs := [22]) (by kernel_rfl) (by simp) ?_
       refine AllReadyH.cons rfl (fun K hK => ?_) AllReadyH.nil
       go_simp
       refine (K3.out _).mono ?_
       rintro e w6 ⟨rfl, rfl⟩
       refine hK.out _ _ againA (fun hHeld2 => ?_); clear hHeld hK K; have hHeld := hHeld2; clear hHeld2; (try simp only [Act.put, zp1, zp2, zp3])
       refine take_y 23 45 (v := ?_) rfl ?_ ?_; rotate_left; focus (intro w hSw; (try dsimp only at hSw); go_simp; (try rw [if_neg (by omega)]); (try with_reducible rfl))
       try simp only [Act.put, zp1, zp2, zp3]
       refine take_y 24 46 (v := ?_) rfl ?_ ?_; rotate_left; focus (intro w hSw; (try dsimp only at hSw); go_simp; (try rw [if_neg (by omega)]); (try with_reducible rfl))
       try simp only [Act.put, zp1, zp2, zp3]
       refine wpAnyH_done (by kernel_rfl) ?_ _
       clear hHeld
       have hx0 : 0 ≤ x := HAT.out.1.1
       have hy0 : 0 ≤ y := HAT.out.2.1.1
       have hbF2 : Below w1.heap.size w1 w2 := (hbr.drew).trans (Below.mono hb2 (hbr.drew).size)
       have hbelF : Below w1.heap.size w1 w4 := hbF2.trans (Below.mono hb4 hbF2.size)
       have hC3 := hCb.drew.belowAll hb2
       have hC4 := hC3.belowAll hb4
       have hS3 := hSb.drew.belowAll hb2
       have hS4 := hS3.belowAll hb4
       have hz4 := hC4.lt
       have hzs4 := hS4.lt
       clear hb2 hb4 hC3 hS3 hCb hSb hbr t1 t2 t3 e1 e2 e3 hclt u1 u2 u3 hult hbel K0 K1 K2 K3
       obtain ⟨bc, hbc⟩ : ∃ bc, wo.heap.size = bc := ⟨_, rfl⟩
       rw [hbc] at hC4 hz4 ⊢
       have hzr : w1.heap.size ≤ bc := by omega
       go_wp2_with fail
       go_loopw [7] (fun i wi => ∃ j : Nat, j ≤ k ∧ i = .int .i64 j ∧ Hid (∀ i d, i < j → cs[i]? = some d → Apart E d (x, y, m)) ∧ Below w4.heap.size w4 wi) (fun i _ => k - (intOf i).toNat)
       case atStart => exact ⟨0, by omega, rfl, fun i d h => absurd h (by omega), Below.refl _ _⟩
       case round =>
        obtain ⟨j, hj, rfl, hap, hbi⟩ := hrel
        have hzi := hbi.size
        have hz3 := hbelF.size
        by_cases hjk : j < k
        ·
         obtain ⟨d, hd⟩ : ∃ d, cs[j]? = some d := ⟨_, List.getElem?_eq_getElem (by rw [HN.out]; omega)⟩
         obtain ⟨g1, g2, g3⟩ := ccells_at cs j d hd
         have hbz : b < w1.heap.size := by have := hbel1.size; omega
         have hcw : ∀ i, wr.cell? ⟨b, off + i, none⟩ = w.cell? ⟨b, off + i, none⟩ := fun i => ((hbi.cell (p := ⟨b, off + i, none⟩) (by show b < _; omega)).trans (hbelF.cell (p := ⟨b, off + i, none⟩) hbz)).trans (hbel1.cell (p := ⟨b, off + i, none⟩) hb)
         have c1 : wr.cell? ⟨b, off + j * 3, none⟩ = some (.int .i64 d.1) := by rw [hcw, HC1.out _ (by omega), g1]
         have c2 : wr.cell? ⟨b, off + j * 3 + 1, none⟩ = some (.int .i64 d.2.1) := by rw [Nat.add_assoc, hcw, HC1.out _ (by omega), g2]
         have c3 : wr.cell? ⟨b, off + j * 3 + 2, none⟩ = some (.int .i64 d.2.2) := by rw [Nat.add_assoc, hcw, HC1.out _ (by omega), g3]
         have HDD := Lib.hid hd
         obtain ⟨t1, t2, t3, e1, e2, e3, hclt⟩ := (hC4.below hbi hz4).three
         obtain ⟨s1, s2, s3, f1, f2, f3, hslt⟩ := (hS4.below hbi hzs4).three
         obtain ⟨x', y', m'⟩ := d
         simp only at c1 c2 c3
         have hAD := hok.out.1 j _ hjk hd
         have hx0' : 0 ≤ x' := hAD.1.1
         have hy0' : 0 ≤ y' := hAD.2.1.1
         obtain ⟨hw1, d1⟩ := quo_wraps HSH.out hx0' hAD.1.2
         obtain ⟨hw2, d3⟩ := quo_wraps HSH.out hy0' hAD.2.1.2
         obtain ⟨hw3, d2⟩ := quo_wraps HSH.out hx0 HAT.out.1.2
         obtain ⟨hw4, d4⟩ := quo_wraps HSH.out hy0 HAT.out.2.1.2
         clear hd g1 g2 g3 hcw hAD
         have hbelI : Below w.heap.size w wr := by (exact grownA)
         have hbelW := hbelI
         have hzw := hbelI.size
         have hbelJ : Below w1.heap.size w1 wr := hbelF.trans (Below.mono hbi hz3)
         by_cases hxx : x' = x
         ·
          have HF := Lib.hid (callsB_apart (O := O) (E := E) (M := M) hjk HDD.out HC.out (fun h => h.1 hxx))
          subst hxx
          have hq : ((x' : Int) == x') = true := by simp
          go_wp2_with fail
          go_quiet (fail)
          go_wp2
          go_returns
          exact ⟨by rw [HF.out]; rfl, below_drewN (hbelW.alloc (by omega) _) _⟩
         ·
          have hq : ((x : Int) == x') = false := by simp; exact fun e => hxx e.symm
          have hqd : decide (x = x') = false := by simp; exact fun e => hxx e.symm
          by_cases hyy : y' = y
          ·
           have HF := Lib.hid (callsB_apart (O := O) (E := E) (M := M) hjk HDD.out HC.out (fun h => h.2.1 hyy))
           subst hyy
           have hq2 : ((y' : Int) == y') = true := by simp
           go_wp2_with fail
           go_quiet (fail)
           go_wp2
           go_returns
           exact ⟨by rw [HF.out]; rfl, below_drewN (hbelW.alloc (by omega) _) _⟩
          ·
           have hq2 : ((y : Int) == y') = false := by simp; exact fun e => hyy e.symm
           have hq2d : decide (y = y') = false := by simp; exact fun e => hyy e.symm
           have hE0 : (E == 0) = false := by simp; omega
           have hE1 : ¬ E = 0 := by omega
           by_cases hmm' : m' = m
           ·
            have hq3 : ((m : Int) == m') = true := by simpa using hmm'.symm
            have hq3d : decide (m = m') = true := by simpa using hmm'.symm
            by_cases hp1 : x' / E = x / E
            ·
             have hq4 : (x / E == x' / E) = true := by simpa using hp1.symm
             have hr4a : decide (x / E = x' / E) = true := by simpa using hp1.symm
             have hr4b : (Int.tdiv x E == Int.tdiv x' E) = true := by rw [d1, d2]; exact hq4
             have hr4c : decide (Int.tdiv x E = Int.tdiv x' E) = true := by rw [d1, d2]; exact hr4a
             have HF := Lib.hid (callsB_apart (O := O) (E := E) (M := M) hjk HDD.out HC.out (fun h => ((apart_iff _ _ _).1 h).2.2 ⟨hmm', .inl hp1⟩))
             go_wp2_with fail
             go_quiet (fail)
             go_wp2
             go_returns
             exact ⟨by rw [HF.out]; rfl, below_drewN (hbelW.alloc (by omega) _) _⟩
            ·
             have hp1' : ¬ x / E = x' / E := fun e => hp1 e.symm
             have hq4 : (x / E == x' / E) = false := by simpa using hp1'
             have hr4a : decide (x / E = x' / E) = false := by simpa using hp1'
             have hr4b : (Int.tdiv x E == Int.tdiv x' E) = false := by rw [d1, d2]; exact hq4
             have hr4c : decide (Int.tdiv x E = Int.tdiv x' E) = false := by rw [d1, d2]; exact hr4a
             by_cases hp2 : y' / E = y / E
             ·
              have hq5 : (y / E == y' / E) = true := by simpa using hp2.symm
              have hr5a : decide (y / E = y' / E) = true := by simpa using hp2.symm
              have hr5b : (Int.tdiv y E == Int.tdiv y' E) = true := by rw [d3, d4]; exact hq5
              have hr5c : decide (Int.tdiv y E = Int.tdiv y' E) = true := by rw [d3, d4]; exact hr5a
              have HF := Lib.hid (callsB_apart (O := O) (E := E) (M := M) hjk HDD.out HC.out (fun h => ((apart_iff _ _ _).1 h).2.2 ⟨hmm', .inr hp2⟩))
              go_wp2_with fail
              go_quiet (fail)
              go_wp2
              go_returns
              exact ⟨by rw [HF.out]; rfl, below_drewN (hbelW.alloc (by omega) _) _⟩
             ·
              have hp2' : ¬ y / E = y' / E := fun e => hp2 e.symm
              have hq5 : (y / E == y' / E) = false := by simpa using hp2'
              have hr6a : decide (y / E = y' / E) = false := by simpa using hp2'
              have hr6b : (Int.tdiv y E == Int.tdiv y' E) = false := by rw [d3, d4]; exact hq5
              have hr6c : decide (Int.tdiv y E = Int.tdiv y' E) = false := by rw [d3, d4]; exact hr6a
              have HST : Hid (∀ i d, i < j + 1 → cs[i]? = some d → Apart E d (x, y, m)) := by
               intro i d hi hd
               by_cases e : i = j
               ·
                subst e; rw [HDD.out] at hd; cases hd
                exact (apart_iff _ _ _).2 ⟨hxx, hyy, fun h => by rcases h.2 with h | h; exact hp1 h; exact hp2 h⟩
               ·
                exact hap.out i d (by omega) hd
              go_wp2_with fail
              go_quiet (fail)
              go_wp2
              go_roundw
              case rel => exact ⟨j + 1, by omega, by go_num, HST.out, by (exact grownA)⟩
              case measure => simp [intOf]; omega
           ·
            have hmm2 : ¬ m = m' := fun e => hmm' e.symm
            have hq3 : ((m : Int) == m') = false := by simpa using hmm2
            have hq3d : decide (m = m') = false := by simpa using hmm2
            have HST : Hid (∀ i d, i < j + 1 → cs[i]? = some d → Apart E d (x, y, m)) := by
             intro i d hi hd
             by_cases e : i = j
             ·
              subst e; rw [HDD.out] at hd; cases hd
              exact (apart_iff _ _ _).2 ⟨hxx, hyy, fun h => hmm' h.1⟩
             ·
              exact hap.out i d (by omega) hd
            go_wp2_with fail
            go_quiet (fail)
            go_wp2
            go_roundw
            case rel => exact ⟨j + 1, by omega, by go_num, HST.out, by (exact grownA)⟩
            case measure => simp [intOf]; omega
        ·
         obtain rfl : j = k := by omega
         have hbelI : Below w1.heap.size w1 wr := hbelF.trans (Below.mono hbi hz3)
         have HST := Lib.hid (hok.out.step HC.out HAT.out hap.out)
         go_wp2_with fail
         go_roundw
         case rel => exact ⟨j + 1, by omega, by go_num, HST.out, hbelI⟩
         case measure => simp [intOf]; omega
   ·
    obtain rfl : k = n := by omega
    have HF := Lib.hid ((callsB_iff _ _ _ _).2 (ClTo.all HSH.out (by rw [HN.out]; exact hok.out)))
    have hbelE : Below w.heap.size w wo := by (exact grownA)
    go_wp2
    go_returns
    exact ⟨by rw [HF.out]; rfl, hbelE⟩

end Go.Proofs.Ytedadhoneebfnaa
