/- Contract of the reference's DeedText. -/
import Derived.Test.YtedadhoneebfnaaGreatDoorJ1
import Derived.Deep.DeepCutAuto
set_option linter.unusedSimpArgs false
set_option linter.unusedVariables false
namespace Go.Proofs.YtedadhoneebfnaaGreatDoor
open Go.RowKit

set_option maxRecDepth 100000 in
set_option maxHeartbeats 2000000 in
theorem sDeedText_0 (n : Nat) (s : ByteArray) (w : World) (hs : s.size ≤ maxLen) (hn : n ≤ 99) :
  Calls Tryz.prog 91 #[.agg #[.int .i64 0, .int .i64 n, .string s]] w fun e w' => e = .returned (.string (dtxt 0 n s)) ∧ Below w.heap.size w w' := by
 have hjn : (⟨#[99, 97, 108, 108]⟩ ++ ⟨#[32]⟩ : ByteArray) = ⟨#[99, 97, 108, 108, 32]⟩ := rfl
 have HJN := Lib.hid hjn
 clear hjn
 have HN : Hid (numD s = false → dtxt 0 n s = ByteArray.empty) := by
  unfold Hid; intro h; rw [dtxt_in hn, if_neg (by omega), if_pos h]
 have HY : Hid (numD s = true → dtxt 0 n s = ⟨#[99, 97, 108, 108, 32]⟩ ++ two n ++ ⟨#[32]⟩ ++ s) := by
  unfold Hid; intro h; rw [dtxt_in hn, if_neg (by omega), if_neg (by rw [h]; simp), if_pos rfl]
 have ht2 : (two n).size ≤ 2 := two_size n
 have KN : Hid (∀ W : World, Calls Tryz.prog 81 #[.int .i64 n] W fun e w' => e = .returned (.string (two n)) ∧ Below W.heap.size W w') := fun W => l1Number_any n W hn
 have hn0 : (0 : Int) ≤ n := by omega
 have hn9 : (n : Int) ≤ 99 := by omega
 have hs' := hs
 unfold maxLen at hs
 have hbel : Below w.heap.size w (w.alloc (.cells #[.int .i64 0, .int .i64 (n : Nat), .string s] 55)) := by (exact grownA)
 have hB := Blk.new (w := w) (cs := #[.int .i64 0, .int .i64 (n : Nat), .string s]) (T := 55) rfl
 obtain ⟨t1, t2, t3, _, _, _, tlt⟩ := hB.three
 go_enter Tryz.func91, Tryz.ntmps91

 go_wp2_with fail
 refine (sIn_any _ _ _ _).mono ?_
 rintro e w1 ⟨rfl, rfl⟩
 go_wp2_with fail
 refine (sIn_any _ _ _ _).mono ?_
 rintro e w1 ⟨rfl, rfl⟩
 go_upto_region 3 with fail
 go_cut [3] (fun t3 wc => t3 = .string (⟨#[99, 97, 108, 108]⟩ ++ ⟨#[32]⟩ ++ two n) ∧ Below w.heap.size w wc ∧ Blk wc w.heap.size #[.int .i64 0, .int .i64 (n : Nat), .string s] 55)
 case first =>
  go_wp2_with fail
  refine wp_region_held_drew (S := fun w' => w'.cell? ⟨w.heap.size, 0, none⟩ = some (.int .i64 0) ∧ w'.cell? ⟨w.heap.size, 1, none⟩ = some (.int .i64 (n : Nat))) (by kernel_rfl) (by (try dsimp only); (exact keepA)) (fun hHeld => ?_)
  refine take_y 1 15 (v := ?_) rfl ?_ ?_; rotate_left; focus (intro w hSw; (try dsimp only at hSw); go_simp; (try rw [if_neg (by omega)]); (try with_reducible rfl))
  try simp only [Act.put, zp1, zp2, zp3]
  refine take_y 2 16 (v := ?_) rfl ?_ ?_; rotate_left; focus (intro w hSw; (try dsimp only at hSw); go_simp; (try rw [if_neg (by omega)]); (try with_reducible rfl))
  try simp only [Act.put, zp1, zp2, zp3]
  refine take_y 6 20 (v := ?_) rfl ?_ ?_; rotate_left; focus (intro w hSw; (try dsimp only at hSw); go_simp; (try rw [if_neg (by omega)]); (try with_reducible rfl))
  try simp only [Act.put, zp1, zp2, zp3]
  refine take_y 7 21 (v := ?_) rfl ?_ ?_; rotate_left; focus (intro w hSw; (try dsimp only at hSw); go_simp; (try rw [if_neg (by omega)]); (try with_reducible rfl))
  try simp only [Act.put, zp1, zp2, zp3]
  refine wpAnyH_ready (rs := [0, 8]) (by kernel_rfl) (by simp) ?_
  refine AllReadyH.cons rfl (fun K hK => ?_) (AllReadyH.cons rfl (fun K hK => ?_) AllReadyH.nil)
  ·
   go_simp
   refine hK.out _ _ againA (fun hHeld2 => ?_); clear hHeld hK K; have hHeld := hHeld2; clear hHeld2; (try simp only [Act.put, zp1, zp2, zp3])
   have hbel1 : Below w.heap.size w ((w.alloc (.cells #[.int .i64 0, .int .i64 (n : Nat), .string s] 55)).alloc (.cells #[.string ⟨#[99, 97, 108, 108]⟩, .string ⟨#[100, 114, 111, 112]⟩, .string ⟨#[110, 117, 109, 98, 101, 114]⟩] 9)) := by (exact grownA)
   have hBn := hB.alloc (.cells #[.string ⟨#[99, 97, 108, 108]⟩, .string ⟨#[100, 114, 111, 112]⟩, .string ⟨#[110, 117, 109, 98, 101, 114]⟩] 9)
   have hcell : ((w.alloc (.cells #[.int .i64 0, .int .i64 (n : Nat), .string s] 55)).alloc (.cells #[.string ⟨#[99, 97, 108, 108]⟩, .string ⟨#[100, 114, 111, 112]⟩, .string ⟨#[110, 117, 109, 98, 101, 114]⟩] 9)).drew.cell? ⟨w.heap.size + 1, 0, none⟩ = some (.string ⟨#[99, 97, 108, 108]⟩) := by simp [go_sem]
   refine take_y 3 17 (v := ?_) rfl ?_ ?_; rotate_left; focus (intro w hSw; (try dsimp only at hSw); go_simp; (try rw [if_neg (by omega)]); (try with_reducible rfl))
   try simp only [Act.put, zp1, zp2, zp3]
   refine wpAnyH_ready (rs := [4, 8]) (by kernel_rfl) (by simp) ?_
   refine AllReadyH.cons rfl (fun K hK => ?_) (AllReadyH.cons rfl (fun K hK => ?_) AllReadyH.nil)
   ·
    go_simp
    refine hK.out _ _ againA (fun hHeld2 => ?_); clear hHeld hK K; have hHeld := hHeld2; clear hHeld2; (try simp only [Act.put, zp1, zp2, zp3])
    refine take_y 5 19 (v := ?_) rfl ?_ ?_; rotate_left; focus (intro w hSw; (try dsimp only at hSw); go_simp; (try rw [if_neg (by omega)]); (try with_reducible rfl))
    try simp only [Act.put, zp1, zp2, zp3]
    refine wpAnyH_ready (rs := [8]) (by kernel_rfl) (by simp) ?_
    refine AllReadyH.cons rfl (fun K hK => ?_) AllReadyH.nil
    go_simp
    refine (KN.out _).mono ?_
    rintro e w2 ⟨rfl, hb2⟩
    refine hK.out _ _ againA (fun hHeld2 => ?_); clear hHeld hK K; have hHeld := hHeld2; clear hHeld2; (try simp only [Act.put, zp1, zp2, zp3])
    have hbel2 : Below w.heap.size w w2 := (hbel1.drew).trans (Below.mono hb2 (hbel1.drew).size)
    have hB2 := hBn.drew.belowAll hb2
    refine take_y 9 23 (v := ?_) rfl ?_ ?_; rotate_left; focus (intro w hSw; (try dsimp only at hSw); go_simp; (try rw [if_neg (by omega)]); (try with_reducible rfl))
    try simp only [Act.put, zp1, zp2, zp3]
    refine take_y 10 3 (v := ?_) rfl ?_ ?_; rotate_left; focus (intro w hSw; (try dsimp only at hSw); go_simp; (try rw [if_neg (by omega)]); (try with_reducible rfl))
    try simp only [Act.put, zp1, zp2, zp3]
    refine wpAnyH_done (by kernel_rfl) ?_ _
    clear hHeld
    go_wp2_with fail
    go_meet
    exact ⟨rfl, hbel2, hB2⟩
   ·
    go_simp
    refine (KN.out _).mono ?_
    rintro e w2 ⟨rfl, hb2⟩
    refine hK.out _ _ againA (fun hHeld2 => ?_); clear hHeld hK K; have hHeld := hHeld2; clear hHeld2; (try simp only [Act.put, zp1, zp2, zp3])
    have hbel2 : Below w.heap.size w w2 := (hbel1.drew).trans (Below.mono hb2 (hbel1.drew).size)
    have hB2 := hBn.drew.belowAll hb2
    have hcell2 := keep_below hb2 hcell
    refine wpAnyH_ready (rs := [4]) (by kernel_rfl) (by simp) ?_
    refine AllReadyH.cons rfl (fun K hK => ?_) AllReadyH.nil
    go_simp
    refine hK.out _ _ againA (fun hHeld2 => ?_); clear hHeld hK K; have hHeld := hHeld2; clear hHeld2; (try simp only [Act.put, zp1, zp2, zp3])
    refine take_y 5 19 (v := ?_) rfl ?_ ?_; rotate_left; focus (intro w hSw; (try dsimp only at hSw); go_simp; (try rw [if_neg (by omega)]); (try with_reducible rfl))
    try simp only [Act.put, zp1, zp2, zp3]
    refine take_y 9 23 (v := ?_) rfl ?_ ?_; rotate_left; focus (intro w hSw; (try dsimp only at hSw); go_simp; (try rw [if_neg (by omega)]); (try with_reducible rfl))
    try simp only [Act.put, zp1, zp2, zp3]
    refine take_y 10 3 (v := ?_) rfl ?_ ?_; rotate_left; focus (intro w hSw; (try dsimp only at hSw); go_simp; (try rw [if_neg (by omega)]); (try with_reducible rfl))
    try simp only [Act.put, zp1, zp2, zp3]
    refine wpAnyH_done (by kernel_rfl) ?_ _
    clear hHeld
    go_wp2_with fail
    go_meet
    exact ⟨rfl, hbel2, hB2⟩
  ·
   go_simp
   refine (KN.out _).mono ?_
   rintro e w2 ⟨rfl, hb2⟩
   refine hK.out _ _ againA (fun hHeld2 => ?_); clear hHeld hK K; have hHeld := hHeld2; clear hHeld2; (try simp only [Act.put, zp1, zp2, zp3])
   have hbel2 : Below w.heap.size w w2 := (hbel.drew).trans (Below.mono hb2 (hbel.drew).size)
   have hB2 := hB.drew.belowAll hb2
   refine wpAnyH_ready (rs := [0]) (by kernel_rfl) (by simp) ?_
   refine AllReadyH.cons rfl (fun K hK => ?_) AllReadyH.nil
   go_simp
   refine hK.out _ _ againA (fun hHeld2 => ?_); clear hHeld hK K; have hHeld := hHeld2; clear hHeld2; (try simp only [Act.put, zp1, zp2, zp3])
   have hcell : (w2.alloc (.cells #[.string ⟨#[99, 97, 108, 108]⟩, .string ⟨#[100, 114, 111, 112]⟩, .string ⟨#[110, 117, 109, 98, 101, 114]⟩] 9)).cell? ⟨w2.heap.size, 0, none⟩ = some (.string ⟨#[99, 97, 108, 108]⟩) := by simp [go_sem]
   refine take_y 3 17 (v := ?_) rfl ?_ ?_; rotate_left; focus (intro w hSw; (try dsimp only at hSw); go_simp; (try rw [if_neg (by omega)]); (try with_reducible rfl))
   try simp only [Act.put, zp1, zp2, zp3]
   refine wpAnyH_ready (rs := [4]) (by kernel_rfl) (by simp) ?_
   refine AllReadyH.cons rfl (fun K hK => ?_) AllReadyH.nil
   go_simp
   refine hK.out _ _ againA (fun hHeld2 => ?_); clear hHeld hK K; have hHeld := hHeld2; clear hHeld2; (try simp only [Act.put, zp1, zp2, zp3])
   refine take_y 5 19 (v := ?_) rfl ?_ ?_; rotate_left; focus (intro w hSw; (try dsimp only at hSw); go_simp; (try rw [if_neg (by omega)]); (try with_reducible rfl))
   try simp only [Act.put, zp1, zp2, zp3]
   refine take_y 9 23 (v := ?_) rfl ?_ ?_; rotate_left; focus (intro w hSw; (try dsimp only at hSw); go_simp; (try rw [if_neg (by omega)]); (try with_reducible rfl))
   try simp only [Act.put, zp1, zp2, zp3]
   refine take_y 10 3 (v := ?_) rfl ?_ ?_; rotate_left; focus (intro w hSw; (try dsimp only at hSw); go_simp; (try rw [if_neg (by omega)]); (try with_reducible rfl))
   try simp only [Act.put, zp1, zp2, zp3]
   refine wpAnyH_done (by kernel_rfl) ?_ _
   clear hHeld
   go_wp2_with fail
   go_meet
   exact ⟨rfl, hbel2.alloc (by have := hbel2.size; omega) _, hB2.alloc _⟩
 case rest =>
  obtain ⟨rfl, hbelC, hBC⟩ := hcut
  clear t1 t2 t3 tlt hbel hB KN
  obtain ⟨t1, t2, t3, _, _, _, tlt⟩ := hBC.three
  have hw0 : (⟨#[99, 97, 108, 108]⟩ ++ ⟨#[32]⟩ ++ two n : ByteArray).size ≤ 9 := by simp only [ByteArray.size_append]; show 4 + 1 + (two n).size ≤ 9; omega
  obtain ⟨W0, hW0⟩ : ∃ W0 : ByteArray, W0 = ⟨#[99, 97, 108, 108]⟩ ++ ⟨#[32]⟩ ++ two n := ⟨_, rfl⟩
  have HW0 := Lib.hid hW0
  rw [← hW0] at hw0 ⊢
  clear hW0
  go_wp2_with fail
  refine (sDigitsOk_any s _ hs').mono ?_
  rintro e w1 ⟨rfl, rfl⟩
  obtain ⟨d, hd⟩ : ∃ d, digsB s = d := ⟨_, rfl⟩
  rw [hd]
  cases d
  ·
   have HV := Lib.hid (HN.out (by simp [numD, hd]))
   clear hd HN HY
   go_wp2
   go_returns
   exact ⟨by rw [HV.out]; rfl, hbelC⟩
  ·
   by_cases h1 : 1 ≤ s.size
   ·
    by_cases h3 : s.size ≤ 3
    ·
     have HV := Lib.hid (HY.out (by simp [numD, hd, h1, h3]))
     have hi1 : (1 : Int) ≤ s.size := by omega
     have hi3 : (s.size : Int) ≤ 3 := by omega
     clear hd HN HY h1
     go_wp2_with fail
     refine (sIn_any _ _ _ _).mono ?_
     rintro e w1 ⟨rfl, rfl⟩
     rw [show (decide ((1 : Int) ≤ (s.size : Int)) && decide ((s.size : Int) ≤ 3)) = true by simp; omega]
     go_wp2
     go_returns
     exact ⟨by rw [HV.out, HW0.out, HJN.out]; rfl, hbelC⟩
    ·
     have HV := Lib.hid (HN.out (by simp [numD]; intro _ h; omega))
     have hi3 : ¬ (s.size : Int) ≤ 3 := by omega
     clear hd HN HY h1 h3
     go_wp2_with fail
     refine (sIn_any _ _ _ _).mono ?_
     rintro e w1 ⟨rfl, rfl⟩
     rw [show (decide ((1 : Int) ≤ (s.size : Int)) && decide ((s.size : Int) ≤ 3)) = false by simp; omega]
     go_wp2
     go_returns
     exact ⟨by rw [HV.out]; rfl, hbelC⟩
   ·
    have HV := Lib.hid (HN.out (by simp [numD]; intro h; omega))
    have hi1 : ¬ (1 : Int) ≤ s.size := by omega
    clear hd HN HY h1
    go_wp2_with fail
    refine (sIn_any _ _ _ _).mono ?_
    rintro e w1 ⟨rfl, rfl⟩
    rw [show (decide ((1 : Int) ≤ (s.size : Int)) && decide ((s.size : Int) ≤ 3)) = false by simp; omega]
    go_wp2
    go_returns
    exact ⟨by rw [HV.out]; rfl, hbelC⟩

set_option maxRecDepth 100000 in
set_option maxHeartbeats 2000000 in
theorem sDeedText_1 (n : Nat) (s : ByteArray) (w : World) (hs : s.size ≤ maxLen) (hn : n ≤ 99) :
  Calls Tryz.prog 91 #[.agg #[.int .i64 1, .int .i64 n, .string s]] w fun e w' => e = .returned (.string (dtxt 1 n s)) ∧ Below w.heap.size w w' := by
 have hjn : (⟨#[100, 114, 111, 112]⟩ ++ ⟨#[32]⟩ : ByteArray) = ⟨#[100, 114, 111, 112, 32]⟩ := rfl
 have HJN := Lib.hid hjn
 clear hjn
 have H1 : Hid (s.size = 0 → dtxt 1 n s = ⟨#[100, 114, 111, 112, 32]⟩ ++ two n) := by
  unfold Hid; intro h; rw [dtxt_in hn, if_pos rfl, if_pos h]
 have H1' : Hid (s.size ≠ 0 → dtxt 1 n s = ByteArray.empty) := by
  unfold Hid; intro h; rw [dtxt_in hn, if_pos rfl, if_neg h]
 have ht2 : (two n).size ≤ 2 := two_size n
 have KN : Hid (∀ W : World, Calls Tryz.prog 81 #[.int .i64 n] W fun e w' => e = .returned (.string (two n)) ∧ Below W.heap.size W w') := fun W => l1Number_any n W hn
 have hn0 : (0 : Int) ≤ n := by omega
 have hn9 : (n : Int) ≤ 99 := by omega
 have hs' := hs
 unfold maxLen at hs
 have hbel : Below w.heap.size w (w.alloc (.cells #[.int .i64 1, .int .i64 (n : Nat), .string s] 55)) := by (exact grownA)
 have hB := Blk.new (w := w) (cs := #[.int .i64 1, .int .i64 (n : Nat), .string s]) (T := 55) rfl
 obtain ⟨t1, t2, t3, _, _, _, tlt⟩ := hB.three
 go_enter Tryz.func91, Tryz.ntmps91

 go_wp2_with fail
 refine (sIn_any _ _ _ _).mono ?_
 rintro e w1 ⟨rfl, rfl⟩
 go_wp2_with fail
 refine (sIn_any _ _ _ _).mono ?_
 rintro e w1 ⟨rfl, rfl⟩
 go_upto_region 3 with fail
 go_cut [3] (fun t3 wc => t3 = .string (⟨#[100, 114, 111, 112]⟩ ++ ⟨#[32]⟩ ++ two n) ∧ Below w.heap.size w wc ∧ Blk wc w.heap.size #[.int .i64 1, .int .i64 (n : Nat), .string s] 55)
 case first =>
  go_wp2_with fail
  refine wp_region_held_drew (S := fun w' => w'.cell? ⟨w.heap.size, 0, none⟩ = some (.int .i64 1) ∧ w'.cell? ⟨w.heap.size, 1, none⟩ = some (.int .i64 (n : Nat))) (by kernel_rfl) (by (try dsimp only); (exact keepA)) (fun hHeld => ?_)
  refine take_y 1 15 (v := ?_) rfl ?_ ?_; rotate_left; focus (intro w hSw; (try dsimp only at hSw); go_simp; (try rw [if_neg (by omega)]); (try with_reducible rfl))
  try simp only [Act.put, zp1, zp2, zp3]
  refine take_y 2 16 (v := ?_) rfl ?_ ?_; rotate_left; focus (intro w hSw; (try dsimp only at hSw); go_simp; (try rw [if_neg (by omega)]); (try with_reducible rfl))
  try simp only [Act.put, zp1, zp2, zp3]
  refine take_y 6 20 (v := ?_) rfl ?_ ?_; rotate_left; focus (intro w hSw; (try dsimp only at hSw); go_simp; (try rw [if_neg (by omega)]); (try with_reducible rfl))
  try simp only [Act.put, zp1, zp2, zp3]
  refine take_y 7 21 (v := ?_) rfl ?_ ?_; rotate_left; focus (intro w hSw; (try dsimp only at hSw); go_simp; (try rw [if_neg (by omega)]); (try with_reducible rfl))
  try simp only [Act.put, zp1, zp2, zp3]
  refine wpAnyH_ready (rs := [0, 8]) (by kernel_rfl) (by simp) ?_
  refine AllReadyH.cons rfl (fun K hK => ?_) (AllReadyH.cons rfl (fun K hK => ?_) AllReadyH.nil)
  ·
   go_simp
   refine hK.out _ _ againA (fun hHeld2 => ?_); clear hHeld hK K; have hHeld := hHeld2; clear hHeld2; (try simp only [Act.put, zp1, zp2, zp3])
   have hbel1 : Below w.heap.size w ((w.alloc (.cells #[.int .i64 1, .int .i64 (n : Nat), .string s] 55)).alloc (.cells #[.string ⟨#[99, 97, 108, 108]⟩, .string ⟨#[100, 114, 111, 112]⟩, .string ⟨#[110, 117, 109, 98, 101, 114]⟩] 9)) := by (exact grownA)
   have hBn := hB.alloc (.cells #[.string ⟨#[99, 97, 108, 108]⟩, .string ⟨#[100, 114, 111, 112]⟩, .string ⟨#[110, 117, 109, 98, 101, 114]⟩] 9)
   have hcell : ((w.alloc (.cells #[.int .i64 1, .int .i64 (n : Nat), .string s] 55)).alloc (.cells #[.string ⟨#[99, 97, 108, 108]⟩, .string ⟨#[100, 114, 111, 112]⟩, .string ⟨#[110, 117, 109, 98, 101, 114]⟩] 9)).drew.cell? ⟨w.heap.size + 1, 1, none⟩ = some (.string ⟨#[100, 114, 111, 112]⟩) := by simp [go_sem]
   refine take_y 3 17 (v := ?_) rfl ?_ ?_; rotate_left; focus (intro w hSw; (try dsimp only at hSw); go_simp; (try rw [if_neg (by omega)]); (try with_reducible rfl))
   try simp only [Act.put, zp1, zp2, zp3]
   refine wpAnyH_ready (rs := [4, 8]) (by kernel_rfl) (by simp) ?_
   refine AllReadyH.cons rfl (fun K hK => ?_) (AllReadyH.cons rfl (fun K hK => ?_) AllReadyH.nil)
   ·
    go_simp
    refine hK.out _ _ againA (fun hHeld2 => ?_); clear hHeld hK K; have hHeld := hHeld2; clear hHeld2; (try simp only [Act.put, zp1, zp2, zp3])
    refine take_y 5 19 (v := ?_) rfl ?_ ?_; rotate_left; focus (intro w hSw; (try dsimp only at hSw); go_simp; (try rw [if_neg (by omega)]); (try with_reducible rfl))
    try simp only [Act.put, zp1, zp2, zp3]
    refine wpAnyH_ready (rs := [8]) (by kernel_rfl) (by simp) ?_
    refine AllReadyH.cons rfl (fun K hK => ?_) AllReadyH.nil
    go_simp
    refine (KN.out _).mono ?_
    rintro e w2 ⟨rfl, hb2⟩
    refine hK.out _ _ againA (fun hHeld2 => ?_); clear hHeld hK K; have hHeld := hHeld2; clear hHeld2; (try simp only [Act.put, zp1, zp2, zp3])
    have hbel2 : Below w.heap.size w w2 := (hbel1.drew).trans (Below.mono hb2 (hbel1.drew).size)
    have hB2 := hBn.drew.belowAll hb2
    refine take_y 9 23 (v := ?_) rfl ?_ ?_; rotate_left; focus (intro w hSw; (try dsimp only at hSw); go_simp; (try rw [if_neg (by omega)]); (try with_reducible rfl))
    try simp only [Act.put, zp1, zp2, zp3]
    refine take_y 10 3 (v := ?_) rfl ?_ ?_; rotate_left; focus (intro w hSw; (try dsimp only at hSw); go_simp; (try rw [if_neg (by omega)]); (try with_reducible rfl))
    try simp only [Act.put, zp1, zp2, zp3]
    refine wpAnyH_done (by kernel_rfl) ?_ _
    clear hHeld
    go_wp2_with fail
    go_meet
    exact ⟨rfl, hbel2, hB2⟩
   ·
    go_simp
    refine (KN.out _).mono ?_
    rintro e w2 ⟨rfl, hb2⟩
    refine hK.out _ _ againA (fun hHeld2 => ?_); clear hHeld hK K; have hHeld := hHeld2; clear hHeld2; (try simp only [Act.put, zp1, zp2, zp3])
    have hbel2 : Below w.heap.size w w2 := (hbel1.drew).trans (Below.mono hb2 (hbel1.drew).size)
    have hB2 := hBn.drew.belowAll hb2
    have hcell2 := keep_below hb2 hcell
    refine wpAnyH_ready (rs := [4]) (by kernel_rfl) (by simp) ?_
    refine AllReadyH.cons rfl (fun K hK => ?_) AllReadyH.nil
    go_simp
    refine hK.out _ _ againA (fun hHeld2 => ?_); clear hHeld hK K; have hHeld := hHeld2; clear hHeld2; (try simp only [Act.put, zp1, zp2, zp3])
    refine take_y 5 19 (v := ?_) rfl ?_ ?_; rotate_left; focus (intro w hSw; (try dsimp only at hSw); go_simp; (try rw [if_neg (by omega)]); (try with_reducible rfl))
    try simp only [Act.put, zp1, zp2, zp3]
    refine take_y 9 23 (v := ?_) rfl ?_ ?_; rotate_left; focus (intro w hSw; (try dsimp only at hSw); go_simp; (try rw [if_neg (by omega)]); (try with_reducible rfl))
    try simp only [Act.put, zp1, zp2, zp3]
    refine take_y 10 3 (v := ?_) rfl ?_ ?_; rotate_left; focus (intro w hSw; (try dsimp only at hSw); go_simp; (try rw [if_neg (by omega)]); (try with_reducible rfl))
    try simp only [Act.put, zp1, zp2, zp3]
    refine wpAnyH_done (by kernel_rfl) ?_ _
    clear hHeld
    go_wp2_with fail
    go_meet
    exact ⟨rfl, hbel2, hB2⟩
  ·
   go_simp
   refine (KN.out _).mono ?_
   rintro e w2 ⟨rfl, hb2⟩
   refine hK.out _ _ againA (fun hHeld2 => ?_); clear hHeld hK K; have hHeld := hHeld2; clear hHeld2; (try simp only [Act.put, zp1, zp2, zp3])
   have hbel2 : Below w.heap.size w w2 := (hbel.drew).trans (Below.mono hb2 (hbel.drew).size)
   have hB2 := hB.drew.belowAll hb2
   refine wpAnyH_ready (rs := [0]) (by kernel_rfl) (by simp) ?_
   refine AllReadyH.cons rfl (fun K hK => ?_) AllReadyH.nil
   go_simp
   refine hK.out _ _ againA (fun hHeld2 => ?_); clear hHeld hK K; have hHeld := hHeld2; clear hHeld2; (try simp only [Act.put, zp1, zp2, zp3])
   have hcell : (w2.alloc (.cells #[.string ⟨#[99, 97, 108, 108]⟩, .string ⟨#[100, 114, 111, 112]⟩, .string ⟨#[110, 117, 109, 98, 101, 114]⟩] 9)).cell? ⟨w2.heap.size, 1, none⟩ = some (.string ⟨#[100, 114, 111, 112]⟩) := by simp [go_sem]
   refine take_y 3 17 (v := ?_) rfl ?_ ?_; rotate_left; focus (intro w hSw; (try dsimp only at hSw); go_simp; (try rw [if_neg (by omega)]); (try with_reducible rfl))
   try simp only [Act.put, zp1, zp2, zp3]
   refine wpAnyH_ready (rs := [4]) (by kernel_rfl) (by simp) ?_
   refine AllReadyH.cons rfl (fun K hK => ?_) AllReadyH.nil
   go_simp
   refine hK.out _ _ againA (fun hHeld2 => ?_); clear hHeld hK K; have hHeld := hHeld2; clear hHeld2; (try simp only [Act.put, zp1, zp2, zp3])
   refine take_y 5 19 (v := ?_) rfl ?_ ?_; rotate_left; focus (intro w hSw; (try dsimp only at hSw); go_simp; (try rw [if_neg (by omega)]); (try with_reducible rfl))
   try simp only [Act.put, zp1, zp2, zp3]
   refine take_y 9 23 (v := ?_) rfl ?_ ?_; rotate_left; focus (intro w hSw; (try dsimp only at hSw); go_simp; (try rw [if_neg (by omega)]); (try with_reducible rfl))
   try simp only [Act.put, zp1, zp2, zp3]
   refine take_y 10 3 (v := ?_) rfl ?_ ?_; rotate_left; focus (intro w hSw; (try dsimp only at hSw); go_simp; (try rw [if_neg (by omega)]); (try with_reducible rfl))
   try simp only [Act.put, zp1, zp2, zp3]
   refine wpAnyH_done (by kernel_rfl) ?_ _
   clear hHeld
   go_wp2_with fail
   go_meet
   exact ⟨rfl, hbel2.alloc (by have := hbel2.size; omega) _, hB2.alloc _⟩
 case rest =>
  obtain ⟨rfl, hbelC, hBC⟩ := hcut
  clear t1 t2 t3 tlt hbel hB KN
  obtain ⟨t1, t2, t3, _, _, _, tlt⟩ := hBC.three
  by_cases hz : s.size = 0
  ·
   have HV := Lib.hid (H1.out hz)
   obtain rfl : s = ⟨#[]⟩ := empty_of hz
   clear hz H1 H1'
   go_wp2
   go_returns
   exact ⟨by rw [HV.out, HJN.out]; rfl, hbelC⟩
  ·
   have HV := Lib.hid (H1'.out hz)
   obtain ⟨hz1, hz2⟩ := some_of hz
   clear hz H1 H1'
   go_wp2
   go_returns
   exact ⟨by rw [HV.out]; rfl, hbelC⟩

set_option maxRecDepth 100000 in
set_option maxHeartbeats 2000000 in
theorem sDeedText_2 (n : Nat) (s : ByteArray) (w : World) (hs : s.size ≤ maxLen) (hn : n ≤ 99) :
  Calls Tryz.prog 91 #[.agg #[.int .i64 2, .int .i64 n, .string s]] w fun e w' => e = .returned (.string (dtxt 2 n s)) ∧ Below w.heap.size w w' := by
 have hjn : (⟨#[110, 117, 109, 98, 101, 114]⟩ ++ ⟨#[32]⟩ : ByteArray) = ⟨#[110, 117, 109, 98, 101, 114, 32]⟩ := rfl
 have HJN := Lib.hid hjn
 clear hjn
 have HN : Hid (numD s = false → dtxt 2 n s = ByteArray.empty) := by
  unfold Hid; intro h; rw [dtxt_in hn, if_neg (by omega), if_pos h]
 have HY : Hid (numD s = true → dtxt 2 n s = ⟨#[110, 117, 109, 98, 101, 114, 32]⟩ ++ two n ++ ⟨#[32]⟩ ++ s) := by
  unfold Hid; intro h; rw [dtxt_in hn, if_neg (by omega), if_neg (by rw [h]; simp), if_neg (by omega), if_pos rfl]
 have ht2 : (two n).size ≤ 2 := two_size n
 have KN : Hid (∀ W : World, Calls Tryz.prog 81 #[.int .i64 n] W fun e w' => e = .returned (.string (two n)) ∧ Below W.heap.size W w') := fun W => l1Number_any n W hn
 have hn0 : (0 : Int) ≤ n := by omega
 have hn9 : (n : Int) ≤ 99 := by omega
 have hs' := hs
 unfold maxLen at hs
 have hbel : Below w.heap.size w (w.alloc (.cells #[.int .i64 2, .int .i64 (n : Nat), .string s] 55)) := by (exact grownA)
 have hB := Blk.new (w := w) (cs := #[.int .i64 2, .int .i64 (n : Nat), .string s]) (T := 55) rfl
 obtain ⟨t1, t2, t3, _, _, _, tlt⟩ := hB.three
 go_enter Tryz.func91, Tryz.ntmps91

 go_wp2_with fail
 refine (sIn_any _ _ _ _).mono ?_
 rintro e w1 ⟨rfl, rfl⟩
 go_wp2_with fail
 refine (sIn_any _ _ _ _).mono ?_
 rintro e w1 ⟨rfl, rfl⟩
 go_upto_region 3 with fail
 go_cut [3] (fun t3 wc => t3 = .string (⟨#[110, 117, 109, 98, 101, 114]⟩ ++ ⟨#[32]⟩ ++ two n) ∧ Below w.heap.size w wc ∧ Blk wc w.heap.size #[.int .i64 2, .int .i64 (n : Nat), .string s] 55)
 case first =>
  go_wp2_with fail
  refine wp_region_held_drew (S := fun w' => w'.cell? ⟨w.heap.size, 0, none⟩ = some (.int .i64 2) ∧ w'.cell? ⟨w.heap.size, 1, none⟩ = some (.int .i64 (n : Nat))) (by kernel_rfl) (by (try dsimp only); (exact keepA)) (fun hHeld => ?_)
  refine take_y 1 15 (v := ?_) rfl ?_ ?_; rotate_left; focus (intro w hSw; (try dsimp only at hSw); go_simp; (try rw [if_neg (by omega)]); (try with_reducible rfl))
  try simp only [Act.put, zp1, zp2, zp3]
  refine take_y 2 16 (v := ?_) rfl ?_ ?_; rotate_left; focus (intro w hSw; (try dsimp only at hSw); go_simp; (try rw [if_neg (by omega)]); (try with_reducible rfl))
  try simp only [Act.put, zp1, zp2, zp3]
  refine take_y 6 20 (v := ?_) rfl ?_ ?_; rotate_left; focus (intro w hSw; (try dsimp only at hSw); go_simp; (try rw [if_neg (by omega)]); (try with_reducible rfl))
  try simp only [Act.put, zp1, zp2, zp3]
  refine take_y 7 21 (v := ?_) rfl ?_ ?_; rotate_left; focus (intro w hSw; (try dsimp only at hSw); go_simp; (try rw [if_neg (by omega)]); (try with_reducible rfl))
  try simp only [Act.put, zp1, zp2, zp3]
  refine wpAnyH_ready (rs := [0, 8]) (by kernel_rfl) (by simp) ?_
  refine AllReadyH.cons rfl (fun K hK => ?_) (AllReadyH.cons rfl (fun K hK => ?_) AllReadyH.nil)
  ·
   go_simp
   refine hK.out _ _ againA (fun hHeld2 => ?_); clear hHeld hK K; have hHeld := hHeld2; clear hHeld2; (try simp only [Act.put, zp1, zp2, zp3])
   have hbel1 : Below w.heap.size w ((w.alloc (.cells #[.int .i64 2, .int .i64 (n : Nat), .string s] 55)).alloc (.cells #[.string ⟨#[99, 97, 108, 108]⟩, .string ⟨#[100, 114, 111, 112]⟩, .string ⟨#[110, 117, 109, 98, 101, 114]⟩] 9)) := by (exact grownA)
   have hBn := hB.alloc (.cells #[.string ⟨#[99, 97, 108, 108]⟩, .string ⟨#[100, 114, 111, 112]⟩, .string ⟨#[110, 117, 109, 98, 101, 114]⟩] 9)
   have hcell : ((w.alloc (.cells #[.int .i64 2, .int .i64 (n : Nat), .string s] 55)).alloc (.cells #[.string ⟨#[99, 97, 108, 108]⟩, .string ⟨#[100, 114, 111, 112]⟩, .string ⟨#[110, 117, 109, 98, 101, 114]⟩] 9)).drew.cell? ⟨w.heap.size + 1, 2, none⟩ = some (.string ⟨#[110, 117, 109, 98, 101, 114]⟩) := by simp [go_sem]
   refine take_y 3 17 (v := ?_) rfl ?_ ?_; rotate_left; focus (intro w hSw; (try dsimp only at hSw); go_simp; (try rw [if_neg (by omega)]); (try with_reducible rfl))
   try simp only [Act.put, zp1, zp2, zp3]
   refine wpAnyH_ready (rs := [4, 8]) (by kernel_rfl) (by simp) ?_
   refine AllReadyH.cons rfl (fun K hK => ?_) (AllReadyH.cons rfl (fun K hK => ?_) AllReadyH.nil)
   ·
    go_simp
    refine hK.out _ _ againA (fun hHeld2 => ?_); clear hHeld hK K; have hHeld := hHeld2; clear hHeld2; (try simp only [Act.put, zp1, zp2, zp3])
    refine take_y 5 19 (v := ?_) rfl ?_ ?_; rotate_left; focus (intro w hSw; (try dsimp only at hSw); go_simp; (try rw [if_neg (by omega)]); (try with_reducible rfl))
    try simp only [Act.put, zp1, zp2, zp3]
    refine wpAnyH_ready (rs := [8]) (by kernel_rfl) (by simp) ?_
    refine AllReadyH.cons rfl (fun K hK => ?_) AllReadyH.nil
    go_simp
    refine (KN.out _).mono ?_
    rintro e w2 ⟨rfl, hb2⟩
    refine hK.out _ _ againA (fun hHeld2 => ?_); clear hHeld hK K; have hHeld := hHeld2; clear hHeld2; (try simp only [Act.put, zp1, zp2, zp3])
    have hbel2 : Below w.heap.size w w2 := (hbel1.drew).trans (Below.mono hb2 (hbel1.drew).size)
    have hB2 := hBn.drew.belowAll hb2
    refine take_y 9 23 (v := ?_) rfl ?_ ?_; rotate_left; focus (intro w hSw; (try dsimp only at hSw); go_simp; (try rw [if_neg (by omega)]); (try with_reducible rfl))
    try simp only [Act.put, zp1, zp2, zp3]
    refine take_y 10 3 (v := ?_) rfl ?_ ?_; rotate_left; focus (intro w hSw; (try dsimp only at hSw); go_simp; (try rw [if_neg (by omega)]); (try with_reducible rfl))
    try simp only [Act.put, zp1, zp2, zp3]
    refine wpAnyH_done (by kernel_rfl) ?_ _
    clear hHeld
    go_wp2_with fail
    go_meet
    exact ⟨rfl, hbel2, hB2⟩
   ·
    go_simp
    refine (KN.out _).mono ?_
    rintro e w2 ⟨rfl, hb2⟩
    refine hK.out _ _ againA (fun hHeld2 => ?_); clear hHeld hK K; have hHeld := hHeld2; clear hHeld2; (try simp only [Act.put, zp1, zp2, zp3])
    have hbel2 : Below w.heap.size w w2 := (hbel1.drew).trans (Below.mono hb2 (hbel1.drew).size)
    have hB2 := hBn.drew.belowAll hb2
    have hcell2 := keep_below hb2 hcell
    refine wpAnyH_ready (rs := [4]) (by kernel_rfl) (by simp) ?_
    refine AllReadyH.cons rfl (fun K hK => ?_) AllReadyH.nil
    go_simp
    refine hK.out _ _ againA (fun hHeld2 => ?_); clear hHeld hK K; have hHeld := hHeld2; clear hHeld2; (try simp only [Act.put, zp1, zp2, zp3])
    refine take_y 5 19 (v := ?_) rfl ?_ ?_; rotate_left; focus (intro w hSw; (try dsimp only at hSw); go_simp; (try rw [if_neg (by omega)]); (try with_reducible rfl))
    try simp only [Act.put, zp1, zp2, zp3]
    refine take_y 9 23 (v := ?_) rfl ?_ ?_; rotate_left; focus (intro w hSw; (try dsimp only at hSw); go_simp; (try rw [if_neg (by omega)]); (try with_reducible rfl))
    try simp only [Act.put, zp1, zp2, zp3]
    refine take_y 10 3 (v := ?_) rfl ?_ ?_; rotate_left; focus (intro w hSw; (try dsimp only at hSw); go_simp; (try rw [if_neg (by omega)]); (try with_reducible rfl))
    try simp only [Act.put, zp1, zp2, zp3]
    refine wpAnyH_done (by kernel_rfl) ?_ _
    clear hHeld
    go_wp2_with fail
    go_meet
    exact ⟨rfl, hbel2, hB2⟩
  ·
   go_simp
   refine (KN.out _).mono ?_
   rintro e w2 ⟨rfl, hb2⟩
   refine hK.out _ _ againA (fun hHeld2 => ?_); clear hHeld hK K; have hHeld := hHeld2; clear hHeld2; (try simp only [Act.put, zp1, zp2, zp3])
   have hbel2 : Below w.heap.size w w2 := (hbel.drew).trans (Below.mono hb2 (hbel.drew).size)
   have hB2 := hB.drew.belowAll hb2
   refine wpAnyH_ready (rs := [0]) (by kernel_rfl) (by simp) ?_
   refine AllReadyH.cons rfl (fun K hK => ?_) AllReadyH.nil
   go_simp
   refine hK.out _ _ againA (fun hHeld2 => ?_); clear hHeld hK K; have hHeld := hHeld2; clear hHeld2; (try simp only [Act.put, zp1, zp2, zp3])
   have hcell : (w2.alloc (.cells #[.string ⟨#[99, 97, 108, 108]⟩, .string ⟨#[100, 114, 111, 112]⟩, .string ⟨#[110, 117, 109, 98, 101, 114]⟩] 9)).cell? ⟨w2.heap.size, 2, none⟩ = some (.string ⟨#[110, 117, 109, 98, 101, 114]⟩) := by simp [go_sem]
   refine take_y 3 17 (v := ?_) rfl ?_ ?_; rotate_left; focus (intro w hSw; (try dsimp only at hSw); go_simp; (try rw [if_neg (by omega)]); (try with_reducible rfl))
   try simp only [Act.put, zp1, zp2, zp3]
   refine wpAnyH_ready (rs := [4]) (by kernel_rfl) (by simp) ?_
   refine AllReadyH.cons rfl (fun K hK => ?_) AllReadyH.nil
   go_simp
   refine hK.out _ _ againA (fun hHeld2 => ?_); clear hHeld hK K; have hHeld := hHeld2; clear hHeld2; (try simp only [Act.put, zp1, zp2, zp3])
   refine take_y 5 19 (v := ?_) rfl ?_ ?_; rotate_left; focus (intro w hSw; (try dsimp only at hSw); go_simp; (try rw [if_neg (by omega)]); (try with_reducible rfl))
   try simp only [Act.put, zp1, zp2, zp3]
   refine take_y 9 23 (v := ?_) rfl ?_ ?_; rotate_left; focus (intro w hSw; (try dsimp only at hSw); go_simp; (try rw [if_neg (by omega)]); (try with_reducible rfl))
   try simp only [Act.put, zp1, zp2, zp3]
   refine take_y 10 3 (v := ?_) rfl ?_ ?_; rotate_left; focus (intro w hSw; (try dsimp only at hSw); go_simp; (try rw [if_neg (by omega)]); (try with_reducible rfl))
   try simp only [Act.put, zp1, zp2, zp3]
   refine wpAnyH_done (by kernel_rfl) ?_ _
   clear hHeld
   go_wp2_with fail
   go_meet
   exact ⟨rfl, hbel2.alloc (by have := hbel2.size; omega) _, hB2.alloc _⟩
 case rest =>
  obtain ⟨rfl, hbelC, hBC⟩ := hcut
  clear t1 t2 t3 tlt hbel hB KN
  obtain ⟨t1, t2, t3, _, _, _, tlt⟩ := hBC.three
  have hw0 : (⟨#[110, 117, 109, 98, 101, 114]⟩ ++ ⟨#[32]⟩ ++ two n : ByteArray).size ≤ 9 := by simp only [ByteArray.size_append]; show 6 + 1 + (two n).size ≤ 9; omega
  obtain ⟨W0, hW0⟩ : ∃ W0 : ByteArray, W0 = ⟨#[110, 117, 109, 98, 101, 114]⟩ ++ ⟨#[32]⟩ ++ two n := ⟨_, rfl⟩
  have HW0 := Lib.hid hW0
  rw [← hW0] at hw0 ⊢
  clear hW0
  go_wp2_with fail
  refine (sDigitsOk_any s _ hs').mono ?_
  rintro e w1 ⟨rfl, rfl⟩
  obtain ⟨d, hd⟩ : ∃ d, digsB s = d := ⟨_, rfl⟩
  rw [hd]
  cases d
  ·
   have HV := Lib.hid (HN.out (by simp [numD, hd]))
   clear hd HN HY
   go_wp2
   go_returns
   exact ⟨by rw [HV.out]; rfl, hbelC⟩
  ·
   by_cases h1 : 1 ≤ s.size
   ·
    by_cases h3 : s.size ≤ 3
    ·
     have HV := Lib.hid (HY.out (by simp [numD, hd, h1, h3]))
     have hi1 : (1 : Int) ≤ s.size := by omega
     have hi3 : (s.size : Int) ≤ 3 := by omega
     clear hd HN HY h1
     go_wp2_with fail
     refine (sIn_any _ _ _ _).mono ?_
     rintro e w1 ⟨rfl, rfl⟩
     rw [show (decide ((1 : Int) ≤ (s.size : Int)) && decide ((s.size : Int) ≤ 3)) = true by simp; omega]
     go_wp2
     go_returns
     exact ⟨by rw [HV.out, HW0.out, HJN.out]; rfl, hbelC⟩
    ·
     have HV := Lib.hid (HN.out (by simp [numD]; intro _ h; omega))
     have hi3 : ¬ (s.size : Int) ≤ 3 := by omega
     clear hd HN HY h1 h3
     go_wp2_with fail
     refine (sIn_any _ _ _ _).mono ?_
     rintro e w1 ⟨rfl, rfl⟩
     rw [show (decide ((1 : Int) ≤ (s.size : Int)) && decide ((s.size : Int) ≤ 3)) = false by simp; omega]
     go_wp2
     go_returns
     exact ⟨by rw [HV.out]; rfl, hbelC⟩
   ·
    have HV := Lib.hid (HN.out (by simp [numD]; intro h; omega))
    have hi1 : ¬ (1 : Int) ≤ s.size := by omega
    clear hd HN HY h1
    go_wp2_with fail
    refine (sIn_any _ _ _ _).mono ?_
    rintro e w1 ⟨rfl, rfl⟩
    rw [show (decide ((1 : Int) ≤ (s.size : Int)) && decide ((s.size : Int) ≤ 3)) = false by simp; omega]
    go_wp2
    go_returns
    exact ⟨by rw [HV.out]; rfl, hbelC⟩

set_option maxRecDepth 100000 in
set_option maxHeartbeats 1000000 in
theorem sDeedText_any (k l : Int) (s : ByteArray) (w : World) (hs : s.size ≤ maxLen) :
  Calls Tryz.prog 91 #[.agg #[.int .i64 k, .int .i64 l, .string s]] w fun e w' => e = .returned (.string (dtxt k l s)) ∧ Below w.heap.size w w' := by
 by_cases hk : k < 0 ∨ 2 < k
 ·
  have HF : Hid (dtxt k l s = ByteArray.empty) := by
   unfold Hid dtxt
   rw [if_neg (show ¬ k = 1 by omega), if_neg (show ¬ k = 0 by omega), if_neg (show ¬ k = 2 by omega)]
   split
   ·
    rfl
   ·
    split <;> rfl
  have HB : Hid ((decide ((0 : Int) ≤ k) && decide (k ≤ 2)) = false) := by unfold Hid; simp; omega
  clear hk hs
  go_enter Tryz.func91, Tryz.ntmps91
  go_wp2_with fail
  refine (sIn_any _ _ _ _).mono ?_
  rintro e w1 ⟨rfl, rfl⟩
  rw [HB.out]
  go_wp2
  go_returns
  exact ⟨by rw [HF.out]; rfl, by (exact grownA)⟩
 ·
  by_cases hl : l < 0 ∨ 99 < l
  ·
   have HF := Lib.hid (dtxt_far (k := k) (s := s) hl)
   have HA : Hid ((decide ((0 : Int) ≤ k) && decide (k ≤ 2)) = true) := by unfold Hid; simp; omega
   have HB : Hid ((decide ((0 : Int) ≤ l) && decide (l ≤ 99)) = false) := by unfold Hid; simp; omega
   clear hk hs hl
   go_enter Tryz.func91, Tryz.ntmps91
   go_wp2_with fail
   refine (sIn_any _ _ _ _).mono ?_
   rintro e w1 ⟨rfl, rfl⟩
   rw [HA.out]
   go_wp2_with fail
   refine (sIn_any _ _ _ _).mono ?_
   rintro e w1 ⟨rfl, rfl⟩
   rw [HB.out]
   go_wp2
   go_returns
   exact ⟨by rw [HF.out]; rfl, by (exact grownA)⟩
  ·
   obtain ⟨n, rfl⟩ := Int.eq_ofNat_of_zero_le (show 0 ≤ l by omega)
   have h3 : k = 0 ∨ k = 1 ∨ k = 2 := by omega
   rcases h3 with rfl | rfl | rfl
   ·
    exact sDeedText_0 n s w hs (by omega)
   ·
    exact sDeedText_1 n s w hs (by omega)
   ·
    exact sDeedText_2 n s w hs (by omega)

end Go.Proofs.YtedadhoneebfnaaGreatDoor
