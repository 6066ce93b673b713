/- Contract of ReadDeed of the reference. -/
import Derived.Test.YtedadhoneebfnaaGreatDoorJ3
import Derived.Test.YtedadhoneebfnaaGreatDoorJ1
import Derived.Deep.RegionHeld3
set_option linter.unusedSimpArgs false
set_option linter.unusedVariables false
namespace Go.Proofs.YtedadhoneebfnaaGreatDoor
open Go.RowKit

theorem split_two (c : UInt8) (l : List UInt8) : (splitL c l []).length > 1 ↔ c ∈ l := by
 rw [(split_head c l []).2]
 have h := List.count_pos_iff (a := c) (l := l)
 rw [← h]
 omega
theorem split_three (c : UInt8) (l : List UInt8) : (splitL c l []).length > 2 ↔ c ∈ l ∧ c ∈ aft c l := by
 by_cases h : c ∈ l
 ·
  rw [split_tail c l [] h, List.length_cons]
  have h2 := split_two c (aft c l)
  simp only [h, true_and]
  rw [← h2]
  omega
 ·
  rw [split_one c h]; simp [h]
theorem split_0 (c : UInt8) (l : List UInt8) : (splitL c l [])[0]? = some (bef c l) := by
 have := (split_head c l []).1; simpa using this
theorem split_1 {c : UInt8} {l : List UInt8} (h : c ∈ l) : (splitL c l [])[1]? = some (bef c (aft c l)) := by
 rw [split_tail c l [] h, List.getElem?_cons_succ]; exact split_0 c _
theorem split_2 {c : UInt8} {l : List UInt8} (h : c ∈ l) (h2 : c ∈ aft c l) : (splitL c l [])[2]? = some (bef c (aft c (aft c l))) := by
 rw [split_tail c l [] h, List.getElem?_cons_succ]; exact split_1 h2
theorem bas_at {ls : List (List UInt8)} {k : Nat} {l : List UInt8} (h : ls[k]? = some l) : (strs (bas ls))[k]? = some (.string (ba l)) := by simp [strs, bas, h]
/-- The kind after the first k words were tried. -/
def kindTo (l : List UInt8) (k : Nat) : Int := if 0 < k ∧ l = wcall then 0 else if 1 < k ∧ l = wdrop then 1 else if 2 < k ∧ l = wnumber then 2 else -1
theorem kindTo_all (l : List UInt8) : kindTo l 3 = (wordK l).getD (-1) := by
 unfold kindTo wordK
 by_cases h0 : l = wcall
 ·
  simp [h0]
 ·
  by_cases h1 : l = wdrop
  ·
   rw [if_neg (fun h => h0 h.2), if_pos ⟨by omega, h1⟩, if_neg h0, if_pos h1]; rfl
  ·
   by_cases h2 : l = wnumber
   ·
    rw [if_neg (fun h => h0 h.2), if_neg (fun h => h1 h.2), if_pos ⟨by omega, h2⟩, if_neg h0, if_neg h1, if_pos h2]; rfl
   ·
    rw [if_neg (fun h => h0 h.2), if_neg (fun h => h1 h.2), if_neg (fun h => h2 h.2), if_neg h0, if_neg h1, if_neg h2]; rfl

set_option maxRecDepth 100000 in
set_option maxHeartbeats 40000000 in
theorem sReadDeed_any (s : ByteArray) (w : World) (hs : s.size ≤ 1100000) :
  Calls Tryz.prog 55 #[.string s] w (RdPost s w) := by
 have HZ := Lib.hid (tl_size s)
 have hR := Blk.new (w := w) (cs := #[.int .i64 0, .int .i64 0, .string ByteArray.empty]) (T := 55) rfl
 have hbel0 : Below w.heap.size w (w.alloc (.cells #[.int .i64 0, .int .i64 0, .string ByteArray.empty] 55)) := by (exact grownA)
 obtain ⟨p0, p1, p2, f0, f1, f2, plt⟩ := hR.three
 have HS := Lib.hid hs
 clear hs
 go_enter Tryz.func55, Tryz.ntmps55
 go_wp2_with fail
 refine (l1Cut_any s 32 _ (by have := HS.out; omega)).mono ?_
 rintro e w1 ⟨v, rfl, ho1, hb1⟩
 have hbel1 : Below w.heap.size w w1 := by (exact grownA)
 have hR1 := hR.belowAll hb1
 clear hb1 hR hbel0 p0 p1 p2 f0 f1 f2 plt
 obtain ⟨ln, hln⟩ : ∃ z, (splitL 32 (tl s) []).length = z := ⟨_, rfl⟩
 have hl2 : (decide ((1 : Int) < (ln : Int)) = decide ((32 : UInt8) ∈ tl s)) ∧ (decide ((2 : Int) < (ln : Int)) = decide ((32 : UInt8) ∈ tl s ∧ (32 : UInt8) ∈ aft 32 (tl s))) := by
  have h1 := split_two 32 (tl s)
  have h2 := split_three 32 (tl s)
  rw [hln] at h1 h2
  refine ⟨?_, ?_⟩
  ·
   rw [decide_eq_decide]; exact ⟨fun h => h1.1 (by omega), fun h => by have := h1.2 h; omega⟩
  ·
   rw [decide_eq_decide]; exact ⟨fun h => h2.1 (by omega), fun h => by have := h2.2 h; omega⟩
 have hln1 : 1 ≤ ln := by rw [← hln, (split_head 32 (tl s) []).2]; omega
 have hln3 : 0 < ln := by omega
 have hln4 : (0 : Int) < (ln : Int) := by omega
 have hln2 : ln ≤ s.size + 1 := by rw [← hln]; have := split_count 32 (tl s) []; rw [HZ.out] at this; omega
 have HRD := Lib.hid (Rds.ofOwns ho1)
 rw [hln] at ho1 HRD
 obtain ⟨av, cv, rfl, _, _, _, hcv⟩ := (Rds.ofOwns ho1).open1
 rcases hcv with hcv | ⟨bw, ow, rfl, hbw, hcv⟩
 ·
  omega
 have q0 := hcv 0 (by omega)
 rw [bas_at (split_0 32 (tl s)), Nat.add_zero] at q0
 obtain ⟨wd, hwd⟩ : ∃ z, ba (bef 32 (tl s)) = z := ⟨_, rfl⟩
 rw [hwd] at q0
 have HCV := Lib.hid hcv
 have HL2 := Lib.hid hl2
 have HLN := Lib.hid hln
 have hbwn : bw ≠ w1.heap.size := by omega
 have hz1 := hbel1.size
 have hzl := hR1.lt
 have hD := Blk.new (w := w1) (cs := #[.int .i64 (-1), .int .i64 0, .string ByteArray.empty]) (T := 55) rfl
 have hbel2 := hbel1.alloc hz1 (.cells #[.int .i64 (-1), .int .i64 0, .string ByteArray.empty] 55)
 have hs0 := HS.out
 clear hcv hl2 hln ho1
 have HWD := Lib.hid hwd
 clear hwd
 go_wp2_with fail
 go_loopw [6] (fun i wr => ∃ (k : Nat), k ≤ 3 ∧ i = .int .i64 k ∧ Blk wr w1.heap.size #[.int .i64 (kindTo (bef 32 (tl s)) k), .int .i64 0, .string ByteArray.empty] 55 ∧ Below w1.heap.size w1 wr) (fun i _ => 3 - (intOf i).toNat)
 case atStart => exact ⟨0, by omega, rfl, by (rw [show kindTo (bef 32 (tl s)) 0 = -1 by simp [kindTo]]; exact hD), (Below.refl _ _).alloc (Nat.le_refl _) _⟩
 case round =>
  obtain ⟨k, hk, rfl, hDr, hbel⟩ := hrel
  have hwd := HWD.out
  have q1 : wr.cell? ⟨bw, ow, none⟩ = some (.string wd) := (hbel.cell (p := ⟨bw, ow, none⟩) hbw).trans q0
  obtain ⟨d0, d1, d2, _, _, _, dlt⟩ := hDr.three
  have hkk : k = 0 ∨ k = 1 ∨ k = 2 ∨ k = 3 := by omega
  rcases hkk with rfl | rfl | rfl | rfl
  ·
   by_cases hw : bef 32 (tl s) = wcall
   ·
    have hq := word_eq (m := [99, 97, 108, 108]) hw
    have HST : Hid (kindTo (bef 32 (tl s)) 1 = 0) := by unfold Hid kindTo; rw [hw]; rfl
    rw [hwd] at hq
    clear hw hwd
    go_wp2_with fail
    refine wp_region_held_drew (S := fun w' => w'.cell? ⟨bw, ow, none⟩ = some (.string wd)) (by kernel_rfl) (by (try dsimp only); (exact keepA)) (fun hHeld => ?_)
    refine take_y 0 14 (v := ?_) rfl ?_ ?_; rotate_left; focus (intro w hSw; (try dsimp only at hSw); go_simp; (try rw [if_neg (by omega)]); (try with_reducible rfl))
    try simp only [Act.put, zp1, zp2, zp3]
    refine take_y 1 15 (v := ?_) rfl ?_ ?_; rotate_left; focus (intro w hSw; (try dsimp only at hSw); go_simp; (try rw [if_neg (by omega)]); (try with_reducible rfl))
    try simp only [Act.put, zp1, zp2, zp3]
    refine take_y 2 16 (v := ?_) rfl ?_ ?_; rotate_left; focus (intro w hSw; (try dsimp only at hSw); go_simp; (try rw [if_neg (by omega)]); (try with_reducible rfl))
    try simp only [Act.put, zp1, zp2, zp3]
    refine take_y 4 18 (v := ?_) rfl ?_ ?_; rotate_left; focus (intro w hSw; (try dsimp only at hSw); go_simp; (try rw [if_neg (by omega)]); (try with_reducible rfl))
    try simp only [Act.put, zp1, zp2, zp3]
    refine wpAnyH_ready (rs := [3]) (by kernel_rfl) (by simp) ?_
    refine AllReadyH.cons rfl (fun K hK => ?_) AllReadyH.nil
    go_simp
    refine hK.out _ _ againA (fun hHeld2 => ?_); clear hHeld hK K; have hHeld := hHeld2; clear hHeld2; (try simp only [Act.put, zp1, zp2, zp3])
    refine wpAnyH_ready (rs := [5]) (by kernel_rfl) (by simp) ?_
    refine AllReadyH.cons rfl (fun K hK => ?_) AllReadyH.nil
    go_simp
    refine hK.out _ _ againA (fun hHeld2 => ?_); clear hHeld hK K; have hHeld := hHeld2; clear hHeld2; (try simp only [Act.put, zp1, zp2, zp3])
    refine wpAnyH_ready (rs := [6]) (by kernel_rfl) (by simp) ?_
    refine AllReadyH.cons rfl (fun K hK => ?_) AllReadyH.nil
    go_simp
    refine hK.out _ _ againA (fun hHeld2 => ?_); clear hHeld hK K; have hHeld := hHeld2; clear hHeld2; (try simp only [Act.put, zp1, zp2, zp3])
    refine wpAnyH_ready (rs := [7]) (by kernel_rfl) (by simp) ?_
    refine AllReadyH.cons rfl (fun K hK => ?_) AllReadyH.nil
    go_simp
    refine hK.out _ _ againA (fun hHeld2 => ?_); clear hHeld hK K; have hHeld := hHeld2; clear hHeld2; (try simp only [Act.put, zp1, zp2, zp3])
    refine wpAnyH_done (by kernel_rfl) ?_ _
    clear hHeld
    go_wp2_with fail
    go_roundw
    case rel => exact ⟨1, by omega, by first | rfl | go_num, by (rw [HST.out]; (exact blkA)), by (exact grownA)⟩
    case measure => simp [intOf]
   ·
    have hq := word_ne (m := [99, 97, 108, 108]) hw
    have HST : Hid (kindTo (bef 32 (tl s)) 1 = kindTo (bef 32 (tl s)) 0) := by
     unfold Hid kindTo
     have hw' : ¬ bef 32 (tl s) = wcall := hw
     simp [hw']
    rw [hwd] at hq
    clear hw hwd
    go_wp2_with fail
    refine wp_region_held_drew (S := fun w' => w'.cell? ⟨bw, ow, none⟩ = some (.string wd)) (by kernel_rfl) (by (try dsimp only); (exact keepA)) (fun hHeld => ?_)
    refine take_y 0 14 (v := ?_) rfl ?_ ?_; rotate_left; focus (intro w hSw; (try dsimp only at hSw); go_simp; (try rw [if_neg (by omega)]); (try with_reducible rfl))
    try simp only [Act.put, zp1, zp2, zp3]
    refine take_y 1 15 (v := ?_) rfl ?_ ?_; rotate_left; focus (intro w hSw; (try dsimp only at hSw); go_simp; (try rw [if_neg (by omega)]); (try with_reducible rfl))
    try simp only [Act.put, zp1, zp2, zp3]
    refine take_y 2 16 (v := ?_) rfl ?_ ?_; rotate_left; focus (intro w hSw; (try dsimp only at hSw); go_simp; (try rw [if_neg (by omega)]); (try with_reducible rfl))
    try simp only [Act.put, zp1, zp2, zp3]
    refine take_y 4 18 (v := ?_) rfl ?_ ?_; rotate_left; focus (intro w hSw; (try dsimp only at hSw); go_simp; (try rw [if_neg (by omega)]); (try with_reducible rfl))
    try simp only [Act.put, zp1, zp2, zp3]
    refine wpAnyH_ready (rs := [3]) (by kernel_rfl) (by simp) ?_
    refine AllReadyH.cons rfl (fun K hK => ?_) AllReadyH.nil
    go_simp
    refine hK.out _ _ againA (fun hHeld2 => ?_); clear hHeld hK K; have hHeld := hHeld2; clear hHeld2; (try simp only [Act.put, zp1, zp2, zp3])
    refine wpAnyH_ready (rs := [5]) (by kernel_rfl) (by simp) ?_
    refine AllReadyH.cons rfl (fun K hK => ?_) AllReadyH.nil
    go_simp
    refine hK.out _ _ againA (fun hHeld2 => ?_); clear hHeld hK K; have hHeld := hHeld2; clear hHeld2; (try simp only [Act.put, zp1, zp2, zp3])
    refine wpAnyH_ready (rs := [6]) (by kernel_rfl) (by simp) ?_
    refine AllReadyH.cons rfl (fun K hK => ?_) AllReadyH.nil
    go_simp
    refine hK.out _ _ againA (fun hHeld2 => ?_); clear hHeld hK K; have hHeld := hHeld2; clear hHeld2; (try simp only [Act.put, zp1, zp2, zp3])
    refine wpAnyH_ready (rs := [7]) (by kernel_rfl) (by simp) ?_
    refine AllReadyH.cons rfl (fun K hK => ?_) AllReadyH.nil
    go_simp
    refine hK.out _ _ againA (fun hHeld2 => ?_); clear hHeld hK K; have hHeld := hHeld2; clear hHeld2; (try simp only [Act.put, zp1, zp2, zp3])
    refine wpAnyH_done (by kernel_rfl) ?_ _
    clear hHeld
    go_wp2_with fail
    go_roundw
    case rel => exact ⟨1, by omega, by first | rfl | go_num, by (rw [HST.out]; (exact blkA)), by (exact grownA)⟩
    case measure => simp [intOf]
  ·
   by_cases hw : bef 32 (tl s) = wdrop
   ·
    have hq := word_eq (m := [100, 114, 111, 112]) hw
    have HST : Hid (kindTo (bef 32 (tl s)) 2 = 1) := by unfold Hid kindTo; rw [hw]; rfl
    rw [hwd] at hq
    clear hw hwd
    go_wp2_with fail
    refine wp_region_held_drew (S := fun w' => w'.cell? ⟨bw, ow, none⟩ = some (.string wd)) (by kernel_rfl) (by (try dsimp only); (exact keepA)) (fun hHeld => ?_)
    refine take_y 0 14 (v := ?_) rfl ?_ ?_; rotate_left; focus (intro w hSw; (try dsimp only at hSw); go_simp; (try rw [if_neg (by omega)]); (try with_reducible rfl))
    try simp only [Act.put, zp1, zp2, zp3]
    refine take_y 1 15 (v := ?_) rfl ?_ ?_; rotate_left; focus (intro w hSw; (try dsimp only at hSw); go_simp; (try rw [if_neg (by omega)]); (try with_reducible rfl))
    try simp only [Act.put, zp1, zp2, zp3]
    refine take_y 2 16 (v := ?_) rfl ?_ ?_; rotate_left; focus (intro w hSw; (try dsimp only at hSw); go_simp; (try rw [if_neg (by omega)]); (try with_reducible rfl))
    try simp only [Act.put, zp1, zp2, zp3]
    refine take_y 4 18 (v := ?_) rfl ?_ ?_; rotate_left; focus (intro w hSw; (try dsimp only at hSw); go_simp; (try rw [if_neg (by omega)]); (try with_reducible rfl))
    try simp only [Act.put, zp1, zp2, zp3]
    refine wpAnyH_ready (rs := [3]) (by kernel_rfl) (by simp) ?_
    refine AllReadyH.cons rfl (fun K hK => ?_) AllReadyH.nil
    go_simp
    refine hK.out _ _ againA (fun hHeld2 => ?_); clear hHeld hK K; have hHeld := hHeld2; clear hHeld2; (try simp only [Act.put, zp1, zp2, zp3])
    refine wpAnyH_ready (rs := [5]) (by kernel_rfl) (by simp) ?_
    refine AllReadyH.cons rfl (fun K hK => ?_) AllReadyH.nil
    go_simp
    refine hK.out _ _ againA (fun hHeld2 => ?_); clear hHeld hK K; have hHeld := hHeld2; clear hHeld2; (try simp only [Act.put, zp1, zp2, zp3])
    refine wpAnyH_ready (rs := [6]) (by kernel_rfl) (by simp) ?_
    refine AllReadyH.cons rfl (fun K hK => ?_) AllReadyH.nil
    go_simp
    refine hK.out _ _ againA (fun hHeld2 => ?_); clear hHeld hK K; have hHeld := hHeld2; clear hHeld2; (try simp only [Act.put, zp1, zp2, zp3])
    refine wpAnyH_ready (rs := [7]) (by kernel_rfl) (by simp) ?_
    refine AllReadyH.cons rfl (fun K hK => ?_) AllReadyH.nil
    go_simp
    refine hK.out _ _ againA (fun hHeld2 => ?_); clear hHeld hK K; have hHeld := hHeld2; clear hHeld2; (try simp only [Act.put, zp1, zp2, zp3])
    refine wpAnyH_done (by kernel_rfl) ?_ _
    clear hHeld
    go_wp2_with fail
    go_roundw
    case rel => exact ⟨2, by omega, by first | rfl | go_num, by (rw [HST.out]; (exact blkA)), by (exact grownA)⟩
    case measure => simp [intOf]
   ·
    have hq := word_ne (m := [100, 114, 111, 112]) hw
    have HST : Hid (kindTo (bef 32 (tl s)) 2 = kindTo (bef 32 (tl s)) 1) := by
     unfold Hid kindTo
     have hw' : ¬ bef 32 (tl s) = wdrop := hw
     simp [hw']
    rw [hwd] at hq
    clear hw hwd
    go_wp2_with fail
    refine wp_region_held_drew (S := fun w' => w'.cell? ⟨bw, ow, none⟩ = some (.string wd)) (by kernel_rfl) (by (try dsimp only); (exact keepA)) (fun hHeld => ?_)
    refine take_y 0 14 (v := ?_) rfl ?_ ?_; rotate_left; focus (intro w hSw; (try dsimp only at hSw); go_simp; (try rw [if_neg (by omega)]); (try with_reducible rfl))
    try simp only [Act.put, zp1, zp2, zp3]
    refine take_y 1 15 (v := ?_) rfl ?_ ?_; rotate_left; focus (intro w hSw; (try dsimp only at hSw); go_simp; (try rw [if_neg (by omega)]); (try with_reducible rfl))
    try simp only [Act.put, zp1, zp2, zp3]
    refine take_y 2 16 (v := ?_) rfl ?_ ?_; rotate_left; focus (intro w hSw; (try dsimp only at hSw); go_simp; (try rw [if_neg (by omega)]); (try with_reducible rfl))
    try simp only [Act.put, zp1, zp2, zp3]
    refine take_y 4 18 (v := ?_) rfl ?_ ?_; rotate_left; focus (intro w hSw; (try dsimp only at hSw); go_simp; (try rw [if_neg (by omega)]); (try with_reducible rfl))
    try simp only [Act.put, zp1, zp2, zp3]
    refine wpAnyH_ready (rs := [3]) (by kernel_rfl) (by simp) ?_
    refine AllReadyH.cons rfl (fun K hK => ?_) AllReadyH.nil
    go_simp
    refine hK.out _ _ againA (fun hHeld2 => ?_); clear hHeld hK K; have hHeld := hHeld2; clear hHeld2; (try simp only [Act.put, zp1, zp2, zp3])
    refine wpAnyH_ready (rs := [5]) (by kernel_rfl) (by simp) ?_
    refine AllReadyH.cons rfl (fun K hK => ?_) AllReadyH.nil
    go_simp
    refine hK.out _ _ againA (fun hHeld2 => ?_); clear hHeld hK K; have hHeld := hHeld2; clear hHeld2; (try simp only [Act.put, zp1, zp2, zp3])
    refine wpAnyH_ready (rs := [6]) (by kernel_rfl) (by simp) ?_
    refine AllReadyH.cons rfl (fun K hK => ?_) AllReadyH.nil
    go_simp
    refine hK.out _ _ againA (fun hHeld2 => ?_); clear hHeld hK K; have hHeld := hHeld2; clear hHeld2; (try simp only [Act.put, zp1, zp2, zp3])
    refine wpAnyH_ready (rs := [7]) (by kernel_rfl) (by simp) ?_
    refine AllReadyH.cons rfl (fun K hK => ?_) AllReadyH.nil
    go_simp
    refine hK.out _ _ againA (fun hHeld2 => ?_); clear hHeld hK K; have hHeld := hHeld2; clear hHeld2; (try simp only [Act.put, zp1, zp2, zp3])
    refine wpAnyH_done (by kernel_rfl) ?_ _
    clear hHeld
    go_wp2_with fail
    go_roundw
    case rel => exact ⟨2, by omega, by first | rfl | go_num, by (rw [HST.out]; (exact blkA)), by (exact grownA)⟩
    case measure => simp [intOf]
  ·
   by_cases hw : bef 32 (tl s) = wnumber
   ·
    have hq := word_eq (m := [110, 117, 109, 98, 101, 114]) hw
    have HST : Hid (kindTo (bef 32 (tl s)) 3 = 2) := by unfold Hid kindTo; rw [hw]; rfl
    rw [hwd] at hq
    clear hw hwd
    go_wp2_with fail
    refine wp_region_held_drew (S := fun w' => w'.cell? ⟨bw, ow, none⟩ = some (.string wd)) (by kernel_rfl) (by (try dsimp only); (exact keepA)) (fun hHeld => ?_)
    refine take_y 0 14 (v := ?_) rfl ?_ ?_; rotate_left; focus (intro w hSw; (try dsimp only at hSw); go_simp; (try rw [if_neg (by omega)]); (try with_reducible rfl))
    try simp only [Act.put, zp1, zp2, zp3]
    refine take_y 1 15 (v := ?_) rfl ?_ ?_; rotate_left; focus (intro w hSw; (try dsimp only at hSw); go_simp; (try rw [if_neg (by omega)]); (try with_reducible rfl))
    try simp only [Act.put, zp1, zp2, zp3]
    refine take_y 2 16 (v := ?_) rfl ?_ ?_; rotate_left; focus (intro w hSw; (try dsimp only at hSw); go_simp; (try rw [if_neg (by omega)]); (try with_reducible rfl))
    try simp only [Act.put, zp1, zp2, zp3]
    refine take_y 4 18 (v := ?_) rfl ?_ ?_; rotate_left; focus (intro w hSw; (try dsimp only at hSw); go_simp; (try rw [if_neg (by omega)]); (try with_reducible rfl))
    try simp only [Act.put, zp1, zp2, zp3]
    refine wpAnyH_ready (rs := [3]) (by kernel_rfl) (by simp) ?_
    refine AllReadyH.cons rfl (fun K hK => ?_) AllReadyH.nil
    go_simp
    refine hK.out _ _ againA (fun hHeld2 => ?_); clear hHeld hK K; have hHeld := hHeld2; clear hHeld2; (try simp only [Act.put, zp1, zp2, zp3])
    refine wpAnyH_ready (rs := [5]) (by kernel_rfl) (by simp) ?_
    refine AllReadyH.cons rfl (fun K hK => ?_) AllReadyH.nil
    go_simp
    refine hK.out _ _ againA (fun hHeld2 => ?_); clear hHeld hK K; have hHeld := hHeld2; clear hHeld2; (try simp only [Act.put, zp1, zp2, zp3])
    refine wpAnyH_ready (rs := [6]) (by kernel_rfl) (by simp) ?_
    refine AllReadyH.cons rfl (fun K hK => ?_) AllReadyH.nil
    go_simp
    refine hK.out _ _ againA (fun hHeld2 => ?_); clear hHeld hK K; have hHeld := hHeld2; clear hHeld2; (try simp only [Act.put, zp1, zp2, zp3])
    refine wpAnyH_ready (rs := [7]) (by kernel_rfl) (by simp) ?_
    refine AllReadyH.cons rfl (fun K hK => ?_) AllReadyH.nil
    go_simp
    refine hK.out _ _ againA (fun hHeld2 => ?_); clear hHeld hK K; have hHeld := hHeld2; clear hHeld2; (try simp only [Act.put, zp1, zp2, zp3])
    refine wpAnyH_done (by kernel_rfl) ?_ _
    clear hHeld
    go_wp2_with fail
    go_roundw
    case rel => exact ⟨3, by omega, by first | rfl | go_num, by (rw [HST.out]; (exact blkA)), by (exact grownA)⟩
    case measure => simp [intOf]
   ·
    have hq := word_ne (m := [110, 117, 109, 98, 101, 114]) hw
    have HST : Hid (kindTo (bef 32 (tl s)) 3 = kindTo (bef 32 (tl s)) 2) := by
     unfold Hid kindTo
     have hw' : ¬ bef 32 (tl s) = wnumber := hw
     simp [hw']
    rw [hwd] at hq
    clear hw hwd
    go_wp2_with fail
    refine wp_region_held_drew (S := fun w' => w'.cell? ⟨bw, ow, none⟩ = some (.string wd)) (by kernel_rfl) (by (try dsimp only); (exact keepA)) (fun hHeld => ?_)
    refine take_y 0 14 (v := ?_) rfl ?_ ?_; rotate_left; focus (intro w hSw; (try dsimp only at hSw); go_simp; (try rw [if_neg (by omega)]); (try with_reducible rfl))
    try simp only [Act.put, zp1, zp2, zp3]
    refine take_y 1 15 (v := ?_) rfl ?_ ?_; rotate_left; focus (intro w hSw; (try dsimp only at hSw); go_simp; (try rw [if_neg (by omega)]); (try with_reducible rfl))
    try simp only [Act.put, zp1, zp2, zp3]
    refine take_y 2 16 (v := ?_) rfl ?_ ?_; rotate_left; focus (intro w hSw; (try dsimp only at hSw); go_simp; (try rw [if_neg (by omega)]); (try with_reducible rfl))
    try simp only [Act.put, zp1, zp2, zp3]
    refine take_y 4 18 (v := ?_) rfl ?_ ?_; rotate_left; focus (intro w hSw; (try dsimp only at hSw); go_simp; (try rw [if_neg (by omega)]); (try with_reducible rfl))
    try simp only [Act.put, zp1, zp2, zp3]
    refine wpAnyH_ready (rs := [3]) (by kernel_rfl) (by simp) ?_
    refine AllReadyH.cons rfl (fun K hK => ?_) AllReadyH.nil
    go_simp
    refine hK.out _ _ againA (fun hHeld2 => ?_); clear hHeld hK K; have hHeld := hHeld2; clear hHeld2; (try simp only [Act.put, zp1, zp2, zp3])
    refine wpAnyH_ready (rs := [5]) (by kernel_rfl) (by simp) ?_
    refine AllReadyH.cons rfl (fun K hK => ?_) AllReadyH.nil
    go_simp
    refine hK.out _ _ againA (fun hHeld2 => ?_); clear hHeld hK K; have hHeld := hHeld2; clear hHeld2; (try simp only [Act.put, zp1, zp2, zp3])
    refine wpAnyH_ready (rs := [6]) (by kernel_rfl) (by simp) ?_
    refine AllReadyH.cons rfl (fun K hK => ?_) AllReadyH.nil
    go_simp
    refine hK.out _ _ againA (fun hHeld2 => ?_); clear hHeld hK K; have hHeld := hHeld2; clear hHeld2; (try simp only [Act.put, zp1, zp2, zp3])
    refine wpAnyH_ready (rs := [7]) (by kernel_rfl) (by simp) ?_
    refine AllReadyH.cons rfl (fun K hK => ?_) AllReadyH.nil
    go_simp
    refine hK.out _ _ againA (fun hHeld2 => ?_); clear hHeld hK K; have hHeld := hHeld2; clear hHeld2; (try simp only [Act.put, zp1, zp2, zp3])
    refine wpAnyH_done (by kernel_rfl) ?_ _
    clear hHeld
    go_wp2_with fail
    go_roundw
    case rel => exact ⟨3, by omega, by first | rfl | go_num, by (rw [HST.out]; (exact blkA)), by (exact grownA)⟩
    case measure => simp [intOf]
  ·
   clear hwd
   have HK := Lib.hid (kindTo_all (bef 32 (tl s)))
   rw [HK.out] at hDr d0
   obtain ⟨kd, hkd⟩ : ∃ z, (wordK (bef 32 (tl s))).getD (-1) = z := ⟨_, rfl⟩
   have HKD := Lib.hid hkd
   rw [hkd] at hDr d0
   clear hkd
   have hRr := hR1.belowAll hbel
   obtain ⟨p0, p1, p2, f0, f1, f2, plt⟩ := hRr.three
   have hbelW : Below w.heap.size w wr := hbel1.trans (Below.mono hbel hz1)
   by_cases hm1 : (32 : UInt8) ∈ tl s
   ·
    have hg1 : (1 : Int) < (ln : Int) := by have := HL2.out.1; rw [decide_eq_true hm1] at this; simpa using this
    have q1c := (hbel.cell (p := ⟨bw, ow + 1, none⟩) hbw).trans ((HCV.out 1 (by omega)).trans (bas_at (split_1 hm1)))
    have HM1 := Lib.hid hm1
    obtain ⟨t1, ht1⟩ : ∃ z, ba (bef 32 (aft 32 (tl s))) = z := ⟨_, rfl⟩
    rw [ht1] at q1c
    have HT1 := Lib.hid ht1
    have HS1 : Hid (t1.size ≤ maxLen) := by unfold Hid; rw [← ht1, ba_size]; have := aft_le 32 (tl s); have := bef_le 32 (aft 32 (tl s)); rw [HZ.out] at *; unfold maxLen; omega
    have hln5 : 1 < ln := by omega
    clear ht1
    by_cases hm2 : (32 : UInt8) ∈ aft 32 (tl s)
    ·
     have hg2 : (2 : Int) < (ln : Int) := by have := HL2.out.2; rw [decide_eq_true (And.intro hm1 hm2)] at this; simpa using this
     have q2c := (hbel.cell (p := ⟨bw, ow + 2, none⟩) hbw).trans ((HCV.out 2 (by omega)).trans (bas_at (split_2 hm1 hm2)))
     have hln6 : 2 < ln := by omega
     have HPS : Hid (pS (tl s) = (kd, (readL 4 (bef 32 (aft 32 (tl s)))).getD (-1), ba (bef 32 (aft 32 (aft 32 (tl s)))))) := by unfold Hid pS; rw [if_pos hm1, if_pos ⟨hm1, hm2⟩, HKD.out]
     obtain ⟨t2, ht2⟩ : ∃ z, ba (bef 32 (aft 32 (aft 32 (tl s)))) = z := ⟨_, rfl⟩
     rw [ht2] at q2c HPS
     have HS2 : Hid (t2.size ≤ maxLen) := by unfold Hid; rw [← ht2, ba_size]; have := aft_le 32 (tl s); have := aft_le 32 (aft 32 (tl s)); have := bef_le 32 (aft 32 (aft 32 (tl s))); rw [HZ.out] at *; unfold maxLen; omega
     clear ht2 hm1 hm2
     go_wp2_with fail
     refine (l1Read_any t1 _ HS1.out).mono ?_
     rintro e w5 ⟨rfl, rfl⟩
     rw [← HT1.out, tl_ba]
     obtain ⟨lv, hlv⟩ : ∃ z, (readL 4 (bef 32 (aft 32 (tl s)))).getD (-1) = z := ⟨_, rfl⟩
     rw [hlv] at HPS ⊢
     clear hlv
     have hD5 := (hDr.set (i := 1) (u := .int .i64 lv) rfl).set (i := 2) (u := .string t2) rfl
     have hR5 := (hRr.other (a := ⟨w1.heap.size, 1, none⟩) (u := .int .i64 lv) (by simp; omega)).other (a := ⟨w1.heap.size, 2, none⟩) (u := .string t2) (by simp; omega)
     have hbel5 : Below w.heap.size w ((wr.setCell ⟨w1.heap.size, 1, none⟩ (.int .i64 lv)).setCell ⟨w1.heap.size, 2, none⟩ (.string t2)) := (hbelW.setCell (by simp; omega) _).setCell (by simp; omega) _
     clear hDr hRr hD hbel2
     obtain ⟨d0, d1, d2, _, _, _, dlt⟩ := hD5.three
     obtain ⟨p0, p1, p2, f0, f1, f2, plt⟩ := hR5.three
     by_cases hse : s.size = 0
     ·
      have HF := Lib.hid (rdeed_empty hse)
      have hs1 : (s.toList == []) = true := by
       have h9 : tl s = [] := List.length_eq_zero_iff.1 (by rw [HZ.out]; exact hse)
       rw [ByteArray.toList_eq]; simpa using h9
      have hs2 : s.toList = [] := by simpa using hs1
      have hs3 : s.toList.isEmpty = true := by simpa using hs2
      clear hse
      go_wp2
      refine bodyPost_ret (v := .tuple #[.agg #[.int .i64 0, .int .i64 0, .string ByteArray.empty], .bool false]) (by simp [results, Tryz.results55, go_sem, p0, p1, p2]; try rfl) rfl ?_
      exact rd_none HF.out (by (exact grownA))
     ·
      obtain ⟨hs1, hs2⟩ := some_of hse
      have hs4 : (s.toList == []) = false := by simpa using hs1
      have HSE := Lib.hid hse
      clear hse
      go_wp2_with fail
      refine (sDeedText_any kd lv t2 _ HS2.out).mono ?_
      rintro e w6 ⟨rfl, hb6⟩
      have hD6 := hD5.belowAll hb6
      have hR6 := hR5.belowAll hb6
      have hbel6 : Below w.heap.size w w6 := hbel5.trans (Below.mono hb6 hbel5.size)
      clear hb6 d0 d1 d2 dlt p0 p1 p2 f0 f1 f2 plt hD5 hR5 hbel5
      obtain ⟨d0, d1, d2, _, _, _, dlt⟩ := hD6.three
      obtain ⟨p0, p1, p2, f0, f1, f2, plt⟩ := hR6.three
      obtain ⟨tx, htx⟩ : ∃ z, dtxt kd lv t2 = z := ⟨_, rfl⟩
      rw [htx]
      have HTX := Lib.hid htx
      clear htx
      by_cases hts : tx = s
      ·
       have hq := str_eq hts
       have hq2 : (tx.toList != s.toList) = false := by simp [bne, hq]
       have HF := Lib.hid (rdeed_some (d := (kd, lv, t2)) HSE.out (by show dtxt kd lv t2 = s; rw [HTX.out, hts]))
       clear hts
       go_wp2
       refine bodyPost_ret (v := .tuple #[.agg #[.int .i64 kd, .int .i64 lv, .string t2], .bool true]) (by simp [results, Tryz.results55, go_sem, p0, p1, p2, d0, d1, d2]) rfl ?_
       exact rd_some HF.out (by (exact grownA))
      ·
       have hq := str_ne hts
       have hq2 : (tx.toList != s.toList) = true := by simp [bne, hq]
       have HF := Lib.hid (rdeed_pS_ne (s := s) (by rw [HPS.out]; show ¬ dtxt kd lv t2 = s; rw [HTX.out]; exact hts))
       clear hts
       go_wp2
       refine bodyPost_ret (v := .tuple #[.agg #[.int .i64 0, .int .i64 0, .string ByteArray.empty], .bool false]) (by simp [results, Tryz.results55, go_sem, p0, p1, p2]; try rfl) rfl ?_
       exact rd_none HF.out (by (exact grownA))
    ·
     have hg2 : ¬ (2 : Int) < (ln : Int) := by have := HL2.out.2; rw [decide_eq_false (show ¬ ((32 : UInt8) ∈ tl s ∧ (32 : UInt8) ∈ aft 32 (tl s)) from fun h => hm2 h.2)] at this; simpa using this
     have HPS : Hid (pS (tl s) = (kd, (readL 4 (bef 32 (aft 32 (tl s)))).getD (-1), ⟨#[]⟩)) := by unfold Hid pS; rw [if_pos hm1, if_neg (show ¬ ((32 : UInt8) ∈ tl s ∧ (32 : UInt8) ∈ aft 32 (tl s)) from fun h => hm2 h.2), HKD.out]
     have HS2 : Hid ((⟨#[]⟩ : ByteArray).size ≤ maxLen) := by unfold Hid maxLen; show 0 ≤ _; omega
     clear hm1 hm2
     go_wp2_with fail
     refine (l1Read_any t1 _ HS1.out).mono ?_
     rintro e w5 ⟨rfl, rfl⟩
     rw [← HT1.out, tl_ba]
     obtain ⟨lv, hlv⟩ : ∃ z, (readL 4 (bef 32 (aft 32 (tl s)))).getD (-1) = z := ⟨_, rfl⟩
     rw [hlv] at HPS ⊢
     clear hlv
     have hD5 := hDr.set (i := 1) (u := .int .i64 lv) (cs' := #[.int .i64 kd, .int .i64 lv, .string ⟨#[]⟩]) rfl
     have hR5 := hRr.other (a := ⟨w1.heap.size, 1, none⟩) (u := .int .i64 lv) (by simp; omega)
     have hbel5 : Below w.heap.size w (wr.setCell ⟨w1.heap.size, 1, none⟩ (.int .i64 lv)) := hbelW.setCell (by simp; omega) _
     clear hDr hRr hD hbel2
     obtain ⟨t2, ht2⟩ : ∃ z : ByteArray, (⟨#[]⟩ : ByteArray) = z := ⟨_, rfl⟩
     rw [ht2] at HPS HS2 hD5
     clear ht2
     obtain ⟨d0, d1, d2, _, _, _, dlt⟩ := hD5.three
     obtain ⟨p0, p1, p2, f0, f1, f2, plt⟩ := hR5.three
     by_cases hse : s.size = 0
     ·
      have HF := Lib.hid (rdeed_empty hse)
      have hs1 : (s.toList == []) = true := by
       have h9 : tl s = [] := List.length_eq_zero_iff.1 (by rw [HZ.out]; exact hse)
       rw [ByteArray.toList_eq]; simpa using h9
      have hs2 : s.toList = [] := by simpa using hs1
      have hs3 : s.toList.isEmpty = true := by simpa using hs2
      clear hse
      go_wp2
      refine bodyPost_ret (v := .tuple #[.agg #[.int .i64 0, .int .i64 0, .string ByteArray.empty], .bool false]) (by simp [results, Tryz.results55, go_sem, p0, p1, p2]; try rfl) rfl ?_
      exact rd_none HF.out (by (exact grownA))
     ·
      obtain ⟨hs1, hs2⟩ := some_of hse
      have hs4 : (s.toList == []) = false := by simpa using hs1
      have HSE := Lib.hid hse
      clear hse
      go_wp2_with fail
      refine (sDeedText_any kd lv t2 _ HS2.out).mono ?_
      rintro e w6 ⟨rfl, hb6⟩
      have hD6 := hD5.belowAll hb6
      have hR6 := hR5.belowAll hb6
      have hbel6 : Below w.heap.size w w6 := hbel5.trans (Below.mono hb6 hbel5.size)
      clear hb6 d0 d1 d2 dlt p0 p1 p2 f0 f1 f2 plt hD5 hR5 hbel5
      obtain ⟨d0, d1, d2, _, _, _, dlt⟩ := hD6.three
      obtain ⟨p0, p1, p2, f0, f1, f2, plt⟩ := hR6.three
      obtain ⟨tx, htx⟩ : ∃ z, dtxt kd lv t2 = z := ⟨_, rfl⟩
      rw [htx]
      have HTX := Lib.hid htx
      clear htx
      by_cases hts : tx = s
      ·
       have hq := str_eq hts
       have hq2 : (tx.toList != s.toList) = false := by simp [bne, hq]
       have HF := Lib.hid (rdeed_some (d := (kd, lv, t2)) HSE.out (by show dtxt kd lv t2 = s; rw [HTX.out, hts]))
       clear hts
       go_wp2
       refine bodyPost_ret (v := .tuple #[.agg #[.int .i64 kd, .int .i64 lv, .string t2], .bool true]) (by simp [results, Tryz.results55, go_sem, p0, p1, p2, d0, d1, d2]) rfl ?_
       exact rd_some HF.out (by (exact grownA))
      ·
       have hq := str_ne hts
       have hq2 : (tx.toList != s.toList) = true := by simp [bne, hq]
       have HF := Lib.hid (rdeed_pS_ne (s := s) (by rw [HPS.out]; show ¬ dtxt kd lv t2 = s; rw [HTX.out]; exact hts))
       clear hts
       go_wp2
       refine bodyPost_ret (v := .tuple #[.agg #[.int .i64 0, .int .i64 0, .string ByteArray.empty], .bool false]) (by simp [results, Tryz.results55, go_sem, p0, p1, p2]; try rfl) rfl ?_
       exact rd_none HF.out (by (exact grownA))
   ·
    have hg1 : ¬ (1 : Int) < (ln : Int) := by have := HL2.out.1; rw [decide_eq_false hm1] at this; simpa using this
    have hg2 : ¬ (2 : Int) < (ln : Int) := by omega
    have HPS : Hid (pS (tl s) = (kd, 0, ⟨#[]⟩)) := by unfold Hid pS; rw [if_neg hm1, if_neg (fun h => hm1 h.1), HKD.out]
    have HS2 : Hid ((⟨#[]⟩ : ByteArray).size ≤ maxLen) := by unfold Hid maxLen; show 0 ≤ _; omega
    clear hm1
    have hD5 := hDr
    have hR5 := hRr
    have hbel5 := hbelW
    clear hDr hRr hD hbel2
    obtain ⟨d0, d1, d2, _, _, _, dlt⟩ := hD5.three
    obtain ⟨p0, p1, p2, f0, f1, f2, plt⟩ := hR5.three
    by_cases hse : s.size = 0
    ·
     have HF := Lib.hid (rdeed_empty hse)
     have hs1 : (s.toList == []) = true := by
      have h9 : tl s = [] := List.length_eq_zero_iff.1 (by rw [HZ.out]; exact hse)
      rw [ByteArray.toList_eq]; simpa using h9
     have hs2 : s.toList = [] := by simpa using hs1
     have hs3 : s.toList.isEmpty = true := by simpa using hs2
     clear hse
     go_wp2
     refine bodyPost_ret (v := .tuple #[.agg #[.int .i64 0, .int .i64 0, .string ByteArray.empty], .bool false]) (by simp [results, Tryz.results55, go_sem, p0, p1, p2]; try rfl) rfl ?_
     exact rd_none HF.out (by (exact grownA))
    ·
     obtain ⟨hs1, hs2⟩ := some_of hse
     have hs4 : (s.toList == []) = false := by simpa using hs1
     have HSE := Lib.hid hse
     clear hse
     go_wp2_with fail
     refine (sDeedText_any kd 0 ⟨#[]⟩ _ HS2.out).mono ?_
     rintro e w6 ⟨rfl, hb6⟩
     have hD6 := hD5.belowAll hb6
     have hR6 := hR5.belowAll hb6
     have hbel6 : Below w.heap.size w w6 := hbel5.trans (Below.mono hb6 hbel5.size)
     clear hb6 d0 d1 d2 dlt p0 p1 p2 f0 f1 f2 plt hD5 hR5 hbel5
     obtain ⟨d0, d1, d2, _, _, _, dlt⟩ := hD6.three
     obtain ⟨p0, p1, p2, f0, f1, f2, plt⟩ := hR6.three
     obtain ⟨tx, htx⟩ : ∃ z, dtxt kd 0 ⟨#[]⟩ = z := ⟨_, rfl⟩
     rw [htx]
     have HTX := Lib.hid htx
     clear htx
     by_cases hts : tx = s
     ·
      have hq := str_eq hts
      have hq2 : (tx.toList != s.toList) = false := by simp [bne, hq]
      have HF := Lib.hid (rdeed_some (d := (kd, 0, ⟨#[]⟩)) HSE.out (by show dtxt kd 0 ⟨#[]⟩ = s; rw [HTX.out, hts]))
      clear hts
      go_wp2
      refine bodyPost_ret (v := .tuple #[.agg #[.int .i64 kd, .int .i64 0, .string ByteArray.empty], .bool true]) (by simp [results, Tryz.results55, go_sem, p0, p1, p2, d0, d1, d2]) rfl ?_
      exact rd_some HF.out (by (exact grownA))
     ·
      have hq := str_ne hts
      have hq2 : (tx.toList != s.toList) = true := by simp [bne, hq]
      have HF := Lib.hid (rdeed_pS_ne (s := s) (by rw [HPS.out]; show ¬ dtxt kd 0 ⟨#[]⟩ = s; rw [HTX.out]; exact hts))
      clear hts
      go_wp2
      refine bodyPost_ret (v := .tuple #[.agg #[.int .i64 0, .int .i64 0, .string ByteArray.empty], .bool false]) (by simp [results, Tryz.results55, go_sem, p0, p1, p2]; try rfl) rfl ?_
      exact rd_none HF.out (by (exact grownA))

end Go.Proofs.YtedadhoneebfnaaGreatDoor
