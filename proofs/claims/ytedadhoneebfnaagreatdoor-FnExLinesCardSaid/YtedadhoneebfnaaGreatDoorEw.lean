/- Contract of ExchangeValid of the reference. -/
import Derived.Test.YtedadhoneebfnaaGreatDoorJ6
import Derived.Test.YtedadhoneebfnaaGreatDoorCv2
set_option linter.unusedSimpArgs false
set_option linter.unusedVariables false
namespace Go.Proofs.YtedadhoneebfnaaGreatDoor
open Go.RowKit

set_option maxRecDepth 100000 in
set_option maxHeartbeats 10000000 in
theorem sExchangeValid_any (O E M : Int) (vp vc : Value) (ps : List ByteArray) (cs : List Cl) (w : World) (hR : ExRd w vp vc ps cs) (hL : StLen ps) :
  Calls Tryz.prog 25 #[.agg #[.int .i64 O, .int .i64 E, .int .i64 M, vp, vc]] w fun e w' => e = .returned (.bool (exB O E M ps cs)) ∧ Below w.heap.size w w' := by
 obtain ⟨a1, c1, rfl, hl1, hm1, hn1, hc1⟩ := hR.plan.open1
 obtain ⟨hl2, hm2, a2, c2, rfl, hn2, hc2⟩ := hR.calls
 unfold maxLen at hm1 hm2
 obtain ⟨n, hn⟩ : ∃ n, ps.length = n := ⟨_, rfl⟩
 obtain ⟨m, hm⟩ : ∃ m, cs.length = m := ⟨_, rfl⟩
 have hB := Blk.new (w := w) (cs := #[.int .i64 O, .int .i64 E, .int .i64 M, .slice a1 ps.length c1, .slice a2 cs.length c2]) (T := 33) rfl
 have hbel0 : Below w.heap.size w (w.alloc (.cells #[.int .i64 O, .int .i64 E, .int .i64 M, .slice a1 ps.length c1, .slice a2 cs.length c2] 33)) := by (exact grownA)
 have HR := Lib.hid hR
 have HL := Lib.hid hL
 rw [hn, hm] at hB hbel0 HR ⊢
 rw [hn] at hm1 hn1
 rw [hm] at hm2 hn2 hc2
 have HN := Lib.hid hn
 have HM := Lib.hid hm
 clear hn hm hl1 hl2 hR hL hc1
 obtain ⟨p0, p1, p2, p3, p4, _, _, _, _, _, plt⟩ := hB.five
 obtain ⟨d1, hd1⟩ : ∃ d, enoughB O E M = d := ⟨_, rfl⟩
 obtain ⟨d2, hd2⟩ : ∃ d, planB ps = d := ⟨_, rfl⟩
 obtain ⟨d3, hd3⟩ : ∃ d, callsB O E M cs = d := ⟨_, rfl⟩
 obtain ⟨L, hLE⟩ : ∃ L, O * E = L := ⟨_, rfl⟩
 have K1 : Hid (∀ w : World, Calls Tryz.prog 58 #[.agg #[.int .i64 O, .int .i64 E, .int .i64 M]] w fun e w' => e = .returned (.bool d1) ∧ Below w.heap.size w w') := fun w => (sEnough_any O E M w).mono fun e w' h => by rw [hd1] at h; exact h
 have HD1 := Lib.hid hd1
 have HD2 := Lib.hid hd2
 have HD3 := Lib.hid hd3
 have HLE := Lib.hid hLE
 clear hd1 hd2 hd3 hLE
 go_enter Tryz.func25, Tryz.ntmps25
 go_wp2_with fail
 refine wp_region_held_drew (S := fun w' => w'.cell? ⟨w.heap.size, 0, none⟩ = some (.int .i64 O) ∧ w'.cell? ⟨w.heap.size, 1, none⟩ = some (.int .i64 E) ∧ w'.cell? ⟨w.heap.size, 2, none⟩ = some (.int .i64 M) ∧ w'.cell? ⟨w.heap.size, 3, none⟩ = some (.slice a1 n c1) ∧ w'.cell? ⟨w.heap.size, 4, none⟩ = some (.slice a2 m c2)) (by kernel_rfl) (by (try dsimp only); (exact keepA)) (fun hHeld => ?_)
 refine take_y 0 5 (v := ?_) rfl ?_ ?_; rotate_left; focus (intro w hSw; (try dsimp only at hSw); go_simp; (try rw [if_neg (by omega)]); (try with_reducible rfl))
 try simp only [Act.put, zp1, zp2, zp3]
 refine take_y 1 6 (v := ?_) rfl ?_ ?_; rotate_left; focus (intro w hSw; (try dsimp only at hSw); go_simp; (try rw [if_neg (by omega)]); (try with_reducible rfl))
 try simp only [Act.put, zp1, zp2, zp3]
 refine wpAnyH_ready (rs := [2]) (by kernel_rfl) (by simp) ?_
 refine AllReadyH.cons rfl (fun K hK => ?_) AllReadyH.nil
 go_simp
 refine (K1.out _).mono ?_
 rintro e w2 ⟨rfl, hb2⟩
 refine hK.out _ _ againA (fun hHeld2 => ?_); clear hHeld hK K; have hHeld := hHeld2; clear hHeld2; (try simp only [Act.put, zp1, zp2, zp3])
 have hbel2 : Below w.heap.size w w2 := by (exact grownA)
 have hB2 := (hB.drew).belowAll hb2
 clear hB hbel0 p0 p1 p2 p3 p4 plt hb2 K1
 refine take_y 3 8 (v := ?_) rfl ?_ ?_; rotate_left; focus (intro w hSw; (try dsimp only at hSw); go_simp; (try rw [if_neg (by omega)]); (try with_reducible rfl))
 try simp only [Act.put, zp1, zp2, zp3]
 refine take_y 4 9 (v := ?_) rfl ?_ ?_; rotate_left; focus (intro w hSw; (try dsimp only at hSw); go_simp; (try rw [if_neg (by omega)]); (try with_reducible rfl))
 try simp only [Act.put, zp1, zp2, zp3]
 cases d1
 ·
  have HF := Lib.hid (ex_en (ps := ps) (cs := cs) HD1.out)
  refine take_on (i := 5) (d := some 10) (v := undef) rfl (by rfl) (by kernel_rfl) (by kernel_rfl) (by kernel_rfl) (fun _ _ _ h => h) (Or.inr ⟨by kernel_rfl, rfl⟩) (by assumption) ?_
  try simp only [Act.put, zp1, zp2, zp3]
  refine take_on (i := 6) (d := some 11) (v := undef) rfl (by rfl) (by kernel_rfl) (by kernel_rfl) (by kernel_rfl) (fun _ _ _ h => h) (Or.inr ⟨by kernel_rfl, rfl⟩) (by assumption) ?_
  try simp only [Act.put, zp1, zp2, zp3]
  refine take_on (i := 7) (d := some 12) (v := undef) rfl (by rfl) (by kernel_rfl) (by kernel_rfl) (by kernel_rfl) (fun _ _ _ h => h) (Or.inr ⟨by kernel_rfl, rfl⟩) (by assumption) ?_
  try simp only [Act.put, zp1, zp2, zp3]
  refine take_on (i := 8) (d := some 13) (v := undef) rfl (by rfl) (by kernel_rfl) (by kernel_rfl) (by kernel_rfl) (fun _ _ _ h => h) (Or.inr ⟨by kernel_rfl, rfl⟩) (by assumption) ?_
  try simp only [Act.put, zp1, zp2, zp3]
  refine take_y 9 14 (v := ?_) rfl ?_ ?_; rotate_left; focus (intro w hSw; (try dsimp only at hSw); go_simp; (try rw [if_neg (by omega)]); (try with_reducible rfl))
  try simp only [Act.put, zp1, zp2, zp3]
  refine take_y 10 15 (v := ?_) rfl ?_ ?_; rotate_left; focus (intro w hSw; (try dsimp only at hSw); go_simp; (try rw [if_neg (by omega)]); (try with_reducible rfl))
  try simp only [Act.put, zp1, zp2, zp3]
  refine take_on (i := 11) (d := some 16) (v := undef) rfl (by rfl) (by kernel_rfl) (by kernel_rfl) (by kernel_rfl) (fun _ _ _ h => h) (Or.inr ⟨by kernel_rfl, rfl⟩) (by assumption) ?_
  try simp only [Act.put, zp1, zp2, zp3]
  refine take_on (i := 12) (d := some 17) (v := undef) rfl (by rfl) (by kernel_rfl) (by kernel_rfl) (by kernel_rfl) (fun _ _ _ h => h) (Or.inr ⟨by kernel_rfl, rfl⟩) (by assumption) ?_
  try simp only [Act.put, zp1, zp2, zp3]
  refine take_on (i := 13) (d := some 18) (v := undef) rfl (by rfl) (by kernel_rfl) (by kernel_rfl) (by kernel_rfl) (fun _ _ _ h => h) (Or.inr ⟨by kernel_rfl, rfl⟩) (by assumption) ?_
  try simp only [Act.put, zp1, zp2, zp3]
  refine take_on (i := 14) (d := some 19) (v := undef) rfl (by rfl) (by kernel_rfl) (by kernel_rfl) (by kernel_rfl) (fun _ _ _ h => h) (Or.inr ⟨by kernel_rfl, rfl⟩) (by assumption) ?_
  try simp only [Act.put, zp1, zp2, zp3]
  refine take_on (i := 15) (d := some 20) (v := undef) rfl (by rfl) (by kernel_rfl) (by kernel_rfl) (by kernel_rfl) (fun _ _ _ h => h) (Or.inr ⟨by kernel_rfl, rfl⟩) (by assumption) ?_
  try simp only [Act.put, zp1, zp2, zp3]
  refine take_on (i := 16) (d := some 21) (v := undef) rfl (by rfl) (by kernel_rfl) (by kernel_rfl) (by kernel_rfl) (fun _ _ _ h => h) (Or.inr ⟨by kernel_rfl, rfl⟩) (by assumption) ?_
  try simp only [Act.put, zp1, zp2, zp3]
  refine take_on (i := 17) (d := some 22) (v := undef) rfl (by rfl) (by kernel_rfl) (by kernel_rfl) (by kernel_rfl) (fun _ _ _ h => h) (Or.inr ⟨by kernel_rfl, rfl⟩) (by assumption) ?_
  try simp only [Act.put, zp1, zp2, zp3]
  refine take_y 18 23 (v := ?_) rfl ?_ ?_; rotate_left; focus (intro w hSw; (try dsimp only at hSw); go_simp; (try rw [if_neg (by omega)]); (try with_reducible rfl))
  try simp only [Act.put, zp1, zp2, zp3]
  refine take_y 19 24 (v := ?_) rfl ?_ ?_; rotate_left; focus (intro w hSw; (try dsimp only at hSw); go_simp; (try rw [if_neg (by omega)]); (try with_reducible rfl))
  try simp only [Act.put, zp1, zp2, zp3]
  refine take_on (i := 20) (d := some 25) (v := undef) rfl (by rfl) (by kernel_rfl) (by kernel_rfl) (by kernel_rfl) (fun _ _ _ h => h) (Or.inr ⟨by kernel_rfl, rfl⟩) (by assumption) ?_
  try simp only [Act.put, zp1, zp2, zp3]
  refine take_on (i := 21) (d := some 26) (v := undef) rfl (by rfl) (by kernel_rfl) (by kernel_rfl) (by kernel_rfl) (fun _ _ _ h => h) (Or.inr ⟨by kernel_rfl, rfl⟩) (by assumption) ?_
  try simp only [Act.put, zp1, zp2, zp3]
  refine take_on (i := 22) (d := some 27) (v := undef) rfl (by rfl) (by kernel_rfl) (by kernel_rfl) (by kernel_rfl) (fun _ _ _ h => h) (Or.inr ⟨by kernel_rfl, rfl⟩) (by assumption) ?_
  try simp only [Act.put, zp1, zp2, zp3]
  refine take_on (i := 23) (d := some 28) (v := undef) rfl (by rfl) (by kernel_rfl) (by kernel_rfl) (by kernel_rfl) (fun _ _ _ h => h) (Or.inr ⟨by kernel_rfl, rfl⟩) (by assumption) ?_
  try simp only [Act.put, zp1, zp2, zp3]
  refine take_on (i := 24) (d := some 29) (v := undef) rfl (by rfl) (by kernel_rfl) (by kernel_rfl) (by kernel_rfl) (fun _ _ _ h => h) (Or.inr ⟨by kernel_rfl, rfl⟩) (by assumption) ?_
  try simp only [Act.put, zp1, zp2, zp3]
  refine take_on (i := 25) (d := some 30) (v := undef) rfl (by rfl) (by kernel_rfl) (by kernel_rfl) (by kernel_rfl) (fun _ _ _ h => h) (Or.inr ⟨by kernel_rfl, rfl⟩) (by assumption) ?_
  try simp only [Act.put, zp1, zp2, zp3]
  refine take_y 26 31 (v := ?_) rfl ?_ ?_; rotate_left; focus (intro w hSw; (try dsimp only at hSw); go_simp; (try rw [if_neg (by omega)]); (try with_reducible rfl))
  try simp only [Act.put, zp1, zp2, zp3]
  refine wpAnyH_done (by kernel_rfl) ?_ _
  clear hHeld
  go_wp2
  go_returns
  exact ⟨by rw [HF.out]; rfl, hbel2⟩
 ·
  have HSH := Lib.hid ((enoughB_iff O E M).1 HD1.out).1
  have KL : Hid (∀ w : World, Calls Tryz.prog 60 #[.agg #[.int .i64 O, .int .i64 E, .int .i64 M]] w fun e w' => e = .returned (.int .i64 L) ∧ Below w.heap.size w w') := fun w => (l4Lines_any O E M w HSH.out).mono fun e w' h => by rw [HLE.out] at h; exact h
  have KP : Hid (∀ W : World, Below w.heap.size w W → Calls Tryz.prog 59 #[.slice a1 n c1] W fun e w' => e = .returned (.bool d2) ∧ ∃ q, w' = W.drewN q) := fun W hW => (sPlanValid_any _ ps W (by have := HR.out.plan.below hW; exact this) HL.out).mono fun e w' h => by rw [HD2.out] at h; exact h
  have KC : Hid (∀ W : World, Below w.heap.size w W → Calls Tryz.prog 61 #[.agg #[.int .i64 O, .int .i64 E, .int .i64 M], .slice a2 m c2] W fun e w' => e = .returned (.bool d3) ∧ Below W.heap.size W w') := fun W hW => (sCallsValid_any O E M _ cs W (by have := HR.out.calls.below hW; exact this)).mono fun e w' h => by rw [HD3.out] at h; exact h
  refine take_y 5 10 (v := ?_) rfl ?_ ?_; rotate_left; focus (intro w hSw; (try dsimp only at hSw); go_simp; (try rw [if_neg (by omega)]); (try with_reducible rfl))
  try simp only [Act.put, zp1, zp2, zp3]
  refine take_y 6 11 (v := ?_) rfl ?_ ?_; rotate_left; focus (intro w hSw; (try dsimp only at hSw); go_simp; (try rw [if_neg (by omega)]); (try with_reducible rfl))
  try simp only [Act.put, zp1, zp2, zp3]
  refine wpAnyH_ready (rs := [7]) (by kernel_rfl) (by simp) ?_
  refine AllReadyH.cons rfl (fun K hK => ?_) AllReadyH.nil
  go_simp
  refine (KP.out _ hbel2).mono ?_
  rintro e w3 ⟨rfl, q, rfl⟩
  refine hK.out _ _ againA (fun hHeld2 => ?_); clear hHeld hK K; have hHeld := hHeld2; clear hHeld2; (try simp only [Act.put, zp1, zp2, zp3])
  have hbel3 : Below w.heap.size w (w2.drewN q) := below_drewN hbel2 q
  have hB3 := hB2.drewN q
  clear hB2 hbel2 KP
  generalize w2.drewN q = w3 at *
  refine take_y 8 13 (v := ?_) rfl ?_ ?_; rotate_left; focus (intro w hSw; (try dsimp only at hSw); go_simp; (try rw [if_neg (by omega)]); (try with_reducible rfl))
  try simp only [Act.put, zp1, zp2, zp3]
  refine take_y 9 14 (v := ?_) rfl ?_ ?_; rotate_left; focus (intro w hSw; (try dsimp only at hSw); go_simp; (try rw [if_neg (by omega)]); (try with_reducible rfl))
  try simp only [Act.put, zp1, zp2, zp3]
  refine take_y 10 15 (v := ?_) rfl ?_ ?_; rotate_left; focus (intro w hSw; (try dsimp only at hSw); go_simp; (try rw [if_neg (by omega)]); (try with_reducible rfl))
  try simp only [Act.put, zp1, zp2, zp3]
  cases d2
  ·
   have HF := Lib.hid (ex_plan (O := O) (E := E) (M := M) (cs := cs) HD2.out)
   refine take_on (i := 11) (d := some 16) (v := undef) rfl (by rfl) (by kernel_rfl) (by kernel_rfl) (by kernel_rfl) (fun _ _ _ h => h) (Or.inr ⟨by kernel_rfl, rfl⟩) (by assumption) ?_
   try simp only [Act.put, zp1, zp2, zp3]
   refine take_on (i := 12) (d := some 17) (v := undef) rfl (by rfl) (by kernel_rfl) (by kernel_rfl) (by kernel_rfl) (fun _ _ _ h => h) (Or.inr ⟨by kernel_rfl, rfl⟩) (by assumption) ?_
   try simp only [Act.put, zp1, zp2, zp3]
   refine take_on (i := 13) (d := some 18) (v := undef) rfl (by rfl) (by kernel_rfl) (by kernel_rfl) (by kernel_rfl) (fun _ _ _ h => h) (Or.inr ⟨by kernel_rfl, rfl⟩) (by assumption) ?_
   try simp only [Act.put, zp1, zp2, zp3]
   refine take_on (i := 14) (d := some 19) (v := undef) rfl (by rfl) (by kernel_rfl) (by kernel_rfl) (by kernel_rfl) (fun _ _ _ h => h) (Or.inr ⟨by kernel_rfl, rfl⟩) (by assumption) ?_
   try simp only [Act.put, zp1, zp2, zp3]
   refine take_on (i := 15) (d := some 20) (v := undef) rfl (by rfl) (by kernel_rfl) (by kernel_rfl) (by kernel_rfl) (fun _ _ _ h => h) (Or.inr ⟨by kernel_rfl, rfl⟩) (by assumption) ?_
   try simp only [Act.put, zp1, zp2, zp3]
   refine take_on (i := 16) (d := some 21) (v := undef) rfl (by rfl) (by kernel_rfl) (by kernel_rfl) (by kernel_rfl) (fun _ _ _ h => h) (Or.inr ⟨by kernel_rfl, rfl⟩) (by assumption) ?_
   try simp only [Act.put, zp1, zp2, zp3]
   refine take_on (i := 17) (d := some 22) (v := undef) rfl (by rfl) (by kernel_rfl) (by kernel_rfl) (by kernel_rfl) (fun _ _ _ h => h) (Or.inr ⟨by kernel_rfl, rfl⟩) (by assumption) ?_
   try simp only [Act.put, zp1, zp2, zp3]
   refine take_y 18 23 (v := ?_) rfl ?_ ?_; rotate_left; focus (intro w hSw; (try dsimp only at hSw); go_simp; (try rw [if_neg (by omega)]); (try with_reducible rfl))
   try simp only [Act.put, zp1, zp2, zp3]
   refine take_y 19 24 (v := ?_) rfl ?_ ?_; rotate_left; focus (intro w hSw; (try dsimp only at hSw); go_simp; (try rw [if_neg (by omega)]); (try with_reducible rfl))
   try simp only [Act.put, zp1, zp2, zp3]
   refine take_on (i := 20) (d := some 25) (v := undef) rfl (by rfl) (by kernel_rfl) (by kernel_rfl) (by kernel_rfl) (fun _ _ _ h => h) (Or.inr ⟨by kernel_rfl, rfl⟩) (by assumption) ?_
   try simp only [Act.put, zp1, zp2, zp3]
   refine take_on (i := 21) (d := some 26) (v := undef) rfl (by rfl) (by kernel_rfl) (by kernel_rfl) (by kernel_rfl) (fun _ _ _ h => h) (Or.inr ⟨by kernel_rfl, rfl⟩) (by assumption) ?_
   try simp only [Act.put, zp1, zp2, zp3]
   refine take_on (i := 22) (d := some 27) (v := undef) rfl (by rfl) (by kernel_rfl) (by kernel_rfl) (by kernel_rfl) (fun _ _ _ h => h) (Or.inr ⟨by kernel_rfl, rfl⟩) (by assumption) ?_
   try simp only [Act.put, zp1, zp2, zp3]
   refine take_on (i := 23) (d := some 28) (v := undef) rfl (by rfl) (by kernel_rfl) (by kernel_rfl) (by kernel_rfl) (fun _ _ _ h => h) (Or.inr ⟨by kernel_rfl, rfl⟩) (by assumption) ?_
   try simp only [Act.put, zp1, zp2, zp3]
   refine take_on (i := 24) (d := some 29) (v := undef) rfl (by rfl) (by kernel_rfl) (by kernel_rfl) (by kernel_rfl) (fun _ _ _ h => h) (Or.inr ⟨by kernel_rfl, rfl⟩) (by assumption) ?_
   try simp only [Act.put, zp1, zp2, zp3]
   refine take_on (i := 25) (d := some 30) (v := undef) rfl (by rfl) (by kernel_rfl) (by kernel_rfl) (by kernel_rfl) (fun _ _ _ h => h) (Or.inr ⟨by kernel_rfl, rfl⟩) (by assumption) ?_
   try simp only [Act.put, zp1, zp2, zp3]
   refine take_y 26 31 (v := ?_) rfl ?_ ?_; rotate_left; focus (intro w hSw; (try dsimp only at hSw); go_simp; (try rw [if_neg (by omega)]); (try with_reducible rfl))
   try simp only [Act.put, zp1, zp2, zp3]
   refine wpAnyH_done (by kernel_rfl) ?_ _
   clear hHeld
   go_wp2
   go_returns
   exact ⟨by rw [HF.out]; rfl, hbel3⟩
  ·
   skip
   refine take_y 11 16 (v := ?_) rfl ?_ ?_; rotate_left; focus (intro w hSw; (try dsimp only at hSw); go_simp; (try rw [if_neg (by omega)]); (try with_reducible rfl))
   try simp only [Act.put, zp1, zp2, zp3]
   refine take_y 12 17 (v := ?_) rfl ?_ ?_; rotate_left; focus (intro w hSw; (try dsimp only at hSw); go_simp; (try rw [if_neg (by omega)]); (try with_reducible rfl))
   try simp only [Act.put, zp1, zp2, zp3]
   refine take_y 13 18 (v := ?_) rfl ?_ ?_; rotate_left; focus (intro w hSw; (try dsimp only at hSw); go_simp; (try rw [if_neg (by omega)]); (try with_reducible rfl))
   try simp only [Act.put, zp1, zp2, zp3]
   refine take_y 14 19 (v := ?_) rfl ?_ ?_; rotate_left; focus (intro w hSw; (try dsimp only at hSw); go_simp; (try rw [if_neg (by omega)]); (try with_reducible rfl))
   try simp only [Act.put, zp1, zp2, zp3]
   refine take_y 15 20 (v := ?_) rfl ?_ ?_; rotate_left; focus (intro w hSw; (try dsimp only at hSw); go_simp; (try rw [if_neg (by omega)]); (try with_reducible rfl))
   try simp only [Act.put, zp1, zp2, zp3]
   refine wpAnyH_ready (rs := [16]) (by kernel_rfl) (by simp) ?_
   refine AllReadyH.cons rfl (fun K hK => ?_) AllReadyH.nil
   go_simp
   refine (KL.out _).mono ?_
   rintro e w4 ⟨rfl, hb4⟩
   refine hK.out _ _ againA (fun hHeld2 => ?_); clear hHeld hK K; have hHeld := hHeld2; clear hHeld2; (try simp only [Act.put, zp1, zp2, zp3])
   have hbel4 : Below w.heap.size w w4 := by (exact grownA)
   have hB4 := hB3.belowAll hb4
   clear hB3 hbel3 hb4 KL
   by_cases hlen : (n : Int) = L
   ·
    have hq : ((n : Int) != L) = false := by simpa using hlen
    have hqd : decide ((n : Int) = L) = true := by simpa using hlen
    have HLEN := Lib.hid hlen
    clear hlen
    refine take_y 17 22 (v := ?_) rfl ?_ ?_; rotate_left; focus (intro w hSw; (try dsimp only at hSw); go_simp; (try rw [if_neg (by omega)]); (try with_reducible rfl))
    try simp only [Act.put, zp1, zp2, zp3]
    refine take_y 18 23 (v := ?_) rfl ?_ ?_; rotate_left; focus (intro w hSw; (try dsimp only at hSw); go_simp; (try rw [if_neg (by omega)]); (try with_reducible rfl))
    try simp only [Act.put, zp1, zp2, zp3]
    refine take_y 19 24 (v := ?_) rfl ?_ ?_; rotate_left; focus (intro w hSw; (try dsimp only at hSw); go_simp; (try rw [if_neg (by omega)]); (try with_reducible rfl))
    try simp only [Act.put, zp1, zp2, zp3]
    refine take_y 20 25 (v := ?_) rfl ?_ ?_; rotate_left; focus (intro w hSw; (try dsimp only at hSw); go_simp; (try rw [if_neg (by omega)]); (try with_reducible rfl))
    try simp only [Act.put, zp1, zp2, zp3]
    refine take_y 21 26 (v := ?_) rfl ?_ ?_; rotate_left; focus (intro w hSw; (try dsimp only at hSw); go_simp; (try rw [if_neg (by omega)]); (try with_reducible rfl))
    try simp only [Act.put, zp1, zp2, zp3]
    refine take_y 22 27 (v := ?_) rfl ?_ ?_; rotate_left; focus (intro w hSw; (try dsimp only at hSw); go_simp; (try rw [if_neg (by omega)]); (try with_reducible rfl))
    try simp only [Act.put, zp1, zp2, zp3]
    refine take_y 23 28 (v := ?_) rfl ?_ ?_; rotate_left; focus (intro w hSw; (try dsimp only at hSw); go_simp; (try rw [if_neg (by omega)]); (try with_reducible rfl))
    try simp only [Act.put, zp1, zp2, zp3]
    refine wpAnyH_ready (rs := [24]) (by kernel_rfl) (by simp) ?_
    refine AllReadyH.cons rfl (fun K hK => ?_) AllReadyH.nil
    go_simp
    refine (KC.out _ hbel4).mono ?_
    rintro e w5 ⟨rfl, hb5⟩
    refine hK.out _ _ againA (fun hHeld2 => ?_); clear hHeld hK K; have hHeld := hHeld2; clear hHeld2; (try simp only [Act.put, zp1, zp2, zp3])
    have hbel5 : Below w.heap.size w w5 := by (exact grownA)
    have hB5 := hB4.belowAll hb5
    clear hB4 hbel4 hb5 KC
    refine take_y 25 30 (v := ?_) rfl ?_ ?_; rotate_left; focus (intro w hSw; (try dsimp only at hSw); go_simp; (try rw [if_neg (by omega)]); (try with_reducible rfl))
    try simp only [Act.put, zp1, zp2, zp3]
    refine take_y 26 31 (v := ?_) rfl ?_ ?_; rotate_left; focus (intro w hSw; (try dsimp only at hSw); go_simp; (try rw [if_neg (by omega)]); (try with_reducible rfl))
    try simp only [Act.put, zp1, zp2, zp3]
    refine wpAnyH_done (by kernel_rfl) ?_ _
    clear hHeld
    cases d3
    ·
     have HF := Lib.hid (ex_calls (ps := ps) HD3.out)
     go_wp2
     go_returns
     exact ⟨by rw [HF.out]; rfl, hbel5⟩
    ·
     have HOK := Lib.hid ((callsB_iff O E M cs).1 HD3.out)
     obtain ⟨p0, p1, p2, p3, p4, _, _, _, _, _, plt⟩ := hB5.five
     go_wp2_with fail
     go_loopw [3] (fun i wr => ∃ k q : Nat, k ≤ m ∧ i = .int .i64 k ∧ Hid (SprTo cs k) ∧ wr = w5.drewN q) (fun i _ => m - (intOf i).toNat)
     case atStart => exact ⟨0, 0, by omega, rfl, fun i j c d h => absurd h (by omega), rfl⟩
     case round =>
      obtain ⟨k, q, hk, rfl, hpt, rfl⟩ := hrel
      by_cases hkm : k < m
      ·
       rcases hc2 with hc2 | ⟨b, off, rfl, hb, hc2⟩
       ·
        omega
       obtain ⟨c, hc⟩ : ∃ c, cs[k]? = some c := ⟨_, List.getElem?_eq_getElem (by rw [HM.out]; omega)⟩
       obtain ⟨g1, _, _⟩ := ccells_at cs k c hc
       have k1 : w5.cell? ⟨b, off + k * 3, none⟩ = some (.int .i64 c.1) := by rw [hbel5.cell (p := ⟨b, off + k * 3, none⟩) hb, hc2 _ (by omega), g1]
       have HC := Lib.hid hc
       have HC2 := Lib.hid hc2
       clear hc g1 hc2
       have i1 : (0 : Int) ≤ (k : Int) := by omega
       have i2 : (k : Int) < (m : Int) := by omega
       go_wp2_with fail
       go_loopw [4] (fun j wi => ∃ i q : Nat, i ≤ m ∧ j = .int .i64 i ∧ Hid (∀ (j : Nat) (d : Cl), j < i → cs[j]? = some d → c.1 ≠ d.2.1) ∧ wi = w5.drewN q) (fun j _ => m - (intOf j).toNat)
       case atStart => exact ⟨0, q, by omega, rfl, fun i d h => absurd h (by omega), rfl⟩
       case round =>
        obtain ⟨i, q2, hi, rfl, hne, rfl⟩ := hrel
        by_cases him : i < m
        ·
         obtain ⟨d, hd⟩ : ∃ c, cs[i]? = some c := ⟨_, List.getElem?_eq_getElem (by rw [HM.out]; omega)⟩
         obtain ⟨_, g2, _⟩ := ccells_at cs i d hd
         have k2 : w5.cell? ⟨b, off + i * 3 + 1, none⟩ = some (.int .i64 d.2.1) := by rw [Nat.add_assoc, hbel5.cell (p := ⟨b, off + (i * 3 + 1), none⟩) hb, HC2.out _ (by omega), g2]
         have HD := Lib.hid hd
         clear hd g2
         have i3 : (0 : Int) ≤ (i : Int) := by omega
         have i4 : (i : Int) < (m : Int) := by omega
         by_cases hcd : c.1 = d.2.1
         ·
          have HF := Lib.hid (part_no (O := O) (E := E) (M := M) (ps := ps) (List.mem_of_getElem? HC.out) (List.mem_of_getElem? HD.out) hcd)
          have hq1 : (c.1 == d.2.1) = true := by simpa using hcd
          clear hcd
          go_wp2_with fail
          go_quiet (fail)
          go_wp2
          go_returns
          exact ⟨by rw [HF.out]; rfl, below_drewN (below_drewN hbel5 _) _⟩
         ·
          have hq1 : (c.1 == d.2.1) = false := by simpa using hcd
          have HST : Hid (∀ (j : Nat) (d : Cl), j < i + 1 → cs[j]? = some d → c.1 ≠ d.2.1) := by
           intro j d' hj hd'
           by_cases e : j = i
           ·
            subst e; rw [HD.out] at hd'; cases hd'; exact hcd
           ·
            exact hne.out j d' (by omega) hd'
          clear hcd
          go_wp2_with fail
          go_quiet (fail)
          go_wp2
          go_roundw
          case rel => exact ⟨i + 1, _, by omega, by go_num, HST.out, rfl⟩
          case measure => simp [intOf]; omega
        ·
         obtain rfl : i = m := by omega
         have HST : Hid (SprTo cs (k + 1)) := by
          intro i' j' c' d' hi' hc' hd' e
          by_cases e2 : i' = k
          ·
           subst e2; have := HC.out; rw [hc'] at this; cases this
           exact hne.out j' d' (by have := (List.getElem?_eq_some_iff.1 hd').1; rw [HM.out] at this; exact this) hd' e
          ·
           exact hpt.out i' j' c' d' (by omega) hc' hd' e
         go_wp2_with fail
         go_roundw
         case rel => exact ⟨k + 1, _, by omega, by go_num, HST.out, rfl⟩
         case measure => simp [intOf]; omega
      ·
       obtain rfl : k = m := by omega
       have HF : Hid (exB O E M ps cs = true) := (exB_iff _ _ _ _ _).2 ⟨HOK.out, ((enoughB_iff O E M).1 HD1.out).2, (planB_iff ps).1 HD2.out, by rw [HN.out, HLE.out]; exact HLEN.out, SprTo.all (by rw [HM.out]; exact hpt.out)⟩
       go_wp2
       go_returns
       exact ⟨by rw [HF.out]; rfl, below_drewN hbel5 _⟩
   ·
    have HF := Lib.hid (ex_len (E := E) (O := O) (M := M) (ps := ps) (cs := cs) (by rw [HN.out, HLE.out]; exact hlen))
    have hq : ((n : Int) != L) = true := by simpa using hlen
    have hqd : decide ((n : Int) = L) = false := by simpa using hlen
    refine take_y 17 22 (v := ?_) rfl ?_ ?_; rotate_left; focus (intro w hSw; (try dsimp only at hSw); go_simp; (try rw [if_neg (by omega)]); (try with_reducible rfl))
    try simp only [Act.put, zp1, zp2, zp3]
    refine take_y 18 23 (v := ?_) rfl ?_ ?_; rotate_left; focus (intro w hSw; (try dsimp only at hSw); go_simp; (try rw [if_neg (by omega)]); (try with_reducible rfl))
    try simp only [Act.put, zp1, zp2, zp3]
    refine take_y 19 24 (v := ?_) rfl ?_ ?_; rotate_left; focus (intro w hSw; (try dsimp only at hSw); go_simp; (try rw [if_neg (by omega)]); (try with_reducible rfl))
    try simp only [Act.put, zp1, zp2, zp3]
    refine take_on (i := 20) (d := some 25) (v := undef) rfl (by rfl) (by kernel_rfl) (by kernel_rfl) (by kernel_rfl) (fun _ _ _ h => h) (Or.inr ⟨by kernel_rfl, rfl⟩) (by assumption) ?_
    try simp only [Act.put, zp1, zp2, zp3]
    refine take_on (i := 21) (d := some 26) (v := undef) rfl (by rfl) (by kernel_rfl) (by kernel_rfl) (by kernel_rfl) (fun _ _ _ h => h) (Or.inr ⟨by kernel_rfl, rfl⟩) (by assumption) ?_
    try simp only [Act.put, zp1, zp2, zp3]
    refine take_on (i := 22) (d := some 27) (v := undef) rfl (by rfl) (by kernel_rfl) (by kernel_rfl) (by kernel_rfl) (fun _ _ _ h => h) (Or.inr ⟨by kernel_rfl, rfl⟩) (by assumption) ?_
    try simp only [Act.put, zp1, zp2, zp3]
    refine take_on (i := 23) (d := some 28) (v := undef) rfl (by rfl) (by kernel_rfl) (by kernel_rfl) (by kernel_rfl) (fun _ _ _ h => h) (Or.inr ⟨by kernel_rfl, rfl⟩) (by assumption) ?_
    try simp only [Act.put, zp1, zp2, zp3]
    refine take_on (i := 24) (d := some 29) (v := undef) rfl (by rfl) (by kernel_rfl) (by kernel_rfl) (by kernel_rfl) (fun _ _ _ h => h) (Or.inr ⟨by kernel_rfl, rfl⟩) (by assumption) ?_
    try simp only [Act.put, zp1, zp2, zp3]
    refine take_on (i := 25) (d := some 30) (v := undef) rfl (by rfl) (by kernel_rfl) (by kernel_rfl) (by kernel_rfl) (fun _ _ _ h => h) (Or.inr ⟨by kernel_rfl, rfl⟩) (by assumption) ?_
    try simp only [Act.put, zp1, zp2, zp3]
    refine take_y 26 31 (v := ?_) rfl ?_ ?_; rotate_left; focus (intro w hSw; (try dsimp only at hSw); go_simp; (try rw [if_neg (by omega)]); (try with_reducible rfl))
    try simp only [Act.put, zp1, zp2, zp3]
    refine wpAnyH_done (by kernel_rfl) ?_ _
    clear hHeld
    go_wp2
    go_returns
    exact ⟨by rw [HF.out]; rfl, hbel4⟩

end Go.Proofs.YtedadhoneebfnaaGreatDoor
