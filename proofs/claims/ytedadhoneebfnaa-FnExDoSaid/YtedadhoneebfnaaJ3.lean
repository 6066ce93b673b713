/- Joined texts: Ew, Lp, Mt8. -/
import Derived.Test.YtedadhoneebfnaaEv
import Derived.Test.YtedadhoneebfnaaCv2
import Derived.Test.YtedadhoneebfnaaJ1
import Derived.Test.YtedadhoneebfnaaRows
import Derived.Handy
import Derived.StillTailTactics
import Derived.Deep.QuietTactic
import Derived.BigQuiet
import Derived.Laws.IdiomStrings
set_option linter.unusedSimpArgs false
set_option linter.unusedVariables false
/- Contract of ExchangeValid of the reference. -/
namespace Go.Proofs.Ytedadhoneebfnaa
open Go.RowKit

set_option maxRecDepth 100000 in
set_option maxHeartbeats 10000000 in
theorem sExchangeValid_any (O E M : Int) (vp vc : Value) (ps : List ByteArray) (cs : List Cl) (w : World) (hR : ExRd w vp vc ps cs) (hL : StLen ps) :
  Calls Try.prog 18 #[.agg #[.int .i64 O, .int .i64 E, .int .i64 M, vp, vc]] w fun e w' => e = .returned (.bool (exB O E M ps cs)) ∧ Below w.heap.size w w' := by
 obtain ⟨a1, c1, rfl, hl1, hm1, hn1, hc1⟩ := hR.plan.open1
 obtain ⟨hl2, hm2, a2, c2, rfl, hn2, hc2⟩ := hR.calls
 unfold maxLen at hm1 hm2
 obtain ⟨n, hn⟩ : ∃ n, ps.length = n := ⟨_, rfl⟩
 obtain ⟨m, hm⟩ : ∃ m, cs.length = m := ⟨_, rfl⟩
 have hB := Blk.new (w := w) (cs := #[.int .i64 O, .int .i64 E, .int .i64 M, .slice a1 ps.length c1, .slice a2 cs.length c2]) (T := 33) rfl
 have hbel0 : Below w.heap.size w (w.alloc (.cells #[.int .i64 O, .int .i64 E, .int .i64 M, .slice a1 ps.length c1, .slice a2 cs.length c2] 33)) := by (exact grownA)
 have HR := Lib.hid hR
 have HL := Lib.hid hL
 rw [hn, hm] at hB hbel0 HR ⊢
 rw [hn] at hm1 hn1
 rw [hm] at hm2 hn2 hc2
 have HN := Lib.hid hn
 have HM := Lib.hid hm
 clear hn hm hl1 hl2 hR hL hc1
 obtain ⟨p0, p1, p2, p3, p4, _, _, _, _, _, plt⟩ := hB.five
 obtain ⟨d1, hd1⟩ : ∃ d, enoughB O E M = d := ⟨_, rfl⟩
 obtain ⟨d2, hd2⟩ : ∃ d, planB ps = d := ⟨_, rfl⟩
 obtain ⟨d3, hd3⟩ : ∃ d, callsB O E M cs = d := ⟨_, rfl⟩
 obtain ⟨L, hLE⟩ : ∃ L, O * E = L := ⟨_, rfl⟩
 have K1 : Hid (∀ w : World, Calls Try.prog 63 #[.agg #[.int .i64 O, .int .i64 E, .int .i64 M]] w fun e w' => e = .returned (.bool d1) ∧ Below w.heap.size w w') := fun w => (sEnough_any O E M w).mono fun e w' h => by rw [hd1] at h; exact h
 have HD1 := Lib.hid hd1
 have HD2 := Lib.hid hd2
 have HD3 := Lib.hid hd3
 have HLE := Lib.hid hLE
 clear hd1 hd2 hd3 hLE
 go_enter Try.func18, Try.ntmps18
 go_wp2_with fail
 refine wp_region_held_drew (S := fun w' => w'.cell? ⟨w.heap.size, 0, none⟩ = some (.int .i64 O) ∧ w'.cell? ⟨w.heap.size, 1, none⟩ = some (.int .i64 E) ∧ w'.cell? ⟨w.heap.size, 2, none⟩ = some (.int .i64 M) ∧ w'.cell? ⟨w.heap.size, 3, none⟩ = some (.slice a1 n c1) ∧ w'.cell? ⟨w.heap.size, 4, none⟩ = some (.slice a2 m c2)) (by kernel_rfl) (by (try dsimp only); (exact keepA)) (fun hHeld => ?_)
 refine take_y 0 5 (v := ?_) rfl ?_ ?_; rotate_left; focus (intro w hSw; (try dsimp only at hSw); go_simp; (try rw [if_neg (by omega)]); (try with_reducible rfl))
 try simp only [Act.put, zp1, zp2, zp3]
 refine take_y 1 6 (v := ?_) rfl ?_ ?_; rotate_left; focus (intro w hSw; (try dsimp only at hSw); go_simp; (try rw [if_neg (by omega)]); (try with_reducible rfl))
 try simp only [Act.put, zp1, zp2, zp3]
 refine wpAnyH_ready (rs := [2]) (by kernel_rfl) (by simp) ?_
 refine AllReadyH.cons rfl (fun K hK => ?_) AllReadyH.nil
 go_simp
 refine (K1.out _).mono ?_
 rintro e w2 ⟨rfl, hb2⟩
 refine hK.out _ _ againA (fun hHeld2 => ?_); clear hHeld hK K; have hHeld := hHeld2; clear hHeld2; (try simp only [Act.put, zp1, zp2, zp3])
 have hbel2 : Below w.heap.size w w2 := by (exact grownA)
 have hB2 := (hB.drew).belowAll hb2
 clear hB hbel0 p0 p1 p2 p3 p4 plt hb2 K1
 refine take_y 3 8 (v := ?_) rfl ?_ ?_; rotate_left; focus (intro w hSw; (try dsimp only at hSw); go_simp; (try rw [if_neg (by omega)]); (try with_reducible rfl))
 try simp only [Act.put, zp1, zp2, zp3]
 refine take_y 4 9 (v := ?_) rfl ?_ ?_; rotate_left; focus (intro w hSw; (try dsimp only at hSw); go_simp; (try rw [if_neg (by omega)]); (try with_reducible rfl))
 try simp only [Act.put, zp1, zp2, zp3]
 cases d1
 ·
  have HF := Lib.hid (ex_en (ps := ps) (cs := cs) HD1.out)
  refine take_on (i := 5) (d := some 10) (v := undef) rfl (by rfl) (by kernel_rfl) (by kernel_rfl) (by kernel_rfl) (fun _ _ _ h => h) (Or.inr ⟨by kernel_rfl, rfl⟩) (by assumption) ?_
  try simp only [Act.put, zp1, zp2, zp3]
  refine take_on (i := 6) (d := some 11) (v := undef) rfl (by rfl) (by kernel_rfl) (by kernel_rfl) (by kernel_rfl) (fun _ _ _ h => h) (Or.inr ⟨by kernel_rfl, rfl⟩) (by assumption) ?_
  try simp only [Act.put, zp1, zp2, zp3]
  refine take_on (i := 7) (d := some 12) (v := undef) rfl (by rfl) (by kernel_rfl) (by kernel_rfl) (by kernel_rfl) (fun _ _ _ h => h) (Or.inr ⟨by kernel_rfl, rfl⟩) (by assumption) ?_
  try simp only [Act.put, zp1, zp2, zp3]
  refine take_on (i := 8) (d := some 13) (v := undef) rfl (by rfl) (by kernel_rfl) (by kernel_rfl) (by kernel_rfl) (fun _ _ _ h => h) (Or.inr ⟨by kernel_rfl, rfl⟩) (by assumption) ?_
  try simp only [Act.put, zp1, zp2, zp3]
  refine take_y 9 14 (v := ?_) rfl ?_ ?_; rotate_left; focus (intro w hSw; (try dsimp only at hSw); go_simp; (try rw [if_neg (by omega)]); (try with_reducible rfl))
  try simp only [Act.put, zp1, zp2, zp3]
  refine take_y 10 15 (v := ?_) rfl ?_ ?_; rotate_left; focus (intro w hSw; (try dsimp only at hSw); go_simp; (try rw [if_neg (by omega)]); (try with_reducible rfl))
  try simp only [Act.put, zp1, zp2, zp3]
  refine take_on (i := 11) (d := some 16) (v := undef) rfl (by rfl) (by kernel_rfl) (by kernel_rfl) (by kernel_rfl) (fun _ _ _ h => h) (Or.inr ⟨by kernel_rfl, rfl⟩) (by assumption) ?_
  try simp only [Act.put, zp1, zp2, zp3]
  refine take_on (i := 12) (d := some 17) (v := undef) rfl (by rfl) (by kernel_rfl) (by kernel_rfl) (by kernel_rfl) (fun _ _ _ h => h) (Or.inr ⟨by kernel_rfl, rfl⟩) (by assumption) ?_
  try simp only [Act.put, zp1, zp2, zp3]
  refine take_on (i := 13) (d := some 18) (v := undef) rfl (by rfl) (by kernel_rfl) (by kernel_rfl) (by kernel_rfl) (fun _ _ _ h => h) (Or.inr ⟨by kernel_rfl, rfl⟩) (by assumption) ?_
  try simp only [Act.put, zp1, zp2, zp3]
  refine take_on (i := 14) (d := some 19) (v := undef) rfl (by rfl) (by kernel_rfl) (by kernel_rfl) (by kernel_rfl) (fun _ _ _ h => h) (Or.inr ⟨by kernel_rfl, rfl⟩) (by assumption) ?_
  try simp only [Act.put, zp1, zp2, zp3]
  refine take_on (i := 15) (d := some 20) (v := undef) rfl (by rfl) (by kernel_rfl) (by kernel_rfl) (by kernel_rfl) (fun _ _ _ h => h) (Or.inr ⟨by kernel_rfl, rfl⟩) (by assumption) ?_
  try simp only [Act.put, zp1, zp2, zp3]
  refine take_on (i := 16) (d := some 21) (v := undef) rfl (by rfl) (by kernel_rfl) (by kernel_rfl) (by kernel_rfl) (fun _ _ _ h => h) (Or.inr ⟨by kernel_rfl, rfl⟩) (by assumption) ?_
  try simp only [Act.put, zp1, zp2, zp3]
  refine take_on (i := 17) (d := some 22) (v := undef) rfl (by rfl) (by kernel_rfl) (by kernel_rfl) (by kernel_rfl) (fun _ _ _ h => h) (Or.inr ⟨by kernel_rfl, rfl⟩) (by assumption) ?_
  try simp only [Act.put, zp1, zp2, zp3]
  refine take_y 18 23 (v := ?_) rfl ?_ ?_; rotate_left; focus (intro w hSw; (try dsimp only at hSw); go_simp; (try rw [if_neg (by omega)]); (try with_reducible rfl))
  try simp only [Act.put, zp1, zp2, zp3]
  refine take_y 19 24 (v := ?_) rfl ?_ ?_; rotate_left; focus (intro w hSw; (try dsimp only at hSw); go_simp; (try rw [if_neg (by omega)]); (try with_reducible rfl))
  try simp only [Act.put, zp1, zp2, zp3]
  refine take_on (i := 20) (d := some 25) (v := undef) rfl (by rfl) (by kernel_rfl) (by kernel_rfl) (by kernel_rfl) (fun _ _ _ h => h) (Or.inr ⟨by kernel_rfl, rfl⟩) (by assumption) ?_
  try simp only [Act.put, zp1, zp2, zp3]
  refine take_on (i := 21) (d := some 26) (v := undef) rfl (by rfl) (by kernel_rfl) (by kernel_rfl) (by kernel_rfl) (fun _ _ _ h => h) (Or.inr ⟨by kernel_rfl, rfl⟩) (by assumption) ?_
  try simp only [Act.put, zp1, zp2, zp3]
  refine take_on (i := 22) (d := some 27) (v := undef) rfl (by rfl) (by kernel_rfl) (by kernel_rfl) (by kernel_rfl) (fun _ _ _ h => h) (Or.inr ⟨by kernel_rfl, rfl⟩) (by assumption) ?_
  try simp only [Act.put, zp1, zp2, zp3]
  refine take_on (i := 23) (d := some 28) (v := undef) rfl (by rfl) (by kernel_rfl) (by kernel_rfl) (by kernel_rfl) (fun _ _ _ h => h) (Or.inr ⟨by kernel_rfl, rfl⟩) (by assumption) ?_
  try simp only [Act.put, zp1, zp2, zp3]
  refine take_on (i := 24) (d := some 29) (v := undef) rfl (by rfl) (by kernel_rfl) (by kernel_rfl) (by kernel_rfl) (fun _ _ _ h => h) (Or.inr ⟨by kernel_rfl, rfl⟩) (by assumption) ?_
  try simp only [Act.put, zp1, zp2, zp3]
  refine take_on (i := 25) (d := some 30) (v := undef) rfl (by rfl) (by kernel_rfl) (by kernel_rfl) (by kernel_rfl) (fun _ _ _ h => h) (Or.inr ⟨by kernel_rfl, rfl⟩) (by assumption) ?_
  try simp only [Act.put, zp1, zp2, zp3]
  refine take_y 26 31 (v := ?_) rfl ?_ ?_; rotate_left; focus (intro w hSw; (try dsimp only at hSw); go_simp; (try rw [if_neg (by omega)]); (try with_reducible rfl))
  try simp only [Act.put, zp1, zp2, zp3]
  refine wpAnyH_done (by kernel_rfl) ?_ _
  clear hHeld
  go_wp2
  go_returns
  exact ⟨by rw [HF.out]; rfl, hbel2⟩
 ·
  have HSH := Lib.hid ((enoughB_iff O E M).1 HD1.out).1
  have KL : Hid (∀ w : World, Calls Try.prog 65 #[.agg #[.int .i64 O, .int .i64 E, .int .i64 M]] w fun e w' => e = .returned (.int .i64 L) ∧ Below w.heap.size w w') := fun w => (l4Lines_any O E M w HSH.out).mono fun e w' h => by rw [HLE.out] at h; exact h
  have KP : Hid (∀ W : World, Below w.heap.size w W → Calls Try.prog 64 #[.slice a1 n c1] W fun e w' => e = .returned (.bool d2) ∧ ∃ q, w' = W.drewN q) := fun W hW => (sPlanValid_any _ ps W (by have := HR.out.plan.below hW; exact this) HL.out).mono fun e w' h => by rw [HD2.out] at h; exact h
  have KC : Hid (∀ W : World, Below w.heap.size w W → Calls Try.prog 66 #[.agg #[.int .i64 O, .int .i64 E, .int .i64 M], .slice a2 m c2] W fun e w' => e = .returned (.bool d3) ∧ Below W.heap.size W w') := fun W hW => (sCallsValid_any O E M _ cs W (by have := HR.out.calls.below hW; exact this)).mono fun e w' h => by rw [HD3.out] at h; exact h
  refine take_y 5 10 (v := ?_) rfl ?_ ?_; rotate_left; focus (intro w hSw; (try dsimp only at hSw); go_simp; (try rw [if_neg (by omega)]); (try with_reducible rfl))
  try simp only [Act.put, zp1, zp2, zp3]
  refine take_y 6 11 (v := ?_) rfl ?_ ?_; rotate_left; focus (intro w hSw; (try dsimp only at hSw); go_simp; (try rw [if_neg (by omega)]); (try with_reducible rfl))
  try simp only [Act.put, zp1, zp2, zp3]
  refine wpAnyH_ready (rs := [7]) (by kernel_rfl) (by simp) ?_
  refine AllReadyH.cons rfl (fun K hK => ?_) AllReadyH.nil
  go_simp
  refine (KP.out _ hbel2).mono ?_
  rintro e w3 ⟨rfl, q, rfl⟩
  refine hK.out _ _ againA (fun hHeld2 => ?_); clear hHeld hK K; have hHeld := hHeld2; clear hHeld2; (try simp only [Act.put, zp1, zp2, zp3])
  have hbel3 : Below w.heap.size w (w2.drewN q) := below_drewN hbel2 q
  have hB3 := hB2.drewN q
  clear hB2 hbel2 KP
  generalize w2.drewN q = w3 at *
  refine take_y 8 13 (v := ?_) rfl ?_ ?_; rotate_left; focus (intro w hSw; (try dsimp only at hSw); go_simp; (try rw [if_neg (by omega)]); (try with_reducible rfl))
  try simp only [Act.put, zp1, zp2, zp3]
  refine take_y 9 14 (v := ?_) rfl ?_ ?_; rotate_left; focus (intro w hSw; (try dsimp only at hSw); go_simp; (try rw [if_neg (by omega)]); (try with_reducible rfl))
  try simp only [Act.put, zp1, zp2, zp3]
  refine take_y 10 15 (v := ?_) rfl ?_ ?_; rotate_left; focus (intro w hSw; (try dsimp only at hSw); go_simp; (try rw [if_neg (by omega)]); (try with_reducible rfl))
  try simp only [Act.put, zp1, zp2, zp3]
  cases d2
  ·
   have HF := Lib.hid (ex_plan (O := O) (E := E) (M := M) (cs := cs) HD2.out)
   refine take_on (i := 11) (d := some 16) (v := undef) rfl (by rfl) (by kernel_rfl) (by kernel_rfl) (by kernel_rfl) (fun _ _ _ h => h) (Or.inr ⟨by kernel_rfl, rfl⟩) (by assumption) ?_
   try simp only [Act.put, zp1, zp2, zp3]
   refine take_on (i := 12) (d := some 17) (v := undef) rfl (by rfl) (by kernel_rfl) (by kernel_rfl) (by kernel_rfl) (fun _ _ _ h => h) (Or.inr ⟨by kernel_rfl, rfl⟩) (by assumption) ?_
   try simp only [Act.put, zp1, zp2, zp3]
   refine take_on (i := 13) (d := some 18) (v := undef) rfl (by rfl) (by kernel_rfl) (by kernel_rfl) (by kernel_rfl) (fun _ _ _ h => h) (Or.inr ⟨by kernel_rfl, rfl⟩) (by assumption) ?_
   try simp only [Act.put, zp1, zp2, zp3]
   refine take_on (i := 14) (d := some 19) (v := undef) rfl (by rfl) (by kernel_rfl) (by kernel_rfl) (by kernel_rfl) (fun _ _ _ h => h) (Or.inr ⟨by kernel_rfl, rfl⟩) (by assumption) ?_
   try simp only [Act.put, zp1, zp2, zp3]
   refine take_on (i := 15) (d := some 20) (v := undef) rfl (by rfl) (by kernel_rfl) (by kernel_rfl) (by kernel_rfl) (fun _ _ _ h => h) (Or.inr ⟨by kernel_rfl, rfl⟩) (by assumption) ?_
   try simp only [Act.put, zp1, zp2, zp3]
   refine take_on (i := 16) (d := some 21) (v := undef) rfl (by rfl) (by kernel_rfl) (by kernel_rfl) (by kernel_rfl) (fun _ _ _ h => h) (Or.inr ⟨by kernel_rfl, rfl⟩) (by assumption) ?_
   try simp only [Act.put, zp1, zp2, zp3]
   refine take_on (i := 17) (d := some 22) (v := undef) rfl (by rfl) (by kernel_rfl) (by kernel_rfl) (by kernel_rfl) (fun _ _ _ h => h) (Or.inr ⟨by kernel_rfl, rfl⟩) (by assumption) ?_
   try simp only [Act.put, zp1, zp2, zp3]
   refine take_y 18 23 (v := ?_) rfl ?_ ?_; rotate_left; focus (intro w hSw; (try dsimp only at hSw); go_simp; (try rw [if_neg (by omega)]); (try with_reducible rfl))
   try simp only [Act.put, zp1, zp2, zp3]
   refine take_y 19 24 (v := ?_) rfl ?_ ?_; rotate_left; focus (intro w hSw; (try dsimp only at hSw); go_simp; (try rw [if_neg (by omega)]); (try with_reducible rfl))
   try simp only [Act.put, zp1, zp2, zp3]
   refine take_on (i := 20) (d := some 25) (v := undef) rfl (by rfl) (by kernel_rfl) (by kernel_rfl) (by kernel_rfl) (fun _ _ _ h => h) (Or.inr ⟨by kernel_rfl, rfl⟩) (by assumption) ?_
   try simp only [Act.put, zp1, zp2, zp3]
   refine take_on (i := 21) (d := some 26) (v := undef) rfl (by rfl) (by kernel_rfl) (by kernel_rfl) (by kernel_rfl) (fun _ _ _ h => h) (Or.inr ⟨by kernel_rfl, rfl⟩) (by assumption) ?_
   try simp only [Act.put, zp1, zp2, zp3]
   refine take_on (i := 22) (d := some 27) (v := undef) rfl (by rfl) (by kernel_rfl) (by kernel_rfl) (by kernel_rfl) (fun _ _ _ h => h) (Or.inr ⟨by kernel_rfl, rfl⟩) (by assumption) ?_
   try simp only [Act.put, zp1, zp2, zp3]
   refine take_on (i := 23) (d := some 28) (v := undef) rfl (by rfl) (by kernel_rfl) (by kernel_rfl) (by kernel_rfl) (fun _ _ _ h => h) (Or.inr ⟨by kernel_rfl, rfl⟩) (by assumption) ?_
   try simp only [Act.put, zp1, zp2, zp3]
   refine take_on (i := 24) (d := some 29) (v := undef) rfl (by rfl) (by kernel_rfl) (by kernel_rfl) (by kernel_rfl) (fun _ _ _ h => h) (Or.inr ⟨by kernel_rfl, rfl⟩) (by assumption) ?_
   try simp only [Act.put, zp1, zp2, zp3]
   refine take_on (i := 25) (d := some 30) (v := undef) rfl (by rfl) (by kernel_rfl) (by kernel_rfl) (by kernel_rfl) (fun _ _ _ h => h) (Or.inr ⟨by kernel_rfl, rfl⟩) (by assumption) ?_
   try simp only [Act.put, zp1, zp2, zp3]
   refine take_y 26 31 (v := ?_) rfl ?_ ?_; rotate_left; focus (intro w hSw; (try dsimp only at hSw); go_simp; (try rw [if_neg (by omega)]); (try with_reducible rfl))
   try simp only [Act.put, zp1, zp2, zp3]
   refine wpAnyH_done (by kernel_rfl) ?_ _
   clear hHeld
   go_wp2
   go_returns
   exact ⟨by rw [HF.out]; rfl, hbel3⟩
  ·
   skip
   refine take_y 11 16 (v := ?_) rfl ?_ ?_; rotate_left; focus (intro w hSw; (try dsimp only at hSw); go_simp; (try rw [if_neg (by omega)]); (try with_reducible rfl))
   try simp only [Act.put, zp1, zp2, zp3]
   refine take_y 12 17 (v := ?_) rfl ?_ ?_; rotate_left; focus (intro w hSw; (try dsimp only at hSw); go_simp; (try rw [if_neg (by omega)]); (try with_reducible rfl))
   try simp only [Act.put, zp1, zp2, zp3]
   refine take_y 13 18 (v := ?_) rfl ?_ ?_; rotate_left; focus (intro w hSw; (try dsimp only at hSw); go_simp; (try rw [if_neg (by omega)]); (try with_reducible rfl))
   try simp only [Act.put, zp1, zp2, zp3]
   refine take_y 14 19 (v := ?_) rfl ?_ ?_; rotate_left; focus (intro w hSw; (try dsimp only at hSw); go_simp; (try rw [if_neg (by omega)]); (try with_reducible rfl))
   try simp only [Act.put, zp1, zp2, zp3]
   refine take_y 15 20 (v := ?_) rfl ?_ ?_; rotate_left; focus (intro w hSw; (try dsimp only at hSw); go_simp; (try rw [if_neg (by omega)]); (try with_reducible rfl))
   try simp only [Act.put, zp1, zp2, zp3]
   refine wpAnyH_ready (rs := [16]) (by kernel_rfl) (by simp) ?_
   refine AllReadyH.cons rfl (fun K hK => ?_) AllReadyH.nil
   go_simp
   refine (KL.out _).mono ?_
   rintro e w4 ⟨rfl, hb4⟩
   refine hK.out _ _ againA (fun hHeld2 => ?_); clear hHeld hK K; have hHeld := hHeld2; clear hHeld2; (try simp only [Act.put, zp1, zp2, zp3])
   have hbel4 : Below w.heap.size w w4 := by (exact grownA)
   have hB4 := hB3.belowAll hb4
   clear hB3 hbel3 hb4 KL
   by_cases hlen : (n : Int) = L
   ·
    have hq : ((n : Int) != L) = false := by simpa using hlen
    have hqd : decide ((n : Int) = L) = true := by simpa using hlen
    have HLEN := Lib.hid hlen
    clear hlen
    refine take_y 17 22 (v := ?_) rfl ?_ ?_; rotate_left; focus (intro w hSw; (try dsimp only at hSw); go_simp; (try rw [if_neg (by omega)]); (try with_reducible rfl))
    try simp only [Act.put, zp1, zp2, zp3]
    refine take_y 18 23 (v := ?_) rfl ?_ ?_; rotate_left; focus (intro w hSw; (try dsimp only at hSw); go_simp; (try rw [if_neg (by omega)]); (try with_reducible rfl))
    try simp only [Act.put, zp1, zp2, zp3]
    refine take_y 19 24 (v := ?_) rfl ?_ ?_; rotate_left; focus (intro w hSw; (try dsimp only at hSw); go_simp; (try rw [if_neg (by omega)]); (try with_reducible rfl))
    try simp only [Act.put, zp1, zp2, zp3]
    refine take_y 20 25 (v := ?_) rfl ?_ ?_; rotate_left; focus (intro w hSw; (try dsimp only at hSw); go_simp; (try rw [if_neg (by omega)]); (try with_reducible rfl))
    try simp only [Act.put, zp1, zp2, zp3]
    refine take_y 21 26 (v := ?_) rfl ?_ ?_; rotate_left; focus (intro w hSw; (try dsimp only at hSw); go_simp; (try rw [if_neg (by omega)]); (try with_reducible rfl))
    try simp only [Act.put, zp1, zp2, zp3]
    refine take_y 22 27 (v := ?_) rfl ?_ ?_; rotate_left; focus (intro w hSw; (try dsimp only at hSw); go_simp; (try rw [if_neg (by omega)]); (try with_reducible rfl))
    try simp only [Act.put, zp1, zp2, zp3]
    refine take_y 23 28 (v := ?_) rfl ?_ ?_; rotate_left; focus (intro w hSw; (try dsimp only at hSw); go_simp; (try rw [if_neg (by omega)]); (try with_reducible rfl))
    try simp only [Act.put, zp1, zp2, zp3]
    refine wpAnyH_ready (rs := [24]) (by kernel_rfl) (by simp) ?_
    refine AllReadyH.cons rfl (fun K hK => ?_) AllReadyH.nil
    go_simp
    refine (KC.out _ hbel4).mono ?_
    rintro e w5 ⟨rfl, hb5⟩
    refine hK.out _ _ againA (fun hHeld2 => ?_); clear hHeld hK K; have hHeld := hHeld2; clear hHeld2; (try simp only [Act.put, zp1, zp2, zp3])
    have hbel5 : Below w.heap.size w w5 := by (exact grownA)
    have hB5 := hB4.belowAll hb5
    clear hB4 hbel4 hb5 KC
    refine take_y 25 30 (v := ?_) rfl ?_ ?_; rotate_left; focus (intro w hSw; (try dsimp only at hSw); go_simp; (try rw [if_neg (by omega)]); (try with_reducible rfl))
    try simp only [Act.put, zp1, zp2, zp3]
    refine take_y 26 31 (v := ?_) rfl ?_ ?_; rotate_left; focus (intro w hSw; (try dsimp only at hSw); go_simp; (try rw [if_neg (by omega)]); (try with_reducible rfl))
    try simp only [Act.put, zp1, zp2, zp3]
    refine wpAnyH_done (by kernel_rfl) ?_ _
    clear hHeld
    cases d3
    ·
     have HF := Lib.hid (ex_calls (ps := ps) HD3.out)
     go_wp2
     go_returns
     exact ⟨by rw [HF.out]; rfl, hbel5⟩
    ·
     have HOK := Lib.hid ((callsB_iff O E M cs).1 HD3.out)
     obtain ⟨p0, p1, p2, p3, p4, _, _, _, _, _, plt⟩ := hB5.five
     go_wp2_with fail
     go_loopw [3] (fun i wr => ∃ k q : Nat, k ≤ m ∧ i = .int .i64 k ∧ Hid (SprTo cs k) ∧ wr = w5.drewN q) (fun i _ => m - (intOf i).toNat)
     case atStart => exact ⟨0, 0, by omega, rfl, fun i j c d h => absurd h (by omega), rfl⟩
     case round =>
      obtain ⟨k, q, hk, rfl, hpt, rfl⟩ := hrel
      by_cases hkm : k < m
      ·
       rcases hc2 with hc2 | ⟨b, off, rfl, hb, hc2⟩
       ·
        omega
       obtain ⟨c, hc⟩ : ∃ c, cs[k]? = some c := ⟨_, List.getElem?_eq_getElem (by rw [HM.out]; omega)⟩
       obtain ⟨g1, _, _⟩ := ccells_at cs k c hc
       have k1 : w5.cell? ⟨b, off + k * 3, none⟩ = some (.int .i64 c.1) := by rw [hbel5.cell (p := ⟨b, off + k * 3, none⟩) hb, hc2 _ (by omega), g1]
       have HC := Lib.hid hc
       have HC2 := Lib.hid hc2
       clear hc g1 hc2
       have i1 : (0 : Int) ≤ (k : Int) := by omega
       have i2 : (k : Int) < (m : Int) := by omega
       go_wp2_with fail
       go_loopw [4] (fun j wi => ∃ i q : Nat, i ≤ m ∧ j = .int .i64 i ∧ Hid (∀ (j : Nat) (d : Cl), j < i → cs[j]? = some d → c.1 ≠ d.2.1) ∧ wi = w5.drewN q) (fun j _ => m - (intOf j).toNat)
       case atStart => exact ⟨0, q, by omega, rfl, fun i d h => absurd h (by omega), rfl⟩
       case round =>
        obtain ⟨i, q2, hi, rfl, hne, rfl⟩ := hrel
        by_cases him : i < m
        ·
         obtain ⟨d, hd⟩ : ∃ c, cs[i]? = some c := ⟨_, List.getElem?_eq_getElem (by rw [HM.out]; omega)⟩
         obtain ⟨_, g2, _⟩ := ccells_at cs i d hd
         have k2 : w5.cell? ⟨b, off + i * 3 + 1, none⟩ = some (.int .i64 d.2.1) := by rw [Nat.add_assoc, hbel5.cell (p := ⟨b, off + (i * 3 + 1), none⟩) hb, HC2.out _ (by omega), g2]
         have HD := Lib.hid hd
         clear hd g2
         have i3 : (0 : Int) ≤ (i : Int) := by omega
         have i4 : (i : Int) < (m : Int) := by omega
         by_cases hcd : c.1 = d.2.1
         ·
          have HF := Lib.hid (part_no (O := O) (E := E) (M := M) (ps := ps) (List.mem_of_getElem? HC.out) (List.mem_of_getElem? HD.out) hcd)
          have hq1 : (c.1 == d.2.1) = true := by simpa using hcd
          clear hcd
          go_wp2_with fail
          go_quiet (fail)
          go_wp2
          go_returns
          exact ⟨by rw [HF.out]; rfl, below_drewN (below_drewN hbel5 _) _⟩
         ·
          have hq1 : (c.1 == d.2.1) = false := by simpa using hcd
          have HST : Hid (∀ (j : Nat) (d : Cl), j < i + 1 → cs[j]? = some d → c.1 ≠ d.2.1) := by
           intro j d' hj hd'
           by_cases e : j = i
           ·
            subst e; rw [HD.out] at hd'; cases hd'; exact hcd
           ·
            exact hne.out j d' (by omega) hd'
          clear hcd
          go_wp2_with fail
          go_quiet (fail)
          go_wp2
          go_roundw
          case rel => exact ⟨i + 1, _, by omega, by go_num, HST.out, rfl⟩
          case measure => simp [intOf]; omega
        ·
         obtain rfl : i = m := by omega
         have HST : Hid (SprTo cs (k + 1)) := by
          intro i' j' c' d' hi' hc' hd' e
          by_cases e2 : i' = k
          ·
           subst e2; have := HC.out; rw [hc'] at this; cases this
           exact hne.out j' d' (by have := (List.getElem?_eq_some_iff.1 hd').1; rw [HM.out] at this; exact this) hd' e
          ·
           exact hpt.out i' j' c' d' (by omega) hc' hd' e
         go_wp2_with fail
         go_roundw
         case rel => exact ⟨k + 1, _, by omega, by go_num, HST.out, rfl⟩
         case measure => simp [intOf]; omega
      ·
       obtain rfl : k = m := by omega
       have HF : Hid (exB O E M ps cs = true) := (exB_iff _ _ _ _ _).2 ⟨HOK.out, ((enoughB_iff O E M).1 HD1.out).2, (planB_iff ps).1 HD2.out, by rw [HN.out, HLE.out]; exact HLEN.out, SprTo.all (by rw [HM.out]; exact hpt.out)⟩
       go_wp2
       go_returns
       exact ⟨by rw [HF.out]; rfl, below_drewN hbel5 _⟩
   ·
    have HF := Lib.hid (ex_len (E := E) (O := O) (M := M) (ps := ps) (cs := cs) (by rw [HN.out, HLE.out]; exact hlen))
    have hq : ((n : Int) != L) = true := by simpa using hlen
    have hqd : decide ((n : Int) = L) = false := by simpa using hlen
    refine take_y 17 22 (v := ?_) rfl ?_ ?_; rotate_left; focus (intro w hSw; (try dsimp only at hSw); go_simp; (try rw [if_neg (by omega)]); (try with_reducible rfl))
    try simp only [Act.put, zp1, zp2, zp3]
    refine take_y 18 23 (v := ?_) rfl ?_ ?_; rotate_left; focus (intro w hSw; (try dsimp only at hSw); go_simp; (try rw [if_neg (by omega)]); (try with_reducible rfl))
    try simp only [Act.put, zp1, zp2, zp3]
    refine take_y 19 24 (v := ?_) rfl ?_ ?_; rotate_left; focus (intro w hSw; (try dsimp only at hSw); go_simp; (try rw [if_neg (by omega)]); (try with_reducible rfl))
    try simp only [Act.put, zp1, zp2, zp3]
    refine take_on (i := 20) (d := some 25) (v := undef) rfl (by rfl) (by kernel_rfl) (by kernel_rfl) (by kernel_rfl) (fun _ _ _ h => h) (Or.inr ⟨by kernel_rfl, rfl⟩) (by assumption) ?_
    try simp only [Act.put, zp1, zp2, zp3]
    refine take_on (i := 21) (d := some 26) (v := undef) rfl (by rfl) (by kernel_rfl) (by kernel_rfl) (by kernel_rfl) (fun _ _ _ h => h) (Or.inr ⟨by kernel_rfl, rfl⟩) (by assumption) ?_
    try simp only [Act.put, zp1, zp2, zp3]
    refine take_on (i := 22) (d := some 27) (v := undef) rfl (by rfl) (by kernel_rfl) (by kernel_rfl) (by kernel_rfl) (fun _ _ _ h => h) (Or.inr ⟨by kernel_rfl, rfl⟩) (by assumption) ?_
    try simp only [Act.put, zp1, zp2, zp3]
    refine take_on (i := 23) (d := some 28) (v := undef) rfl (by rfl) (by kernel_rfl) (by kernel_rfl) (by kernel_rfl) (fun _ _ _ h => h) (Or.inr ⟨by kernel_rfl, rfl⟩) (by assumption) ?_
    try simp only [Act.put, zp1, zp2, zp3]
    refine take_on (i := 24) (d := some 29) (v := undef) rfl (by rfl) (by kernel_rfl) (by kernel_rfl) (by kernel_rfl) (fun _ _ _ h => h) (Or.inr ⟨by kernel_rfl, rfl⟩) (by assumption) ?_
    try simp only [Act.put, zp1, zp2, zp3]
    refine take_on (i := 25) (d := some 30) (v := undef) rfl (by rfl) (by kernel_rfl) (by kernel_rfl) (by kernel_rfl) (fun _ _ _ h => h) (Or.inr ⟨by kernel_rfl, rfl⟩) (by assumption) ?_
    try simp only [Act.put, zp1, zp2, zp3]
    refine take_y 26 31 (v := ?_) rfl ?_ ?_; rotate_left; focus (intro w hSw; (try dsimp only at hSw); go_simp; (try rw [if_neg (by omega)]); (try with_reducible rfl))
    try simp only [Act.put, zp1, zp2, zp3]
    refine wpAnyH_done (by kernel_rfl) ?_ _
    clear hHeld
    go_wp2
    go_returns
    exact ⟨by rw [HF.out]; rfl, hbel4⟩

end Go.Proofs.Ytedadhoneebfnaa

/- Contracts of LineOf, PeerOf (program and reference), callOf, slices.Index at strings. -/
namespace Go.Proofs.Ytedadhoneebfnaa
open Go.RowKit

set_option maxHeartbeats 1000000 in
theorem index_any (v : Value) (ps : List ByteArray) (s : ByteArray) (w : World) (hv : Rds w v ps.length 1 (strs ps)) :
  Calls Try.prog 73 #[v, .string s] w fun e w' => e = .returned (.int .i64 (lineL ps s)) ∧ w = w' := by
 obtain ⟨a, ca, rfl, hl1, hm1, hn1, hc1⟩ := hv.open1
 unfold maxLen at hm1
 obtain ⟨n, hn⟩ : ∃ n, ps.length = n := ⟨_, rfl⟩
 rw [hn] at hm1 hn1 hc1 ⊢
 have HN := Lib.hid hn
 clear hn hl1 hv
 go_enter Try.func73, Try.ntmps73
 go_wp2_with fail
 go_loop [8] (fun i => ∃ k : Nat, k ≤ n ∧ i = .int .i64 k ∧ Hid (neTo ps s k)) (fun i => n - (intOf i).toNat)
 case atStart => exact ⟨0, by omega, rfl, fun j p h => absurd h (by omega)⟩
 case round =>
  obtain ⟨k, hk, rfl, hne⟩ := hrel
  by_cases hkn : k < n
  ·
   rcases hc1 with hc1 | ⟨b, off, rfl, hb, hc1⟩
   ·
    omega
   obtain ⟨t, ht⟩ : ∃ s, ps[k]? = some s := ⟨_, List.getElem?_eq_getElem (by rw [HN.out]; omega)⟩
   have c1 := hc1 k hkn
   rw [strs_at ps k t ht] at c1
   have HT := Lib.hid ht
   clear hc1 ht
   by_cases hst : s = t
   ·
    have hsb := str_eq hst
    subst hst
    have HF := Lib.hid (line_at hne.out HT.out)
    go_wp2
    go_returns
    exact ⟨by rw [HF.out]; rfl, rfl⟩
   ·
    have hsb := str_ne hst
    have HST : Hid (neTo ps s (k + 1)) := by
     intro j p hj hp
     by_cases e : j = k
     ·
      subst e; rw [HT.out] at hp; cases hp; exact fun e => hst e.symm
     ·
      exact hne.out j p (by omega) hp
    clear hst
    go_wp2_with fail
    go_round
    case rel => exact ⟨k + 1, by omega, by go_num, HST.out⟩
    case measure => simp [intOf]; omega
  ·
   obtain rfl : k = n := by omega
   have HF := Lib.hid (line_none (s := s) (by rw [HN.out]; exact hne.out))
   go_wp2
   go_returns
   exact ⟨by rw [HF.out]; rfl, rfl⟩

noncomputable def lineX (O E M : Int) (ps : List ByteArray) (cs : List Cl) (s : ByteArray) : Int := if exB O E M ps cs = true then lineL ps s else -1
noncomputable def peerX (O E M : Int) (ps : List ByteArray) (cs : List Cl) (x : Int) : Int := if exB O E M ps cs = true then peerL cs x else -1

set_option maxHeartbeats 1000000 in
theorem iLineOf_any (O E M : Int) (vp vc : Value) (ps : List ByteArray) (cs : List Cl) (s : ByteArray) (w : World) (hR : ExRd w vp vc ps cs) (hL : StLen ps) :
  Calls Try.prog 23 #[.agg #[.int .i64 O, .int .i64 E, .int .i64 M, vp, vc], .string s] w fun e w' => e = .returned (.int .i64 (lineX O E M ps cs s)) ∧ Below w.heap.size w w' := by
 have hB := Blk.new (w := w) (cs := #[.int .i64 O, .int .i64 E, .int .i64 M, vp, vc]) (T := 33) rfl
 have hbel0 : Below w.heap.size w (w.alloc (.cells #[.int .i64 O, .int .i64 E, .int .i64 M, vp, vc] 33)) := by (exact grownA)
 have HR := Lib.hid hR
 have HL := Lib.hid hL
 obtain ⟨a1, c1, rfl, _⟩ := hR.plan.open1
 obtain ⟨_, _, a2, c2, rfl, _⟩ := hR.calls
 clear hR hL
 go_enter Try.func23, Try.ntmps23
 go_wp2_with fail
 refine (iExchangeValid_any O E M _ _ ps cs _ (HR.out.below hbel0) HL.out).mono ?_
 rintro e w1 ⟨rfl, hb⟩
 have hbel1 : Below w.heap.size w w1 := by (exact grownA)
 have hB1 := hB.belowAll hb
 clear hB hb hbel0
 obtain ⟨p0, p1, p2, p3, p4, _, _, _, _, _, plt⟩ := hB1.five
 obtain ⟨d, hd⟩ : ∃ d, exB O E M ps cs = d := ⟨_, rfl⟩
 have HD := Lib.hid hd
 rw [hd]
 clear hd
 cases d
 ·
  have HF : Hid (lineX O E M ps cs s = -1) := by unfold Hid lineX; rw [HD.out]; rfl
  go_wp2
  go_returns
  exact ⟨by rw [HF.out]; rfl, hbel1⟩
 ·
  have HF : Hid (lineX O E M ps cs s = lineL ps s) := by unfold Hid lineX; rw [HD.out]; rfl
  go_wp2_with fail
  refine (index_any _ ps s _ (HR.out.plan.below hbel1)).mono ?_
  rintro e w2 ⟨rfl, rfl⟩
  go_wp2
  go_returns
  exact ⟨by rw [HF.out]; rfl, hbel1⟩

/-- Where the call of a line is. -/
def CallAt (cs : List Cl) (x r : Int) : Prop := (r = -1 ∧ cs.find? (hasE x) = none) ∨ ∃ (k : Nat) (c : Cl), r = k ∧ cs[k]? = some c ∧ cs.find? (hasE x) = some c ∧ c ∈ cs
def CallOfPost (cs : List Cl) (x : Int) (w : World) (e : Ending) (w' : World) : Prop := ∃ r : Int, e = .returned (.int .i64 r) ∧ CallAt cs x r ∧ Below w.heap.size w w'

set_option maxHeartbeats 1000000 in
theorem callOf_any (O E M : Int) (vp vc : Value) (cs : List Cl) (x : Int) (w : World) (hR : Rds w vc cs.length 3 (ccells cs)) :
  Calls Try.prog 74 #[.agg #[.int .i64 O, .int .i64 E, .int .i64 M, vp, vc], .int .i64 x] w (CallOfPost cs x w) := by
 have hB := Blk.new (w := w) (cs := #[.int .i64 O, .int .i64 E, .int .i64 M, vp, vc]) (T := 33) rfl
 have hbel0 : Below w.heap.size w (w.alloc (.cells #[.int .i64 O, .int .i64 E, .int .i64 M, vp, vc] 33)) := by (exact grownA)
 obtain ⟨hl2, hm2, a2, c2, rfl, hn2, hc2⟩ := hR
 unfold maxLen at hm2
 obtain ⟨m, hm⟩ : ∃ m, cs.length = m := ⟨_, rfl⟩
 rw [hm] at hB hbel0 hm2 hn2 hc2 ⊢
 have HM := Lib.hid hm
 clear hm hl2
 obtain ⟨p0, p1, p2, p3, p4, _, _, _, _, _, plt⟩ := hB.five
 go_enter Try.func74, Try.ntmps74
 go_wp2_with fail
 go_loopw [10] (fun i wr => ∃ k : Nat, k ≤ m ∧ i = .int .i64 k ∧ Hid (noneTo cs x k) ∧ Below w.heap.size w wr) (fun i _ => m - (intOf i).toNat)
 case atStart => exact ⟨0, by omega, rfl, fun j c h => absurd h (by omega), hbel0⟩
 case round =>
  obtain ⟨k, hk, rfl, hno, hbel⟩ := hrel
  have hz := hbel.size
  by_cases hkm : k < m
  ·
   rcases hc2 with hc2 | ⟨b, off, rfl, hb, hc2⟩
   ·
    omega
   obtain ⟨c, hc⟩ : ∃ c, cs[k]? = some c := ⟨_, List.getElem?_eq_getElem (by rw [HM.out]; omega)⟩
   obtain ⟨g1, g2, g3⟩ := ccells_at cs k c hc
   have k1 : wr.cell? ⟨b, off + k * 3, none⟩ = some (.int .i64 c.1) := by rw [hbel.cell (p := ⟨b, off + k * 3, none⟩) hb, hc2 _ (by omega), g1]
   have k2 : wr.cell? ⟨b, off + k * 3 + 1, none⟩ = some (.int .i64 c.2.1) := by rw [Nat.add_assoc, hbel.cell (p := ⟨b, off + (k * 3 + 1), none⟩) hb, hc2 _ (by omega), g2]
   have k3 : wr.cell? ⟨b, off + k * 3 + 2, none⟩ = some (.int .i64 c.2.2) := by rw [Nat.add_assoc, hbel.cell (p := ⟨b, off + (k * 3 + 2), none⟩) hb, hc2 _ (by omega), g3]
   have HC := Lib.hid hc
   clear hc g1 g2 g3 hc2
   obtain ⟨u, v, t⟩ := c
   simp only at k1 k2 k3
   by_cases h1 : u = x
   ·
    have hq1 : ((u : Int) == x) = true := by simpa using h1
    have HF := Lib.hid (find_at hno.out HC.out (by simp [hasE, h1]))
    have HME := Lib.hid (List.mem_of_getElem? HC.out)
    clear h1
    go_wp2
    go_returns
    exact ⟨_, rfl, .inr ⟨k, _, rfl, HC.out, HF.out, HME.out⟩, by (exact grownA)⟩
   ·
    have hq1 : ((u : Int) == x) = false := by simpa using h1
    by_cases h2 : v = x
    ·
     have hq2 : ((v : Int) == x) = true := by simpa using h2
     have HF := Lib.hid (find_at hno.out HC.out (by simp [hasE, h2]))
     have HME := Lib.hid (List.mem_of_getElem? HC.out)
     clear h1 h2
     go_wp2
     go_returns
     exact ⟨_, rfl, .inr ⟨k, _, rfl, HC.out, HF.out, HME.out⟩, by (exact grownA)⟩
    ·
     have hq2 : ((v : Int) == x) = false := by simpa using h2
     have HST := Lib.hid (hno.out.succ HC.out (by simp [hasE, h1, h2]))
     clear h1 h2
     go_wp2_with fail
     go_roundw
     case rel => exact ⟨k + 1, by omega, by go_num, HST.out, by (exact grownA)⟩
     case measure => simp [intOf]; omega
  ·
   obtain rfl : k = m := by omega
   have HF := Lib.hid (find_none (x := x) (by rw [HM.out]; exact hno.out))
   go_wp2
   go_returns
   exact ⟨-1, rfl, .inl ⟨rfl, HF.out⟩, hbel⟩

set_option maxHeartbeats 1000000 in
theorem iPeerOf_any (O E M : Int) (vp vc : Value) (ps : List ByteArray) (cs : List Cl) (x : Int) (w : World) (hR : ExRd w vp vc ps cs) (hL : StLen ps) :
  Calls Try.prog 25 #[.agg #[.int .i64 O, .int .i64 E, .int .i64 M, vp, vc], .int .i64 x] w fun e w' => e = .returned (.int .i64 (peerX O E M ps cs x)) ∧ Below w.heap.size w w' := by
 have hB := Blk.new (w := w) (cs := #[.int .i64 O, .int .i64 E, .int .i64 M, vp, vc]) (T := 33) rfl
 have hbel0 : Below w.heap.size w (w.alloc (.cells #[.int .i64 O, .int .i64 E, .int .i64 M, vp, vc] 33)) := by (exact grownA)
 have HR := Lib.hid hR
 have HL := Lib.hid hL
 obtain ⟨a1, c1, rfl, _⟩ := hR.plan.open1
 obtain ⟨_, hm2, a2, c2, rfl, hn2, hc2⟩ := hR.calls
 unfold maxLen at hm2
 have HC2 := Lib.hid hc2
 clear hR hL hc2
 go_enter Try.func25, Try.ntmps25
 go_wp2_with fail
 refine (iExchangeValid_any O E M _ _ ps cs _ (HR.out.below hbel0) HL.out).mono ?_
 rintro e w1 ⟨rfl, hb⟩
 have hbel1 : Below w.heap.size w w1 := by (exact grownA)
 have hB1 := hB.belowAll hb
 clear hB hb hbel0
 obtain ⟨p0, p1, p2, p3, p4, _, _, _, _, _, plt⟩ := hB1.five
 obtain ⟨d, hd⟩ : ∃ d, exB O E M ps cs = d := ⟨_, rfl⟩
 have HD := Lib.hid hd
 rw [hd]
 clear hd
 cases d
 ·
  have HF : Hid (peerX O E M ps cs x = -1) := by unfold Hid peerX; rw [HD.out]; rfl
  go_wp2
  go_returns
  exact ⟨by rw [HF.out]; rfl, hbel1⟩
 ·
  have HF : Hid (peerX O E M ps cs x = peerL cs x) := by unfold Hid peerX; rw [HD.out]; rfl
  have HOK := Lib.hid ((exB_iff _ _ _ _ _).1 HD.out)
  go_wp2_with fail
  refine (callOf_any O E M _ _ cs x _ (HR.out.calls.below hbel1)).mono ?_
  rintro e w2 ⟨r, rfl, hat, hb2⟩
  have hbel2 : Below w.heap.size w w2 := by (exact grownA)
  have hB2 := hB1.belowAll hb2
  clear hB1 hb2 p0 p1 p2 p3 p4 plt hbel1
  obtain ⟨p0, p1, p2, p3, p4, _, _, _, _, _, plt⟩ := hB2.five
  rcases hat with ⟨rfl, hf⟩ | ⟨k, c, rfl, hc, hf, hmem⟩
  ·
   have HP := Lib.hid (peer_none hf)
   clear hf
   go_wp2
   go_returns
   exact ⟨by rw [HF.out, HP.out]; rfl, hbel2⟩
  ·
   have HP := Lib.hid (peer_some hf)
   have hx := List.find?_some hf
   simp only [hasE, Bool.or_eq_true, decide_eq_true_eq] at hx
   have hat := HOK.out.calls.mem hmem
   have hL12 := lines_le HOK.out.calls.sh
   obtain ⟨hkl, -⟩ := List.getElem?_eq_some_iff.1 hc
   rcases HC2.out with hc2 | ⟨b, off, rfl, hb, hc2⟩
   ·
    omega
   obtain ⟨g1, g2, g3⟩ := ccells_at cs k c hc
   have k1 : w2.cell? ⟨b, off + k * 3, none⟩ = some (.int .i64 c.1) := by rw [hbel2.cell (p := ⟨b, off + k * 3, none⟩) hb, hc2 _ (by omega), g1]
   have k2 : w2.cell? ⟨b, off + k * 3 + 1, none⟩ = some (.int .i64 c.2.1) := by rw [Nat.add_assoc, hbel2.cell (p := ⟨b, off + (k * 3 + 1), none⟩) hb, hc2 _ (by omega), g2]
   have i1 : (0 : Int) ≤ (k : Int) := by omega
   have i2 : (k : Int) < (cs.length : Int) := by omega
   have hs1 : IntKind.i64.wrap (c.1 + c.2.1) = c.1 + c.2.1 := IntWalk.i64_in _ (by omega)
   have hs2 : IntKind.i64.wrap (c.1 + c.2.1 - x) = c.1 + c.2.1 - x := IntWalk.i64_in _ (by omega)
   have hk0 : ¬ (k : Int) < 0 := by omega
   clear hc hf hx hat hL12 g1 g2 g3 hc2
   go_wp2_with fail
   go_quiet (fail)
   go_wp2
   go_returns
   exact ⟨by rw [HF.out, HP.out]; rfl, by (exact grownA)⟩

set_option maxHeartbeats 1000000 in
theorem sLineOf_any (O E M : Int) (vp vc : Value) (ps : List ByteArray) (cs : List Cl) (s : ByteArray) (w : World) (hR : ExRd w vp vc ps cs) (hL : StLen ps) :
  Calls Try.prog 22 #[.agg #[.int .i64 O, .int .i64 E, .int .i64 M, vp, vc], .string s] w fun e w' => e = .returned (.int .i64 (lineX O E M ps cs s)) ∧ Below w.heap.size w w' := by
 have hB := Blk.new (w := w) (cs := #[.int .i64 O, .int .i64 E, .int .i64 M, vp, vc]) (T := 33) rfl
 have hbel0 : Below w.heap.size w (w.alloc (.cells #[.int .i64 O, .int .i64 E, .int .i64 M, vp, vc] 33)) := by (exact grownA)
 have HR := Lib.hid hR
 have HL := Lib.hid hL
 obtain ⟨a1, c1, rfl, _, hm1, hn1, hc1⟩ := hR.plan.open1
 obtain ⟨_, _, a2, c2, rfl, _⟩ := hR.calls
 unfold maxLen at hm1
 obtain ⟨n, hn⟩ : ∃ n, ps.length = n := ⟨_, rfl⟩
 rw [hn] at hB hbel0 HR hm1 hn1 hc1 ⊢
 have HN := Lib.hid hn
 clear hR hL hn
 obtain ⟨d, hd⟩ : ∃ d, exB O E M ps cs = d := ⟨_, rfl⟩
 have HD := Lib.hid hd
 clear hd
 go_enter Try.func22, Try.ntmps22
 go_wp2_with fail
 go_loopw [5] (fun i wr => ∃ k : Nat, k ≤ n ∧ i = .int .i64 k ∧ Hid (neTo ps s k) ∧ Below w.heap.size w wr ∧ Hid (k = 0 ∨ d = true) ∧ Blk wr w.heap.size #[.int .i64 O, .int .i64 E, .int .i64 M, .slice a1 n c1, .slice a2 cs.length c2] 33) (fun i _ => n - (intOf i).toNat)
 case atStart => exact ⟨0, by omega, rfl, fun j p h => absurd h (by omega), hbel0, .inl rfl, hB⟩
 case round =>
  obtain ⟨k, hk, rfl, hne, hbel, hdk, hBw⟩ := hrel
  obtain ⟨p0, p1, p2, p3, p4, _, _, _, _, _, plt⟩ := hBw.five
  by_cases hkn : k < n
  ·
   rcases hc1 with hc1 | ⟨b, off, rfl, hb, hc1⟩
   ·
    omega
   obtain ⟨t, ht⟩ : ∃ s, ps[k]? = some s := ⟨_, List.getElem?_eq_getElem (by rw [HN.out]; omega)⟩
   have hc1k := hc1 k hkn
   rw [strs_at ps k t ht] at hc1k
   have HT := Lib.hid ht
   have HC1 := Lib.hid hc1k
   clear hc1 ht hc1k
   go_wp2_with fail
   refine (sExchangeValid_any O E M _ _ ps cs _ (HR.out.below hbel) HL.out).mono ?_
   rintro e w1 ⟨rfl, hb1⟩
   rw [HD.out]
   have hbel1 : Below w.heap.size w w1 := by (exact grownA)
   have hB1 := hBw.belowAll hb1
   clear hb1 hBw p0 p1 p2 p3 p4 plt
   obtain ⟨p0, p1, p2, p3, p4, _, _, _, _, _, plt⟩ := hB1.five
   have k1 : w1.cell? ⟨b, off + k, none⟩ = some (.string t) := by rw [hbel1.cell (p := ⟨b, off + k, none⟩) hb]; exact HC1.out
   cases d
   ·
    have HF : Hid (lineX O E M ps cs s = -1) := by unfold Hid lineX; rw [HD.out]; rfl
    go_wp2
    go_returns
    exact ⟨by rw [HF.out]; rfl, hbel1⟩
   ·
    have HF : Hid (lineX O E M ps cs s = lineL ps s) := by unfold Hid lineX; rw [HD.out]; rfl
    by_cases hst : t = s
    ·
     have hsb := str_eq hst
     subst hst
     have HFF := Lib.hid (line_at hne.out HT.out)
     go_wp2
     go_returns
     exact ⟨by rw [HF.out, HFF.out]; rfl, hbel1⟩
    ·
     have hsb := str_ne hst
     have HST : Hid (neTo ps s (k + 1)) := by
      intro j p hj hp
      by_cases e : j = k
      ·
       subst e; rw [HT.out] at hp; cases hp; exact hst
      ·
       exact hne.out j p (by omega) hp
     clear hst
     go_wp2_with fail
     go_roundw
     case rel => exact ⟨k + 1, by omega, by go_num, HST.out, hbel1, Or.inr (by first | rfl | trivial), hB1⟩
     case measure => simp [intOf]; omega
  ·
   obtain rfl : k = n := by omega
   have HF : Hid (lineX O E M ps cs s = -1) := by
    unfold Hid lineX
    split
    ·
     exact line_none (by rw [HN.out]; exact hne.out)
    ·
     rfl
   go_wp2
   go_returns
   exact ⟨by rw [HF.out]; rfl, hbel⟩

set_option maxHeartbeats 1000000 in
theorem sPeerOf_any (O E M : Int) (vp vc : Value) (ps : List ByteArray) (cs : List Cl) (x : Int) (w : World) (hR : ExRd w vp vc ps cs) (hL : StLen ps) :
  Calls Try.prog 24 #[.agg #[.int .i64 O, .int .i64 E, .int .i64 M, vp, vc], .int .i64 x] w fun e w' => e = .returned (.int .i64 (peerX O E M ps cs x)) ∧ Below w.heap.size w w' := by
 have hB := Blk.new (w := w) (cs := #[.int .i64 O, .int .i64 E, .int .i64 M, vp, vc]) (T := 33) rfl
 have hbel0 : Below w.heap.size w (w.alloc (.cells #[.int .i64 O, .int .i64 E, .int .i64 M, vp, vc] 33)) := by (exact grownA)
 have HR := Lib.hid hR
 have HL := Lib.hid hL
 obtain ⟨a1, c1, rfl, _⟩ := hR.plan.open1
 obtain ⟨_, hm1, a2, c2, rfl, hn1, hc1⟩ := hR.calls
 unfold maxLen at hm1
 obtain ⟨n, hn⟩ : ∃ n, cs.length = n := ⟨_, rfl⟩
 rw [hn] at hB hbel0 HR hm1 hn1 hc1 ⊢
 have HN := Lib.hid hn
 clear hR hL hn
 obtain ⟨d, hd⟩ : ∃ d, exB O E M ps cs = d := ⟨_, rfl⟩
 have HD := Lib.hid hd
 clear hd
 go_enter Try.func24, Try.ntmps24
 go_wp2_with fail
 go_loopw [5] (fun i wr => ∃ k : Nat, k ≤ n ∧ i = .int .i64 k ∧ Hid (noneTo cs x k) ∧ Below w.heap.size w wr ∧ Blk wr w.heap.size #[.int .i64 O, .int .i64 E, .int .i64 M, .slice a1 ps.length c1, .slice a2 n c2] 33) (fun i _ => n - (intOf i).toNat)
 case atStart => exact ⟨0, by omega, rfl, fun j p h => absurd h (by omega), hbel0, hB⟩
 case round =>
  obtain ⟨k, hk, rfl, hno, hbel, hBw⟩ := hrel
  obtain ⟨p0, p1, p2, p3, p4, _, _, _, _, _, plt⟩ := hBw.five
  by_cases hkn : k < n
  ·
   rcases hc1 with hc1 | ⟨b, off, rfl, hb, hc1⟩
   ·
    omega
   obtain ⟨c, hc⟩ : ∃ c, cs[k]? = some c := ⟨_, List.getElem?_eq_getElem (by rw [HN.out]; omega)⟩
   obtain ⟨g1, g2, g3⟩ := ccells_at cs k c hc
   have HC := Lib.hid hc
   have HC1 := Lib.hid ((hc1 _ (by omega)).trans g1)
   have HC2 := Lib.hid ((hc1 _ (by omega)).trans g2)
   clear hc1 hc g1 g2 g3
   go_wp2_with fail
   refine (sExchangeValid_any O E M _ _ ps cs _ (HR.out.below hbel) HL.out).mono ?_
   rintro e w1 ⟨rfl, hb1⟩
   rw [HD.out]
   have hbel1 : Below w.heap.size w w1 := by (exact grownA)
   have hB1 := hBw.belowAll hb1
   clear hb1 hBw p0 p1 p2 p3 p4 plt
   obtain ⟨p0, p1, p2, p3, p4, _, _, _, _, _, plt⟩ := hB1.five
   have k1 : w1.cell? ⟨b, off + k * 3, none⟩ = some (.int .i64 c.1) := by rw [hbel1.cell (p := ⟨b, off + k * 3, none⟩) hb]; exact HC1.out
   have k2 : w1.cell? ⟨b, off + k * 3 + 1, none⟩ = some (.int .i64 c.2.1) := by rw [Nat.add_assoc, hbel1.cell (p := ⟨b, off + (k * 3 + 1), none⟩) hb]; exact HC2.out
   cases d
   ·
    have HF : Hid (peerX O E M ps cs x = -1) := by unfold Hid peerX; rw [HD.out]; rfl
    go_wp2
    go_returns
    exact ⟨by rw [HF.out]; rfl, hbel1⟩
   ·
    have HF : Hid (peerX O E M ps cs x = peerL cs x) := by unfold Hid peerX; rw [HD.out]; rfl
    obtain ⟨u, v, t⟩ := c
    simp only at k1 k2
    by_cases h1 : u = x
    ·
     have hq1 : ((u : Int) == x) = true := by simpa using h1
     have HFF : Hid (peerL cs x = v) := by
      have := peer_some (find_at hno.out HC.out (by simp [hasE, h1]))
      rw [Hid, this]; simp only; omega
     clear h1
     go_wp2
     go_returns
     exact ⟨by rw [HF.out, HFF.out]; rfl, hbel1⟩
    ·
     have hq1 : ((u : Int) == x) = false := by simpa using h1
     by_cases h2 : v = x
     ·
      have hq2 : ((v : Int) == x) = true := by simpa using h2
      have HFF : Hid (peerL cs x = u) := by
       have := peer_some (find_at hno.out HC.out (by simp [hasE, h2]))
       rw [Hid, this]; simp only; omega
      clear h1 h2
      go_wp2
      go_returns
      exact ⟨by rw [HF.out, HFF.out]; rfl, hbel1⟩
     ·
      have hq2 : ((v : Int) == x) = false := by simpa using h2
      have HST := Lib.hid (hno.out.succ HC.out (by simp [hasE, h1, h2]))
      clear h1 h2
      go_wp2_with fail
      go_roundw
      case rel => exact ⟨k + 1, by omega, by go_num, HST.out, hbel1, hB1⟩
      case measure => simp [intOf]; omega
  ·
   obtain rfl : k = n := by omega
   have HF : Hid (peerX O E M ps cs x = -1) := by
    unfold Hid peerX
    split
    ·
     exact peer_none (find_none (by rw [HN.out]; exact hno.out))
    ·
     rfl
   go_wp2
   go_returns
   exact ⟨by rw [HF.out]; rfl, hbel⟩

end Go.Proofs.Ytedadhoneebfnaa

/- Contract of markText. -/
namespace Go.Proofs.Ytedadhoneebfnaa
open Go.RowKit

/-- The digits of a number; none for nought. -/
def tens (k : Nat) : List UInt8 := if h : k = 0 then [] else tens (k / 10) ++ [UInt8.ofNat (48 + k % 10)]
termination_by k
theorem tens_zero : tens 0 = [] := by unfold tens; simp
theorem tens_pos {k : Nat} (h : k ≠ 0) : tens k = tens (k / 10) ++ [UInt8.ofNat (48 + k % 10)] := by
 conv => lhs; unfold tens
 rw [dif_neg h]
theorem tens_len (k : Nat) : (tens k).length ≤ k := by
 induction k using Nat.strongRecOn with
 | ind k ih =>
  by_cases h : k = 0
  ·
   subst h; simp [tens_zero]
  ·
   rw [tens_pos h]
   have := ih (k / 10) (by omega)
   simp only [List.length_append, List.length_singleton]
   omega
def mt (k : Nat) : ByteArray := ⟨#[109]⟩ ++ ⟨(tens k).toArray⟩

set_option maxRecDepth 100000 in
set_option maxHeartbeats 400000 in
theorem markText_any (k : Nat) (w : World) (h0 : 0 < k) (h1 : k ≤ 1000000000) :
  Calls Try.prog 76 #[.int .i64 k] w fun e w' => e = .returned (.string (mt k)) ∧ Below w.heap.size w w' := by
 go_enter Try.func76, Try.ntmps76
 go_wp2_with fail
 go_loopw [0, 3] (fun kk s wr => ∃ (j : Nat) (out : List UInt8), kk = .int .i64 j ∧ s = .string ⟨out.toArray⟩ ∧ j ≤ k ∧ out.length + j ≤ k ∧ Hid (tens j ++ out = tens k) ∧ Below w.heap.size w wr) (fun kk _ _ => (intOf kk).toNat)
 case atStart => exact ⟨k, [], rfl, rfl, by omega, by simp, by simp [Hid], Below.refl _ _⟩
 case round =>
  obtain ⟨j, out, rfl, rfl, hj, hlen, hd, hbel⟩ := hrel
  have hz := hbel.size
  by_cases hj0 : 0 < j
  ·
   obtain ⟨c, hc⟩ : ∃ c, UInt8.ofNat (48 + j % 10) = c := ⟨_, rfl⟩
   have hcn : (c.toNat : Int) = 48 + (j : Int) % 10 := by rw [← hc]; simp; omega
   have hst := tens_pos (show j ≠ 0 by omega)
   rw [hc] at hst
   have HST := Lib.hid hst
   have hcv : (convert 51 9 (.slice (some ⟨wr.heap.size, 0, none⟩) 1 1)).run Try.prog (wr.alloc (.cells #[.int .u8 (48 + (j : Int) % 10)] 5)) = .ok (.string ⟨#[c]⟩) (wr.alloc (.cells #[.int .u8 (48 + (j : Int) % 10)] 5)) :=
    run_convert_bytes_back _ _ _ 5 _ 1 [c] Try.underlying51 Try.underlying5 Try.underlying9 (by intro i hi; simp at hi; subst hi; rw [Addr.add_spot, World.cell?_alloc_at _ _ _ _ rfl]; simp [hcn])
   clear hst hc
   go_wp2
   go_roundw
   case rel =>
    refine ⟨j / 10, c :: out, by go_num, ?_, by omega, by simp only [List.length_cons]; omega, ?_, by (exact grownA)⟩
    ·
     have : (⟨#[c]⟩ : ByteArray) ++ ⟨out.toArray⟩ = ⟨(c :: out).toArray⟩ := by
      apply bytes_ext; simp [ByteArray.data_append]
     first | rw [this] | simp [this]
    ·
     unfold Hid; rw [← hd.out, HST.out]; simp
   case measure => simp [intOf]; omega
  ·
   obtain rfl : j = 0 := by omega
   go_wp2
   go_returns
   refine ⟨?_, hbel⟩
   have := hd.out
   rw [tens_zero, List.nil_append] at this
   rw [mt, this]
   rfl

end Go.Proofs.Ytedadhoneebfnaa
