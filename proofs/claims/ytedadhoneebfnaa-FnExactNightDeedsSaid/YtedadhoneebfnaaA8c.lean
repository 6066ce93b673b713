/- The walk of the exact law of NightDeeds. -/
import Derived.Test.YtedadhoneebfnaaNd
import Derived.Test.YtedadhoneebfnaaEh
import Derived.Test.YtedadhoneebfnaaRg
set_option linter.unusedSimpArgs false
set_option linter.unusedVariables false
namespace Go.Proofs.Ytedadhoneebfnaa
open Go.RowKit

set_option maxRecDepth 100000 in
set_option maxHeartbeats 2000000 in
theorem exNightDeeds (O E M : Int) (vp vc : Value) (ps : List ByteArray) (cs : List Cl) (w : World) (hR : ExRd w vp vc ps cs) (hL : StLen ps) :
    Calls Try.prog 7 #[.agg #[.int .i64 O, .int .i64 E, .int .i64 M, vp, vc]] w fun e w' => e = .returned (.bool true) ∧ Below w.heap.size w w' := by
  have hB := Blk.new (w := w) (cs := #[.int .i64 O, .int .i64 E, .int .i64 M, vp, vc]) (T := 27) rfl
  have hbel0 : Below w.heap.size w (w.alloc (.cells #[.int .i64 O, .int .i64 E, .int .i64 M, vp, vc] 27)) := by (repeat' (first | (with_reducible exact Below.refl _ _) | (with_reducible assumption) | (with_reducible refine Below.drew ?_) | (with_reducible refine below_drewN ?_ _) | (with_reducible refine Below.alloc ?_ ?_ _) | (with_reducible refine Below.setCell ?_ ?_ _) | (refine Below.trans ?_ (Below.mono (by assumption) (by first | omega | (with_reducible exact Below.size (by assumption)) | (simp; done) | (simp; omega)))) | (with_reducible exact Nat.le_refl _) | omega | (with_reducible exact Below.size (by assumption)) | (simp only [World.size_alloc, World.size_setCell, World.size_drew]; omega) | (simp; done) | (simp; omega)))
  have HR := Lib.hid hR
  have HL := Lib.hid hL
  obtain ⟨a1, c1, rfl, _⟩ := hR.plan.open1
  obtain ⟨_, _, a2, c2, rfl, _⟩ := hR.calls
  clear hR hL
  obtain ⟨p0, p1, p2, p3, p4, _, _, _, _, _, plt⟩ := hB.five
  obtain ⟨ns, hns⟩ : ∃ d, nightX O E M ps cs = d := ⟨_, rfl⟩
  have hnl : ns.length ≤ 12 := by
    rw [← hns]; unfold nightX
    split
    · rename_i h
      rw [nightL_len]
      have ok := ((exB_iff _ _ _ _ _).1 h).calls
      exact ok.count (lines_le ok.sh)
    · simp
  have HNS := Lib.hid hns
  clear hns
  go_enter Try.func7, Try.ntmps7
  go_wp2_with fail
  refine (szExchange_any O E M _ _ ps cs _ (HR.out.below hbel0) HL.out).mono ?_
  rintro e w0 ⟨x, rfl, hx0, hx1, hx2, hb0⟩
  have hbelA : Below w.heap.size w w0 := by (repeat' (first | (with_reducible exact Below.refl _ _) | (with_reducible assumption) | (with_reducible refine Below.drew ?_) | (with_reducible refine below_drewN ?_ _) | (with_reducible refine Below.alloc ?_ ?_ _) | (with_reducible refine Below.setCell ?_ ?_ _) | (refine Below.trans ?_ (Below.mono (by assumption) (by first | omega | (with_reducible exact Below.size (by assumption)) | (simp; done) | (simp; omega)))) | (with_reducible exact Nat.le_refl _) | omega | (with_reducible exact Below.size (by assumption)) | (simp only [World.size_alloc, World.size_setCell, World.size_drew]; omega) | (simp; done) | (simp; omega)))
  have hBA := hB.belowAll hb0
  clear hB hb0 hbel0 p0 p1 p2 p3 p4 plt
  obtain ⟨p0, p1, p2, p3, p4, _, _, _, _, _, plt⟩ := hBA.five
  by_cases hx : 0 ≤ x
  · obtain ⟨hpn, hcn⟩ := hx2 hx
    have HPN := Lib.hid hpn
    have HCN := Lib.hid hcn
    clear hx2 hpn hcn
    go_wp2_with fail
    refine (toExchange_any O E M _ _ ps cs _ (HR.out.below hbelA) HPN.out HCN.out).mono ?_
    rintro e w1 ⟨g1, h1, rfl, ho1, hb1⟩
    have hbel1 : Below w.heap.size w w1 := by (repeat' (first | (with_reducible exact Below.refl _ _) | (with_reducible assumption) | (with_reducible refine Below.drew ?_) | (with_reducible refine below_drewN ?_ _) | (with_reducible refine Below.alloc ?_ ?_ _) | (with_reducible refine Below.setCell ?_ ?_ _) | (refine Below.trans ?_ (Below.mono (by assumption) (by first | omega | (with_reducible exact Below.size (by assumption)) | (simp; done) | (simp; omega)))) | (with_reducible exact Nat.le_refl _) | omega | (with_reducible exact Below.size (by assumption)) | (simp only [World.size_alloc, World.size_setCell, World.size_drew]; omega) | (simp; done) | (simp; omega)))
    have hB1 := hBA.belowAll hb1
    clear hBA hb1 hbelA p0 p1 p2 p3 p4 plt
    obtain ⟨p0, p1, p2, p3, p4, _, _, _, _, _, plt⟩ := hB1.five
    go_wp2_with fail
    refine (sNightDeeds_any O E M _ _ ps cs _ ho1.rd HL.out).mono ?_
    rintro e w2 ⟨v0, rfl, ow2, hb2⟩
    rw [HNS.out] at ow2
    have ow2 := owns_base hbel1.size ow2
    have hbel2 : Below w.heap.size w w2 := by (repeat' (first | (with_reducible exact Below.refl _ _) | (with_reducible assumption) | (with_reducible refine Below.drew ?_) | (with_reducible refine below_drewN ?_ _) | (with_reducible refine Below.alloc ?_ ?_ _) | (with_reducible refine Below.setCell ?_ ?_ _) | (refine Below.trans ?_ (Below.mono (by assumption) (by first | omega | (with_reducible exact Below.size (by assumption)) | (simp; done) | (simp; omega)))) | (with_reducible exact Nat.le_refl _) | omega | (with_reducible exact Below.size (by assumption)) | (simp only [World.size_alloc, World.size_setCell, World.size_drew]; omega) | (simp; done) | (simp; omega)))
    have hB2 := hB1.belowAll hb2
    have HW2 := Lib.hid hB2.lt
    clear hB1 hb2 hbel1 p0 p1 p2 p3 p4 plt ho1
    obtain ⟨p0, p1, p2, p3, p4, _, _, _, _, _, plt⟩ := hB2.five
    go_wp2_with fail
    refine (toExchange_any O E M _ _ ps cs _ (HR.out.below hbel2) HPN.out HCN.out).mono ?_
    rintro e w3 ⟨g3, h3, rfl, ho3, hb3⟩
    have ow3 := owns_below hb3 ow2
    have hz23 := hb3.size
    have hbel2' := hbel2
    have hbel3 : Below w.heap.size w w3 := by (repeat' (first | (with_reducible exact Below.refl _ _) | (with_reducible assumption) | (with_reducible refine Below.drew ?_) | (with_reducible refine below_drewN ?_ _) | (with_reducible refine Below.alloc ?_ ?_ _) | (with_reducible refine Below.setCell ?_ ?_ _) | (refine Below.trans ?_ (Below.mono (by assumption) (by first | omega | (with_reducible exact Below.size (by assumption)) | (simp; done) | (simp; omega)))) | (with_reducible exact Nat.le_refl _) | omega | (with_reducible exact Below.size (by assumption)) | (simp only [World.size_alloc, World.size_setCell, World.size_drew]; omega) | (simp; done) | (simp; omega)))
    have hB3 := hB2.belowAll hb3
    have hz3 := hB3.lt
    clear hB2 hb3 hbel2 p0 p1 p2 p3 p4 plt
    obtain ⟨p0, p1, p2, p3, p4, _, _, _, _, _, plt⟩ := hB3.five
    have hA3 := Blk.new (w := w3) (cs := #[.int .i64 O, .int .i64 E, .int .i64 M, .slice (some ⟨g3, 0, none⟩) ps.length ps.length, .slice (some ⟨h3, 0, none⟩) cs.length cs.length]) (T := 33) rfl
    have hbA : Below w3.heap.size w3 (w3.alloc (.cells #[.int .i64 O, .int .i64 E, .int .i64 M, .slice (some ⟨g3, 0, none⟩) ps.length ps.length, .slice (some ⟨h3, 0, none⟩) cs.length cs.length] 33)) := by (repeat' (first | (with_reducible exact Below.refl _ _) | (with_reducible assumption) | (with_reducible refine Below.drew ?_) | (with_reducible refine below_drewN ?_ _) | (with_reducible refine Below.alloc ?_ ?_ _) | (with_reducible refine Below.setCell ?_ ?_ _) | (refine Below.trans ?_ (Below.mono (by assumption) (by first | omega | (with_reducible exact Below.size (by assumption)) | (simp; done) | (simp; omega)))) | (with_reducible exact Nat.le_refl _) | omega | (with_reducible exact Below.size (by assumption)) | (simp only [World.size_alloc, World.size_setCell, World.size_drew]; omega) | (simp; done) | (simp; omega)))
    have ho4 := ho3.below hbA
    have hB4 := hB3.belowAll hbA
    have hbel4 : Below w.heap.size w (w3.alloc (.cells #[.int .i64 O, .int .i64 E, .int .i64 M, .slice (some ⟨g3, 0, none⟩) ps.length ps.length, .slice (some ⟨h3, 0, none⟩) cs.length cs.length] 33)) := by (repeat' (first | (with_reducible exact Below.refl _ _) | (with_reducible assumption) | (with_reducible refine Below.drew ?_) | (with_reducible refine below_drewN ?_ _) | (with_reducible refine Below.alloc ?_ ?_ _) | (with_reducible refine Below.setCell ?_ ?_ _) | (refine Below.trans ?_ (Below.mono (by assumption) (by first | omega | (with_reducible exact Below.size (by assumption)) | (simp; done) | (simp; omega)))) | (with_reducible exact Nat.le_refl _) | omega | (with_reducible exact Below.size (by assumption)) | (simp only [World.size_alloc, World.size_setCell, World.size_drew]; omega) | (simp; done) | (simp; omega)))
    obtain ⟨r0, r1, r2, r3, r4, _, _, _, _, _, rlt⟩ := hA3.five
    go_wp2_with fail
    refine (iNightDeeds_any O E M _ _ ps cs _ ho4.rd HL.out).mono ?_
    rintro e w5 ⟨v1, rfl, og5, hb5⟩
    rw [HNS.out] at og5
    have ow5 := owns_below hb5 (owns_below hbA ow3)
    have hz35 := hb5.size
    have AP1 := Lib.hid (far_old ow2 (Nat.le_refl _) (own_ge ho3.plan))
    have AP2 := Lib.hid (far_old ow2 (Nat.le_refl _) (own_ge ho3.calls))
    have GP1 := Lib.hid (far_new og5 (B := w3.heap.size) (by simp) (own_lt ho3.plan))
    have GP2 := Lib.hid (far_new og5 (B := w3.heap.size) (by simp) (own_lt ho3.calls))
    have WG := Lib.hid (far_old ow2 (B := w2.heap.size) (Nat.le_refl _) (u := v1) (fun k hk => by have := own_ge og5 k hk; simp at this; omega))
    have GE1 : Hid (∀ k, Value.ownBlock (.slice (some ⟨g3, 0, none⟩) ps.length ps.length) = some k → w.heap.size + 1 ≤ k) := fun k hk => by have h1 := own_ge ho3.plan k hk; have h2 := HW2.out; omega
    have GE2 : Hid (∀ k, Value.ownBlock (.slice (some ⟨h3, 0, none⟩) cs.length cs.length) = some k → w.heap.size + 1 ≤ k) := fun k hk => by have h1 := own_ge ho3.calls k hk; have h2 := HW2.out; omega
    have GEV : Hid (∀ k, v1.ownBlock = some k → w.heap.size + 1 ≤ k) := fun k hk => by have h1 := own_ge og5 k hk; have h2 := HW2.out; simp at h1; omega
    have hbel5 : Below w.heap.size w w5 := by (repeat' (first | (with_reducible exact Below.refl _ _) | (with_reducible assumption) | (with_reducible refine Below.drew ?_) | (with_reducible refine below_drewN ?_ _) | (with_reducible refine Below.alloc ?_ ?_ _) | (with_reducible refine Below.setCell ?_ ?_ _) | (refine Below.trans ?_ (Below.mono (by assumption) (by first | omega | (with_reducible exact Below.size (by assumption)) | (simp; done) | (simp; omega)))) | (with_reducible exact Nat.le_refl _) | omega | (with_reducible exact Below.size (by assumption)) | (simp only [World.size_alloc, World.size_setCell, World.size_drew]; omega) | (simp; done) | (simp; omega)))
    have hB5 := hB4.belowAll hb5
    have hA5 := hA3.belowAll hb5
    have ho5 := ho4.below hb5
    clear hB3 hB4 hA3 hb5 hbA hbel4 hbel3 p0 p1 p2 p3 p4 plt r0 r1 r2 r3 r4 rlt ho3 ho4
    obtain ⟨p0, p1, p2, p3, p4, _, _, _, _, _, plt⟩ := hB5.five
    obtain ⟨r0, r1, r2, r3, r4, _, _, _, _, _, rlt⟩ := hA5.five
    go_wp2_with fail
    refine (eqExDeedS_any _ _ ns ns _ (Rds.ofOwns og5) (Rds.ofOwns ow5)).mono ?_
    rintro e w55 ⟨rfl, hb55⟩
    rw [decide_eq_true rfl]
    have og55 := owns_below hb55 og5
    have ow55 := owns_below hb55 ow5
    have ho55 := ho5.below hb55
    have hB55 := hB5.belowAll hb55
    have hA55 := hA5.belowAll hb55
    have hbel55 : Below w.heap.size w w55 := by (repeat' (first | (with_reducible exact Below.refl _ _) | (with_reducible assumption) | (with_reducible refine Below.drew ?_) | (with_reducible refine below_drewN ?_ _) | (with_reducible refine Below.alloc ?_ ?_ _) | (with_reducible refine Below.setCell ?_ ?_ _) | (refine Below.trans ?_ (Below.mono (by assumption) (by first | omega | (with_reducible exact Below.size (by assumption)) | (simp; done) | (simp; omega)))) | (with_reducible exact Nat.le_refl _) | omega | (with_reducible exact Below.size (by assumption)) | (simp only [World.size_alloc, World.size_setCell, World.size_drew]; omega) | (simp; done) | (simp; omega)))
    clear hb55 hB5 hA5 ho5 hbel5 p0 p1 p2 p3 p4 plt r0 r1 r2 r3 r4 rlt
    obtain ⟨p0, p1, p2, p3, p4, _, _, _, _, _, plt⟩ := hB55.five
    obtain ⟨r0, r1, r2, r3, r4, _, _, _, _, _, rlt⟩ := hA55.five
    go_wp2_with fail
    refine wp_region_held_drew (S := fun w' => (w'.cell? ⟨w.heap.size, 0, none⟩ = some (.int .i64 O) ∧ w'.cell? ⟨w.heap.size, 1, none⟩ = some (.int .i64 E) ∧ w'.cell? ⟨w.heap.size, 2, none⟩ = some (.int .i64 M) ∧ w'.cell? ⟨w.heap.size, 3, none⟩ = some (.slice a1 ps.length c1) ∧ w'.cell? ⟨w.heap.size, 4, none⟩ = some (.slice a2 cs.length c2)) ∧ w'.cell? ⟨w3.heap.size, 0, none⟩ = some (.int .i64 O) ∧ w'.cell? ⟨w3.heap.size, 1, none⟩ = some (.int .i64 E) ∧ w'.cell? ⟨w3.heap.size, 2, none⟩ = some (.int .i64 M) ∧ w'.cell? ⟨w3.heap.size, 3, none⟩ = some (.slice (some ⟨g3, 0, none⟩) ps.length ps.length) ∧ w'.cell? ⟨w3.heap.size, 4, none⟩ = some (.slice (some ⟨h3, 0, none⟩) cs.length cs.length)) (by kernel_rfl) (by (try dsimp only); ((repeat' (first | (with_reducible assumption) | (with_reducible apply And.intro) | (with_reducible apply keep_drew) | (with_reducible apply keep_drewN) | (simp [go_sem, World.cell?_alloc_past]; done) | (simp [*]; done) | (with_reducible apply keep_other (by first | (simp; done) | (simp; omega) | omega)) | (with_reducible apply keep_below (by assumption)) | (with_reducible apply keep_alloc))))) (fun hHeld => ?_)
    refine take_on (i := 0) (d := some 27) (v := ?_) rfl (by rfl) (by kernel_rfl) (by kernel_rfl) (by kernel_rfl) (fun _ _ _ h => h) (Or.inl ⟨by kernel_rfl, ?_⟩) (by assumption) ?_
    rotate_left
    focus (intro w hSw; (try dsimp only at hSw); go_simp; (try with_reducible rfl))
    try simp only [Act.put, List.setIfInBounds_toArray, List.set_cons_zero, List.set_cons_succ]
    refine take_on (i := 1) (d := some 28) (v := ?_) rfl (by rfl) (by kernel_rfl) (by kernel_rfl) (by kernel_rfl) (fun _ _ _ h => h) (Or.inl ⟨by kernel_rfl, ?_⟩) (by assumption) ?_
    rotate_left
    focus (intro w hSw; (try dsimp only at hSw); go_simp; (try with_reducible rfl))
    try simp only [Act.put, List.setIfInBounds_toArray, List.set_cons_zero, List.set_cons_succ]
    refine wpAnyH_ready (rs := [2]) (by kernel_rfl) (by simp) ?_
    refine AllReadyH.cons rfl (fun K hK => ?_) AllReadyH.nil
    go_simp
    refine (toExchange_any O E M _ _ ps cs _ (HR.out.below hbel55.drew) HPN.out HCN.out).mono ?_
    rintro e w6 ⟨g6, h6, rfl, ho6, hb6⟩
    refine hK.out _ _ (by (try dsimp only); ((repeat' (first | (with_reducible assumption) | (with_reducible apply And.intro) | (with_reducible apply keep_drew) | (with_reducible apply keep_drewN) | (simp [go_sem, World.cell?_alloc_past]; done) | (simp [*]; done) | (with_reducible apply keep_other (by first | (simp; done) | (simp; omega) | omega)) | (with_reducible apply keep_below (by assumption)) | (with_reducible apply keep_alloc))))) (fun hHeld2 => ?_); clear hHeld hK K; have hHeld := hHeld2; clear hHeld2; (try simp only [Act.put, List.setIfInBounds_toArray, List.set_cons_zero, List.set_cons_succ])
    have hHc := hHeld
    obtain ⟨⟨e0, e1, e2, e3, e4⟩, e5, e6, e7, e8, e9⟩ := hHc
    have HW6 : Hid (Below w55.heap.size w55 w6) := ((Below.refl w55.heap.size w55).drew).trans hb6
    have ho55' := ho55
    have hB55' := hB55
    have hA55' := hA55
    have hbel6 : Below w.heap.size w w6 := (hbel55.drew).trans (Below.mono hb6 hbel55.size)
    have ho56 := ExOwn.below (w := w55.drew) hb6 (ho55.drewN 1)
    clear hb6 hbel55 hA55 hB55 p0 p1 p2 p3 p4 plt r0 r1 r2 r3 r4 rlt ho55
    refine wpAnyH_ready (rs := [3]) (by kernel_rfl) (by simp) ?_
    refine AllReadyH.cons rfl (fun K hK => ?_) AllReadyH.nil
    go_simp
    refine (eqExchange_any O E M O E M _ _ _ _ ps ps cs cs _ ho56.rd ho6.rd).mono ?_
    rintro e w7 ⟨rfl, hb7⟩
    rw [decide_eq_true rfl, decide_eq_true rfl, decide_eq_true rfl]
    refine hK.out _ _ (by (try dsimp only); ((repeat' (first | (with_reducible assumption) | (with_reducible apply And.intro) | (with_reducible apply keep_drew) | (with_reducible apply keep_drewN) | (simp [go_sem, World.cell?_alloc_past]; done) | (simp [*]; done) | (with_reducible apply keep_other (by first | (simp; done) | (simp; omega) | omega)) | (with_reducible apply keep_below (by assumption)) | (with_reducible apply keep_alloc))))) (fun hHeld2 => ?_); clear hHeld hK K; have hHeld := hHeld2; clear hHeld2; (try simp only [Act.put, List.setIfInBounds_toArray, List.set_cons_zero, List.set_cons_succ])
    have HW7 := Lib.hid hb7
    have hbel7 : Below w.heap.size w w7 := by (repeat' (first | (with_reducible exact Below.refl _ _) | (with_reducible assumption) | (with_reducible refine Below.drew ?_) | (with_reducible refine below_drewN ?_ _) | (with_reducible refine Below.alloc ?_ ?_ _) | (with_reducible refine Below.setCell ?_ ?_ _) | (refine Below.trans ?_ (Below.mono (by assumption) (by first | omega | (with_reducible exact Below.size (by assumption)) | (simp; done) | (simp; omega)))) | (with_reducible exact Nat.le_refl _) | omega | (with_reducible exact Below.size (by assumption)) | (simp only [World.size_alloc, World.size_setCell, World.size_drew]; omega) | (simp; done) | (simp; omega)))
    refine take_on (i := 4) (d := some 31) (v := ?_) rfl (by rfl) (by kernel_rfl) (by kernel_rfl) (by kernel_rfl) (fun _ _ _ h => h) (Or.inl ⟨by kernel_rfl, ?_⟩) (by assumption) ?_
    rotate_left
    focus (intro w hSw; (try dsimp only at hSw); go_simp; (try with_reducible rfl))
    try simp only [Act.put, List.setIfInBounds_toArray, List.set_cons_zero, List.set_cons_succ]
    refine wpAnyH_done (by kernel_rfl) ?_ _
    clear hHeld
    -- everything that lies in memory, in w7
    have hw7 : Below w55.heap.size w55 w7 := HW6.out.trans (Below.mono HW7.out HW6.out.size)
    have og7 := owns_below hw7 og55
    have ow7 := owns_below hw7 ow55
    have ho7 := ho55'.below hw7
    have hB7 := hB55'.belowAll hw7
    have hA7 := hA55'.belowAll hw7
    have hz7 := hw7.size
    clear HW6 HW7
    obtain ⟨p0, p1, p2, p3, p4, _, _, _, _, _, plt⟩ := hB7.five
    obtain ⟨r0, r1, r2, r3, r4, _, _, _, _, _, rlt⟩ := hA7.five
    go_wp2_with fail
    refine (markExchange_any O E M _ _ _ ps cs 1 _ ho7 (by omega) (by omega) (by have := HPN.out; omega) (by have := HCN.out; omega)).mono ?_
    rintro e w8 ⟨rfl, -, hg8⟩
    have ow8 := owns_kept2 hg8 AP1.out AP2.out ow7
    have og8 := owns_kept2 hg8 GP1.out GP2.out og7
    have hbel8 : Below w.heap.size w w8 := hg8.below hbel7.size (fun k hk => by have := GE1.out k hk; omega) (fun k hk => by have := GE2.out k hk; omega) hbel7
    have hB8 : Blk w8 w.heap.size #[.int .i64 O, .int .i64 E, .int .i64 M, .slice a1 ps.length c1, .slice a2 cs.length c2] 27 := by
      obtain ⟨wm, q1, q2⟩ := hg8
      exact Blk.gbr q2 (fun e => by have := GE2.out _ e.symm; omega) (Blk.gbr q1 (fun e => by have := GE1.out _ e.symm; omega) hB7)
    clear hg8 hB7 hA7 ho7 og7 ow7 p0 p1 p2 p3 p4 plt r0 r1 r2 r3 r4 rlt hbel7
    have hk8 : ¬ ((1 + ps.length + 3 * cs.length : Nat) : Int) < 0 := by omega
    obtain ⟨p0, p1, p2, p3, p4, _, _, _, _, _, plt⟩ := hB8.five
    go_wp2_with fail
    refine (eqExDeedS_any _ _ ns ns _ (Rds.ofOwns og8) (Rds.ofOwns ow8)).mono ?_
    rintro e w9 ⟨rfl, hb9⟩
    rw [decide_eq_true rfl]
    have og9 := owns_below hb9 og8
    have ow9 := owns_below hb9 ow8
    have hB9 := hB8.belowAll hb9
    have hbel9 : Below w.heap.size w w9 := by (repeat' (first | (with_reducible exact Below.refl _ _) | (with_reducible assumption) | (with_reducible refine Below.drew ?_) | (with_reducible refine below_drewN ?_ _) | (with_reducible refine Below.alloc ?_ ?_ _) | (with_reducible refine Below.setCell ?_ ?_ _) | (refine Below.trans ?_ (Below.mono (by assumption) (by first | omega | (with_reducible exact Below.size (by assumption)) | (simp; done) | (simp; omega)))) | (with_reducible exact Nat.le_refl _) | omega | (with_reducible exact Below.size (by assumption)) | (simp only [World.size_alloc, World.size_setCell, World.size_drew]; omega) | (simp; done) | (simp; omega)))
    clear hb9 hB8 og8 ow8 hbel8 p0 p1 p2 p3 p4 plt hk8
    go_wp2_with fail
    refine (markDeeds_any _ v1 ns.length ns 1 _ og9 (by omega) (by omega) (by omega)).mono ?_
    rintro e wa ⟨rfl, oga, hga⟩
    have owa := ow9.kept hga WG.out
    have hBa : Blk wa w.heap.size #[.int .i64 O, .int .i64 E, .int .i64 M, .slice a1 ps.length c1, .slice a2 cs.length c2] 27 :=
      Blk.gbr hga (fun e => by have := GEV.out _ e.symm; omega) hB9
    have hbela : Below w.heap.size w wa := hbel9.grown hga hbel9.size (fun k hk => by have := GEV.out k hk; omega)
    clear hga hB9 og9 ow9 hbel9
    go_wp2_with fail
    refine (heldDeeds_any v1 ns.length 1 _ (by have := Rds.ofOwns oga; exact this) (by omega) (by omega) (by omega)).mono ?_
    rintro e wb ⟨rfl, hbb⟩
    have ogb := owns_below hbb oga
    have owb := owns_below hbb owa
    have hBb := hBa.belowAll hbb
    have hbelb : Below w.heap.size w wb := by (repeat' (first | (with_reducible exact Below.refl _ _) | (with_reducible assumption) | (with_reducible refine Below.drew ?_) | (with_reducible refine below_drewN ?_ _) | (with_reducible refine Below.alloc ?_ ?_ _) | (with_reducible refine Below.setCell ?_ ?_ _) | (refine Below.trans ?_ (Below.mono (by assumption) (by first | omega | (with_reducible exact Below.size (by assumption)) | (simp; done) | (simp; omega)))) | (with_reducible exact Nat.le_refl _) | omega | (with_reducible exact Below.size (by assumption)) | (simp only [World.size_alloc, World.size_setCell, World.size_drew]; omega) | (simp; done) | (simp; omega)))
    have hkb : ¬ ((1 + 3 * ns.length : Nat) : Int) < 0 := by omega
    have hqb : (((1 + 3 * ns.length : Nat) : Int) != ((1 + 3 * ns.length : Nat) : Int)) = false := by simp
    clear hbb hBa oga owa hbela
    obtain ⟨p0, p1, p2, p3, p4, _, _, _, _, _, plt⟩ := hBb.five
    go_wp2_with fail
    refine (toExchange_any O E M _ _ ps cs _ (HR.out.below hbelb) HPN.out HCN.out).mono ?_
    rintro e wc ⟨gc, hc, rfl, hoc, hbc⟩
    have ogc := owns_below hbc ogb
    have owc := owns_below hbc owb
    have hbelc : Below w.heap.size w wc := by (repeat' (first | (with_reducible exact Below.refl _ _) | (with_reducible assumption) | (with_reducible refine Below.drew ?_) | (with_reducible refine below_drewN ?_ _) | (with_reducible refine Below.alloc ?_ ?_ _) | (with_reducible refine Below.setCell ?_ ?_ _) | (refine Below.trans ?_ (Below.mono (by assumption) (by first | omega | (with_reducible exact Below.size (by assumption)) | (simp; done) | (simp; omega)))) | (with_reducible exact Nat.le_refl _) | omega | (with_reducible exact Below.size (by assumption)) | (simp only [World.size_alloc, World.size_setCell, World.size_drew]; omega) | (simp; done) | (simp; omega)))
    clear hbc hbelb ogb owb hBb p0 p1 p2 p3 p4 plt
    go_wp2_with fail
    refine (iNightDeeds_any O E M _ _ ps cs _ hoc.rd HL.out).mono ?_
    rintro e wd ⟨v2, rfl, od, hbd⟩
    rw [HNS.out] at od
    have ogd := owns_below hbd ogc
    have owd := owns_below hbd owc
    have hbeld : Below w.heap.size w wd := by (repeat' (first | (with_reducible exact Below.refl _ _) | (with_reducible assumption) | (with_reducible refine Below.drew ?_) | (with_reducible refine below_drewN ?_ _) | (with_reducible refine Below.alloc ?_ ?_ _) | (with_reducible refine Below.setCell ?_ ?_ _) | (refine Below.trans ?_ (Below.mono (by assumption) (by first | omega | (with_reducible exact Below.size (by assumption)) | (simp; done) | (simp; omega)))) | (with_reducible exact Nat.le_refl _) | omega | (with_reducible exact Below.size (by assumption)) | (simp only [World.size_alloc, World.size_setCell, World.size_drew]; omega) | (simp; done) | (simp; omega)))
    clear hbd hbelc ogc owc hoc
    go_wp2_with fail
    refine (eqExDeedS_any _ _ ns ns _ (Rds.ofOwns od) (Rds.ofOwns owd)).mono ?_
    rintro e we ⟨rfl, hbe⟩
    rw [decide_eq_true rfl]
    have oge := owns_below hbe ogd
    have hbele : Below w.heap.size w we := by (repeat' (first | (with_reducible exact Below.refl _ _) | (with_reducible assumption) | (with_reducible refine Below.drew ?_) | (with_reducible refine below_drewN ?_ _) | (with_reducible refine Below.alloc ?_ ?_ _) | (with_reducible refine Below.setCell ?_ ?_ _) | (refine Below.trans ?_ (Below.mono (by assumption) (by first | omega | (with_reducible exact Below.size (by assumption)) | (simp; done) | (simp; omega)))) | (with_reducible exact Nat.le_refl _) | omega | (with_reducible exact Below.size (by assumption)) | (simp only [World.size_alloc, World.size_setCell, World.size_drew]; omega) | (simp; done) | (simp; omega)))
    clear hbe hbeld ogd owd od
    go_wp2_with fail
    refine (heldDeeds_any v1 ns.length 1 _ (by have := Rds.ofOwns oge; exact this) (by omega) (by omega) (by omega)).mono ?_
    rintro e wf ⟨rfl, hbf⟩
    have hbelf : Below w.heap.size w wf := by (repeat' (first | (with_reducible exact Below.refl _ _) | (with_reducible assumption) | (with_reducible refine Below.drew ?_) | (with_reducible refine below_drewN ?_ _) | (with_reducible refine Below.alloc ?_ ?_ _) | (with_reducible refine Below.setCell ?_ ?_ _) | (refine Below.trans ?_ (Below.mono (by assumption) (by first | omega | (with_reducible exact Below.size (by assumption)) | (simp; done) | (simp; omega)))) | (with_reducible exact Nat.le_refl _) | omega | (with_reducible exact Below.size (by assumption)) | (simp only [World.size_alloc, World.size_setCell, World.size_drew]; omega) | (simp; done) | (simp; omega)))
    go_wp2
    go_returns
    exact ⟨rfl, hbelf⟩
  · clear hx2
    go_wp2
    go_returns
    exact ⟨rfl, hbelA⟩

end Go.Proofs.Ytedadhoneebfnaa
