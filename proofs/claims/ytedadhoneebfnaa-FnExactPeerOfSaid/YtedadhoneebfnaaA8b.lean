/- The walks of the exact laws of ExchangeValid, LineOf, PeerOf. -/
import Derived.Test.YtedadhoneebfnaaLp
import Derived.Test.YtedadhoneebfnaaEh
import Derived.Test.YtedadhoneebfnaaRg
set_option linter.unusedSimpArgs false
set_option linter.unusedVariables false
namespace Go.Proofs.Ytedadhoneebfnaa
open Go.RowKit

set_option maxRecDepth 100000 in
set_option maxHeartbeats 2000000 in
theorem exLineOf (O E M : Int) (vp vc : Value) (ps : List ByteArray) (cs : List Cl) (s : ByteArray) (w : World) (hR : ExRd w vp vc ps cs) (hL : StLen ps) (hs : s.size ≤ maxLen) :
    Calls Try.prog 4 #[.agg #[.int .i64 O, .int .i64 E, .int .i64 M, vp, vc], .string s] w fun e w' => e = .returned (.bool true) ∧ Below w.heap.size w w' := by
  have hB := Blk.new (w := w) (cs := #[.int .i64 O, .int .i64 E, .int .i64 M, vp, vc]) (T := 27) rfl
  have hbel0 : Below w.heap.size w (w.alloc (.cells #[.int .i64 O, .int .i64 E, .int .i64 M, vp, vc] 27)) := by (repeat' (first | (with_reducible exact Below.refl _ _) | (with_reducible assumption) | (with_reducible refine Below.drew ?_) | (with_reducible refine below_drewN ?_ _) | (with_reducible refine Below.alloc ?_ ?_ _) | (with_reducible refine Below.setCell ?_ ?_ _) | (refine Below.trans ?_ (Below.mono (by assumption) (by first | omega | (with_reducible exact Below.size (by assumption)) | (simp; done) | (simp; omega)))) | (with_reducible exact Nat.le_refl _) | omega | (with_reducible exact Below.size (by assumption)) | (simp only [World.size_alloc, World.size_setCell, World.size_drew]; omega) | (simp; done) | (simp; omega)))
  have HR := Lib.hid hR
  have HL := Lib.hid hL
  obtain ⟨a1, c1, rfl, _⟩ := hR.plan.open1
  obtain ⟨_, _, a2, c2, rfl, _⟩ := hR.calls
  clear hR hL
  obtain ⟨p0, p1, p2, p3, p4, _, _, _, _, _, plt⟩ := hB.five
  obtain ⟨d, hd⟩ : ∃ d, lineX O E M ps cs s = d := ⟨_, rfl⟩
  have HD := Lib.hid hd
  have hdd : (d != d) = false := by simp
  clear hd
  unfold maxLen at hs
  by_cases hbig : (s.size : Int) > 1048576
  · go_enter Try.func4, Try.ntmps4
    go_wp2
    go_returns
    exact ⟨rfl, by (repeat' (first | (with_reducible exact Below.refl _ _) | (with_reducible assumption) | (with_reducible refine Below.drew ?_) | (with_reducible refine below_drewN ?_ _) | (with_reducible refine Below.alloc ?_ ?_ _) | (with_reducible refine Below.setCell ?_ ?_ _) | (refine Below.trans ?_ (Below.mono (by assumption) (by first | omega | (with_reducible exact Below.size (by assumption)) | (simp; done) | (simp; omega)))) | (with_reducible exact Nat.le_refl _) | omega | (with_reducible exact Below.size (by assumption)) | (simp only [World.size_alloc, World.size_setCell, World.size_drew]; omega) | (simp; done) | (simp; omega)))⟩
  go_enter Try.func4, Try.ntmps4
  go_wp2_with fail
  refine (szExchange_any O E M _ _ ps cs _ (HR.out.below hbel0) HL.out).mono ?_
  rintro e w0 ⟨x, rfl, hx0, hx1, hx2, hb0⟩
  have hbelA : Below w.heap.size w w0 := by (repeat' (first | (with_reducible exact Below.refl _ _) | (with_reducible assumption) | (with_reducible refine Below.drew ?_) | (with_reducible refine below_drewN ?_ _) | (with_reducible refine Below.alloc ?_ ?_ _) | (with_reducible refine Below.setCell ?_ ?_ _) | (refine Below.trans ?_ (Below.mono (by assumption) (by first | omega | (with_reducible exact Below.size (by assumption)) | (simp; done) | (simp; omega)))) | (with_reducible exact Nat.le_refl _) | omega | (with_reducible exact Below.size (by assumption)) | (simp only [World.size_alloc, World.size_setCell, World.size_drew]; omega) | (simp; done) | (simp; omega)))
  have hBA := hB.belowAll hb0
  clear hB hb0 hbel0 p0 p1 p2 p3 p4 plt
  obtain ⟨p0, p1, p2, p3, p4, _, _, _, _, _, plt⟩ := hBA.five
  by_cases hx : 0 ≤ x
  · obtain ⟨hpn, hcn⟩ := hx2 hx
    have HPN := Lib.hid hpn
    have HCN := Lib.hid hcn
    clear hx2 hpn hcn
    go_wp2_with fail
    refine (toExchange_any O E M _ _ ps cs _ (HR.out.below hbelA) HPN.out HCN.out).mono ?_
    rintro e w1 ⟨g1, h1, rfl, ho1, hb1⟩
    have hbel1 : Below w.heap.size w w1 := by (repeat' (first | (with_reducible exact Below.refl _ _) | (with_reducible assumption) | (with_reducible refine Below.drew ?_) | (with_reducible refine below_drewN ?_ _) | (with_reducible refine Below.alloc ?_ ?_ _) | (with_reducible refine Below.setCell ?_ ?_ _) | (refine Below.trans ?_ (Below.mono (by assumption) (by first | omega | (with_reducible exact Below.size (by assumption)) | (simp; done) | (simp; omega)))) | (with_reducible exact Nat.le_refl _) | omega | (with_reducible exact Below.size (by assumption)) | (simp only [World.size_alloc, World.size_setCell, World.size_drew]; omega) | (simp; done) | (simp; omega)))
    have hB1 := hBA.belowAll hb1
    clear hBA hb1 hbelA p0 p1 p2 p3 p4 plt
    obtain ⟨p0, p1, p2, p3, p4, _, _, _, _, _, plt⟩ := hB1.five
    go_wp2_with fail
    refine (sLineOf_any O E M _ _ ps cs s _ ho1.rd HL.out).mono ?_
    rintro e w2 ⟨rfl, hb2⟩
    rw [HD.out]
    have hbel2 : Below w.heap.size w w2 := by (repeat' (first | (with_reducible exact Below.refl _ _) | (with_reducible assumption) | (with_reducible refine Below.drew ?_) | (with_reducible refine below_drewN ?_ _) | (with_reducible refine Below.alloc ?_ ?_ _) | (with_reducible refine Below.setCell ?_ ?_ _) | (refine Below.trans ?_ (Below.mono (by assumption) (by first | omega | (with_reducible exact Below.size (by assumption)) | (simp; done) | (simp; omega)))) | (with_reducible exact Nat.le_refl _) | omega | (with_reducible exact Below.size (by assumption)) | (simp only [World.size_alloc, World.size_setCell, World.size_drew]; omega) | (simp; done) | (simp; omega)))
    have hB2 := hB1.belowAll hb2
    clear hB1 hb2 hbel1 p0 p1 p2 p3 p4 plt ho1
    obtain ⟨p0, p1, p2, p3, p4, _, _, _, _, _, plt⟩ := hB2.five
    go_wp2_with fail
    refine (toExchange_any O E M _ _ ps cs _ (HR.out.below hbel2) HPN.out HCN.out).mono ?_
    rintro e w3 ⟨g3, h3, rfl, ho3, hb3⟩
    have hbel3 : Below w.heap.size w w3 := by (repeat' (first | (with_reducible exact Below.refl _ _) | (with_reducible assumption) | (with_reducible refine Below.drew ?_) | (with_reducible refine below_drewN ?_ _) | (with_reducible refine Below.alloc ?_ ?_ _) | (with_reducible refine Below.setCell ?_ ?_ _) | (refine Below.trans ?_ (Below.mono (by assumption) (by first | omega | (with_reducible exact Below.size (by assumption)) | (simp; done) | (simp; omega)))) | (with_reducible exact Nat.le_refl _) | omega | (with_reducible exact Below.size (by assumption)) | (simp only [World.size_alloc, World.size_setCell, World.size_drew]; omega) | (simp; done) | (simp; omega)))
    have hB3 := hB2.belowAll hb3
    have hz3 := hB3.lt
    clear hB2 hb3 hbel2 p0 p1 p2 p3 p4 plt
    obtain ⟨p0, p1, p2, p3, p4, _, _, _, _, _, plt⟩ := hB3.five
    have hA3 := Blk.new (w := w3) (cs := #[.int .i64 O, .int .i64 E, .int .i64 M, .slice (some ⟨g3, 0, none⟩) ps.length ps.length, .slice (some ⟨h3, 0, none⟩) cs.length cs.length]) (T := 33) rfl
    have hbA : Below w3.heap.size w3 (w3.alloc (.cells #[.int .i64 O, .int .i64 E, .int .i64 M, .slice (some ⟨g3, 0, none⟩) ps.length ps.length, .slice (some ⟨h3, 0, none⟩) cs.length cs.length] 33)) := by (repeat' (first | (with_reducible exact Below.refl _ _) | (with_reducible assumption) | (with_reducible refine Below.drew ?_) | (with_reducible refine below_drewN ?_ _) | (with_reducible refine Below.alloc ?_ ?_ _) | (with_reducible refine Below.setCell ?_ ?_ _) | (refine Below.trans ?_ (Below.mono (by assumption) (by first | omega | (with_reducible exact Below.size (by assumption)) | (simp; done) | (simp; omega)))) | (with_reducible exact Nat.le_refl _) | omega | (with_reducible exact Below.size (by assumption)) | (simp only [World.size_alloc, World.size_setCell, World.size_drew]; omega) | (simp; done) | (simp; omega)))
    have ho4 := ho3.below hbA
    have hB4 := hB3.belowAll hbA
    have hbel4 : Below w.heap.size w (w3.alloc (.cells #[.int .i64 O, .int .i64 E, .int .i64 M, .slice (some ⟨g3, 0, none⟩) ps.length ps.length, .slice (some ⟨h3, 0, none⟩) cs.length cs.length] 33)) := by (repeat' (first | (with_reducible exact Below.refl _ _) | (with_reducible assumption) | (with_reducible refine Below.drew ?_) | (with_reducible refine below_drewN ?_ _) | (with_reducible refine Below.alloc ?_ ?_ _) | (with_reducible refine Below.setCell ?_ ?_ _) | (refine Below.trans ?_ (Below.mono (by assumption) (by first | omega | (with_reducible exact Below.size (by assumption)) | (simp; done) | (simp; omega)))) | (with_reducible exact Nat.le_refl _) | omega | (with_reducible exact Below.size (by assumption)) | (simp only [World.size_alloc, World.size_setCell, World.size_drew]; omega) | (simp; done) | (simp; omega)))
    obtain ⟨r0, r1, r2, r3, r4, _, _, _, _, _, rlt⟩ := hA3.five
    go_wp2_with fail
    refine (iLineOf_any O E M _ _ ps cs s _ ho4.rd HL.out).mono ?_
    rintro e w5 ⟨rfl, hb5⟩
    rw [HD.out]
    have hbel5 : Below w.heap.size w w5 := by (repeat' (first | (with_reducible exact Below.refl _ _) | (with_reducible assumption) | (with_reducible refine Below.drew ?_) | (with_reducible refine below_drewN ?_ _) | (with_reducible refine Below.alloc ?_ ?_ _) | (with_reducible refine Below.setCell ?_ ?_ _) | (refine Below.trans ?_ (Below.mono (by assumption) (by first | omega | (with_reducible exact Below.size (by assumption)) | (simp; done) | (simp; omega)))) | (with_reducible exact Nat.le_refl _) | omega | (with_reducible exact Below.size (by assumption)) | (simp only [World.size_alloc, World.size_setCell, World.size_drew]; omega) | (simp; done) | (simp; omega)))
    have hB5 := hB4.belowAll hb5
    have hA5 := hA3.belowAll hb5
    have ho5 := ho4.below hb5
    clear hB3 hB4 hA3 hb5 hbA hbel4 hbel3 p0 p1 p2 p3 p4 plt r0 r1 r2 r3 r4 rlt ho3 ho4
    obtain ⟨p0, p1, p2, p3, p4, _, _, _, _, _, plt⟩ := hB5.five
    obtain ⟨r0, r1, r2, r3, r4, _, _, _, _, _, rlt⟩ := hA5.five
    go_wp2_with fail
    refine wp_region_held_drew (S := fun w' => (w'.cell? ⟨w.heap.size, 0, none⟩ = some (.int .i64 O) ∧ w'.cell? ⟨w.heap.size, 1, none⟩ = some (.int .i64 E) ∧ w'.cell? ⟨w.heap.size, 2, none⟩ = some (.int .i64 M) ∧ w'.cell? ⟨w.heap.size, 3, none⟩ = some (.slice a1 ps.length c1) ∧ w'.cell? ⟨w.heap.size, 4, none⟩ = some (.slice a2 cs.length c2)) ∧ w'.cell? ⟨w3.heap.size, 0, none⟩ = some (.int .i64 O) ∧ w'.cell? ⟨w3.heap.size, 1, none⟩ = some (.int .i64 E) ∧ w'.cell? ⟨w3.heap.size, 2, none⟩ = some (.int .i64 M) ∧ w'.cell? ⟨w3.heap.size, 3, none⟩ = some (.slice (some ⟨g3, 0, none⟩) ps.length ps.length) ∧ w'.cell? ⟨w3.heap.size, 4, none⟩ = some (.slice (some ⟨h3, 0, none⟩) cs.length cs.length)) (by kernel_rfl) (by (try dsimp only); ((repeat' (first | (with_reducible assumption) | (with_reducible apply And.intro) | (with_reducible apply keep_drew) | (with_reducible apply keep_drewN) | (simp [go_sem, World.cell?_alloc_past]; done) | (simp [*]; done) | (with_reducible apply keep_other (by first | (simp; done) | (simp; omega) | omega)) | (with_reducible apply keep_below (by assumption)) | (with_reducible apply keep_alloc))))) (fun hHeld => ?_)
    refine take_on (i := 0) (d := some 29) (v := ?_) rfl (by rfl) (by kernel_rfl) (by kernel_rfl) (by kernel_rfl) (fun _ _ _ h => h) (Or.inl ⟨by kernel_rfl, ?_⟩) (by assumption) ?_
    rotate_left
    focus (intro w hSw; (try dsimp only at hSw); go_simp; (try with_reducible rfl))
    try simp only [Act.put, List.setIfInBounds_toArray, List.set_cons_zero, List.set_cons_succ]
    refine take_on (i := 1) (d := some 30) (v := ?_) rfl (by rfl) (by kernel_rfl) (by kernel_rfl) (by kernel_rfl) (fun _ _ _ h => h) (Or.inl ⟨by kernel_rfl, ?_⟩) (by assumption) ?_
    rotate_left
    focus (intro w hSw; (try dsimp only at hSw); go_simp; (try with_reducible rfl))
    try simp only [Act.put, List.setIfInBounds_toArray, List.set_cons_zero, List.set_cons_succ]
    refine wpAnyH_ready (rs := [2]) (by kernel_rfl) (by simp) ?_
    refine AllReadyH.cons rfl (fun K hK => ?_) AllReadyH.nil
    go_simp
    refine (toExchange_any O E M _ _ ps cs _ (HR.out.below hbel5.drew) HPN.out HCN.out).mono ?_
    rintro e w6 ⟨g6, h6, rfl, ho6, hb6⟩
    refine hK.out _ _ (by (try dsimp only); ((repeat' (first | (with_reducible assumption) | (with_reducible apply And.intro) | (with_reducible apply keep_drew) | (with_reducible apply keep_drewN) | (simp [go_sem, World.cell?_alloc_past]; done) | (simp [*]; done) | (with_reducible apply keep_other (by first | (simp; done) | (simp; omega) | omega)) | (with_reducible apply keep_below (by assumption)) | (with_reducible apply keep_alloc))))) (fun hHeld2 => ?_); clear hHeld hK K; have hHeld := hHeld2; clear hHeld2; (try simp only [Act.put, List.setIfInBounds_toArray, List.set_cons_zero, List.set_cons_succ])
    have hHc := hHeld
    obtain ⟨⟨e0, e1, e2, e3, e4⟩, e5, e6, e7, e8, e9⟩ := hHc
    have hbel6 : Below w.heap.size w w6 := (hbel5.drew).trans (Below.mono hb6 hbel5.size)
    have ho56 := ExOwn.below (w := w5.drew) hb6 (ho5.drewN 1)
    clear hb6 hbel5 hA5 hB5 p0 p1 p2 p3 p4 plt r0 r1 r2 r3 r4 rlt ho5
    refine wpAnyH_ready (rs := [3]) (by kernel_rfl) (by simp) ?_
    refine AllReadyH.cons rfl (fun K hK => ?_) AllReadyH.nil
    go_simp
    refine (eqExchange_any O E M O E M _ _ _ _ ps ps cs cs _ ho56.rd ho6.rd).mono ?_
    rintro e w7 ⟨rfl, hb7⟩
    rw [decide_eq_true rfl, decide_eq_true rfl, decide_eq_true rfl]
    refine hK.out _ _ (by (try dsimp only); ((repeat' (first | (with_reducible assumption) | (with_reducible apply And.intro) | (with_reducible apply keep_drew) | (with_reducible apply keep_drewN) | (simp [go_sem, World.cell?_alloc_past]; done) | (simp [*]; done) | (with_reducible apply keep_other (by first | (simp; done) | (simp; omega) | omega)) | (with_reducible apply keep_below (by assumption)) | (with_reducible apply keep_alloc))))) (fun hHeld2 => ?_); clear hHeld hK K; have hHeld := hHeld2; clear hHeld2; (try simp only [Act.put, List.setIfInBounds_toArray, List.set_cons_zero, List.set_cons_succ])
    have hbel7 : Below w.heap.size w w7 := by (repeat' (first | (with_reducible exact Below.refl _ _) | (with_reducible assumption) | (with_reducible refine Below.drew ?_) | (with_reducible refine below_drewN ?_ _) | (with_reducible refine Below.alloc ?_ ?_ _) | (with_reducible refine Below.setCell ?_ ?_ _) | (refine Below.trans ?_ (Below.mono (by assumption) (by first | omega | (with_reducible exact Below.size (by assumption)) | (simp; done) | (simp; omega)))) | (with_reducible exact Nat.le_refl _) | omega | (with_reducible exact Below.size (by assumption)) | (simp only [World.size_alloc, World.size_setCell, World.size_drew]; omega) | (simp; done) | (simp; omega)))
    refine take_on (i := 4) (d := some 33) (v := ?_) rfl (by rfl) (by kernel_rfl) (by kernel_rfl) (by kernel_rfl) (fun _ _ _ h => h) (Or.inl ⟨by kernel_rfl, ?_⟩) (by assumption) ?_
    rotate_left
    focus (intro w hSw; (try dsimp only at hSw); go_simp; (try with_reducible rfl))
    try simp only [Act.put, List.setIfInBounds_toArray, List.set_cons_zero, List.set_cons_succ]
    refine wpAnyH_done (by kernel_rfl) ?_ _
    clear hHeld
    go_wp2
    go_returns
    exact ⟨rfl, hbel7⟩
  · clear hx2
    go_wp2
    go_returns
    exact ⟨rfl, hbelA⟩

set_option maxRecDepth 100000 in
set_option maxHeartbeats 2000000 in
theorem exPeerOf (O E M : Int) (vp vc : Value) (ps : List ByteArray) (cs : List Cl) (z : Int) (w : World) (hR : ExRd w vp vc ps cs) (hL : StLen ps) (hz : (Lit.int .i64 z).wf = true) :
    Calls Try.prog 5 #[.agg #[.int .i64 O, .int .i64 E, .int .i64 M, vp, vc], .int .i64 z] w fun e w' => e = .returned (.bool true) ∧ Below w.heap.size w w' := by
  have hB := Blk.new (w := w) (cs := #[.int .i64 O, .int .i64 E, .int .i64 M, vp, vc]) (T := 27) rfl
  have hbel0 : Below w.heap.size w (w.alloc (.cells #[.int .i64 O, .int .i64 E, .int .i64 M, vp, vc] 27)) := by (repeat' (first | (with_reducible exact Below.refl _ _) | (with_reducible assumption) | (with_reducible refine Below.drew ?_) | (with_reducible refine below_drewN ?_ _) | (with_reducible refine Below.alloc ?_ ?_ _) | (with_reducible refine Below.setCell ?_ ?_ _) | (refine Below.trans ?_ (Below.mono (by assumption) (by first | omega | (with_reducible exact Below.size (by assumption)) | (simp; done) | (simp; omega)))) | (with_reducible exact Nat.le_refl _) | omega | (with_reducible exact Below.size (by assumption)) | (simp only [World.size_alloc, World.size_setCell, World.size_drew]; omega) | (simp; done) | (simp; omega)))
  have HR := Lib.hid hR
  have HL := Lib.hid hL
  obtain ⟨a1, c1, rfl, _⟩ := hR.plan.open1
  obtain ⟨_, _, a2, c2, rfl, _⟩ := hR.calls
  clear hR hL
  obtain ⟨p0, p1, p2, p3, p4, _, _, _, _, _, plt⟩ := hB.five
  obtain ⟨d, hd⟩ : ∃ d, peerX O E M ps cs z = d := ⟨_, rfl⟩
  have HD := Lib.hid hd
  have hdd : (d != d) = false := by simp
  clear hd
  go_enter Try.func5, Try.ntmps5
  go_wp2_with fail
  refine (szExchange_any O E M _ _ ps cs _ (HR.out.below hbel0) HL.out).mono ?_
  rintro e w0 ⟨x, rfl, hx0, hx1, hx2, hb0⟩
  have hbelA : Below w.heap.size w w0 := by (repeat' (first | (with_reducible exact Below.refl _ _) | (with_reducible assumption) | (with_reducible refine Below.drew ?_) | (with_reducible refine below_drewN ?_ _) | (with_reducible refine Below.alloc ?_ ?_ _) | (with_reducible refine Below.setCell ?_ ?_ _) | (refine Below.trans ?_ (Below.mono (by assumption) (by first | omega | (with_reducible exact Below.size (by assumption)) | (simp; done) | (simp; omega)))) | (with_reducible exact Nat.le_refl _) | omega | (with_reducible exact Below.size (by assumption)) | (simp only [World.size_alloc, World.size_setCell, World.size_drew]; omega) | (simp; done) | (simp; omega)))
  have hBA := hB.belowAll hb0
  clear hB hb0 hbel0 p0 p1 p2 p3 p4 plt
  obtain ⟨p0, p1, p2, p3, p4, _, _, _, _, _, plt⟩ := hBA.five
  by_cases hx : 0 ≤ x
  · obtain ⟨hpn, hcn⟩ := hx2 hx
    have HPN := Lib.hid hpn
    have HCN := Lib.hid hcn
    clear hx2 hpn hcn
    go_wp2_with fail
    refine (toExchange_any O E M _ _ ps cs _ (HR.out.below hbelA) HPN.out HCN.out).mono ?_
    rintro e w1 ⟨g1, h1, rfl, ho1, hb1⟩
    have hbel1 : Below w.heap.size w w1 := by (repeat' (first | (with_reducible exact Below.refl _ _) | (with_reducible assumption) | (with_reducible refine Below.drew ?_) | (with_reducible refine below_drewN ?_ _) | (with_reducible refine Below.alloc ?_ ?_ _) | (with_reducible refine Below.setCell ?_ ?_ _) | (refine Below.trans ?_ (Below.mono (by assumption) (by first | omega | (with_reducible exact Below.size (by assumption)) | (simp; done) | (simp; omega)))) | (with_reducible exact Nat.le_refl _) | omega | (with_reducible exact Below.size (by assumption)) | (simp only [World.size_alloc, World.size_setCell, World.size_drew]; omega) | (simp; done) | (simp; omega)))
    have hB1 := hBA.belowAll hb1
    clear hBA hb1 hbelA p0 p1 p2 p3 p4 plt
    obtain ⟨p0, p1, p2, p3, p4, _, _, _, _, _, plt⟩ := hB1.five
    go_wp2_with fail
    refine (sPeerOf_any O E M _ _ ps cs z _ ho1.rd HL.out).mono ?_
    rintro e w2 ⟨rfl, hb2⟩
    rw [HD.out]
    have hbel2 : Below w.heap.size w w2 := by (repeat' (first | (with_reducible exact Below.refl _ _) | (with_reducible assumption) | (with_reducible refine Below.drew ?_) | (with_reducible refine below_drewN ?_ _) | (with_reducible refine Below.alloc ?_ ?_ _) | (with_reducible refine Below.setCell ?_ ?_ _) | (refine Below.trans ?_ (Below.mono (by assumption) (by first | omega | (with_reducible exact Below.size (by assumption)) | (simp; done) | (simp; omega)))) | (with_reducible exact Nat.le_refl _) | omega | (with_reducible exact Below.size (by assumption)) | (simp only [World.size_alloc, World.size_setCell, World.size_drew]; omega) | (simp; done) | (simp; omega)))
    have hB2 := hB1.belowAll hb2
    clear hB1 hb2 hbel1 p0 p1 p2 p3 p4 plt ho1
    obtain ⟨p0, p1, p2, p3, p4, _, _, _, _, _, plt⟩ := hB2.five
    go_wp2_with fail
    refine (toExchange_any O E M _ _ ps cs _ (HR.out.below hbel2) HPN.out HCN.out).mono ?_
    rintro e w3 ⟨g3, h3, rfl, ho3, hb3⟩
    have hbel3 : Below w.heap.size w w3 := by (repeat' (first | (with_reducible exact Below.refl _ _) | (with_reducible assumption) | (with_reducible refine Below.drew ?_) | (with_reducible refine below_drewN ?_ _) | (with_reducible refine Below.alloc ?_ ?_ _) | (with_reducible refine Below.setCell ?_ ?_ _) | (refine Below.trans ?_ (Below.mono (by assumption) (by first | omega | (with_reducible exact Below.size (by assumption)) | (simp; done) | (simp; omega)))) | (with_reducible exact Nat.le_refl _) | omega | (with_reducible exact Below.size (by assumption)) | (simp only [World.size_alloc, World.size_setCell, World.size_drew]; omega) | (simp; done) | (simp; omega)))
    have hB3 := hB2.belowAll hb3
    have hz3 := hB3.lt
    clear hB2 hb3 hbel2 p0 p1 p2 p3 p4 plt
    obtain ⟨p0, p1, p2, p3, p4, _, _, _, _, _, plt⟩ := hB3.five
    have hA3 := Blk.new (w := w3) (cs := #[.int .i64 O, .int .i64 E, .int .i64 M, .slice (some ⟨g3, 0, none⟩) ps.length ps.length, .slice (some ⟨h3, 0, none⟩) cs.length cs.length]) (T := 33) rfl
    have hbA : Below w3.heap.size w3 (w3.alloc (.cells #[.int .i64 O, .int .i64 E, .int .i64 M, .slice (some ⟨g3, 0, none⟩) ps.length ps.length, .slice (some ⟨h3, 0, none⟩) cs.length cs.length] 33)) := by (repeat' (first | (with_reducible exact Below.refl _ _) | (with_reducible assumption) | (with_reducible refine Below.drew ?_) | (with_reducible refine below_drewN ?_ _) | (with_reducible refine Below.alloc ?_ ?_ _) | (with_reducible refine Below.setCell ?_ ?_ _) | (refine Below.trans ?_ (Below.mono (by assumption) (by first | omega | (with_reducible exact Below.size (by assumption)) | (simp; done) | (simp; omega)))) | (with_reducible exact Nat.le_refl _) | omega | (with_reducible exact Below.size (by assumption)) | (simp only [World.size_alloc, World.size_setCell, World.size_drew]; omega) | (simp; done) | (simp; omega)))
    have ho4 := ho3.below hbA
    have hB4 := hB3.belowAll hbA
    have hbel4 : Below w.heap.size w (w3.alloc (.cells #[.int .i64 O, .int .i64 E, .int .i64 M, .slice (some ⟨g3, 0, none⟩) ps.length ps.length, .slice (some ⟨h3, 0, none⟩) cs.length cs.length] 33)) := by (repeat' (first | (with_reducible exact Below.refl _ _) | (with_reducible assumption) | (with_reducible refine Below.drew ?_) | (with_reducible refine below_drewN ?_ _) | (with_reducible refine Below.alloc ?_ ?_ _) | (with_reducible refine Below.setCell ?_ ?_ _) | (refine Below.trans ?_ (Below.mono (by assumption) (by first | omega | (with_reducible exact Below.size (by assumption)) | (simp; done) | (simp; omega)))) | (with_reducible exact Nat.le_refl _) | omega | (with_reducible exact Below.size (by assumption)) | (simp only [World.size_alloc, World.size_setCell, World.size_drew]; omega) | (simp; done) | (simp; omega)))
    obtain ⟨r0, r1, r2, r3, r4, _, _, _, _, _, rlt⟩ := hA3.five
    go_wp2_with fail
    refine (iPeerOf_any O E M _ _ ps cs z _ ho4.rd HL.out).mono ?_
    rintro e w5 ⟨rfl, hb5⟩
    rw [HD.out]
    have hbel5 : Below w.heap.size w w5 := by (repeat' (first | (with_reducible exact Below.refl _ _) | (with_reducible assumption) | (with_reducible refine Below.drew ?_) | (with_reducible refine below_drewN ?_ _) | (with_reducible refine Below.alloc ?_ ?_ _) | (with_reducible refine Below.setCell ?_ ?_ _) | (refine Below.trans ?_ (Below.mono (by assumption) (by first | omega | (with_reducible exact Below.size (by assumption)) | (simp; done) | (simp; omega)))) | (with_reducible exact Nat.le_refl _) | omega | (with_reducible exact Below.size (by assumption)) | (simp only [World.size_alloc, World.size_setCell, World.size_drew]; omega) | (simp; done) | (simp; omega)))
    have hB5 := hB4.belowAll hb5
    have hA5 := hA3.belowAll hb5
    have ho5 := ho4.below hb5
    clear hB3 hB4 hA3 hb5 hbA hbel4 hbel3 p0 p1 p2 p3 p4 plt r0 r1 r2 r3 r4 rlt ho3 ho4
    obtain ⟨p0, p1, p2, p3, p4, _, _, _, _, _, plt⟩ := hB5.five
    obtain ⟨r0, r1, r2, r3, r4, _, _, _, _, _, rlt⟩ := hA5.five
    go_wp2_with fail
    refine wp_region_held_drew (S := fun w' => (w'.cell? ⟨w.heap.size, 0, none⟩ = some (.int .i64 O) ∧ w'.cell? ⟨w.heap.size, 1, none⟩ = some (.int .i64 E) ∧ w'.cell? ⟨w.heap.size, 2, none⟩ = some (.int .i64 M) ∧ w'.cell? ⟨w.heap.size, 3, none⟩ = some (.slice a1 ps.length c1) ∧ w'.cell? ⟨w.heap.size, 4, none⟩ = some (.slice a2 cs.length c2)) ∧ w'.cell? ⟨w3.heap.size, 0, none⟩ = some (.int .i64 O) ∧ w'.cell? ⟨w3.heap.size, 1, none⟩ = some (.int .i64 E) ∧ w'.cell? ⟨w3.heap.size, 2, none⟩ = some (.int .i64 M) ∧ w'.cell? ⟨w3.heap.size, 3, none⟩ = some (.slice (some ⟨g3, 0, none⟩) ps.length ps.length) ∧ w'.cell? ⟨w3.heap.size, 4, none⟩ = some (.slice (some ⟨h3, 0, none⟩) cs.length cs.length)) (by kernel_rfl) (by (try dsimp only); ((repeat' (first | (with_reducible assumption) | (with_reducible apply And.intro) | (with_reducible apply keep_drew) | (with_reducible apply keep_drewN) | (simp [go_sem, World.cell?_alloc_past]; done) | (simp [*]; done) | (with_reducible apply keep_other (by first | (simp; done) | (simp; omega) | omega)) | (with_reducible apply keep_below (by assumption)) | (with_reducible apply keep_alloc))))) (fun hHeld => ?_)
    refine take_on (i := 0) (d := some 26) (v := ?_) rfl (by rfl) (by kernel_rfl) (by kernel_rfl) (by kernel_rfl) (fun _ _ _ h => h) (Or.inl ⟨by kernel_rfl, ?_⟩) (by assumption) ?_
    rotate_left
    focus (intro w hSw; (try dsimp only at hSw); go_simp; (try with_reducible rfl))
    try simp only [Act.put, List.setIfInBounds_toArray, List.set_cons_zero, List.set_cons_succ]
    refine take_on (i := 1) (d := some 27) (v := ?_) rfl (by rfl) (by kernel_rfl) (by kernel_rfl) (by kernel_rfl) (fun _ _ _ h => h) (Or.inl ⟨by kernel_rfl, ?_⟩) (by assumption) ?_
    rotate_left
    focus (intro w hSw; (try dsimp only at hSw); go_simp; (try with_reducible rfl))
    try simp only [Act.put, List.setIfInBounds_toArray, List.set_cons_zero, List.set_cons_succ]
    refine wpAnyH_ready (rs := [2]) (by kernel_rfl) (by simp) ?_
    refine AllReadyH.cons rfl (fun K hK => ?_) AllReadyH.nil
    go_simp
    refine (toExchange_any O E M _ _ ps cs _ (HR.out.below hbel5.drew) HPN.out HCN.out).mono ?_
    rintro e w6 ⟨g6, h6, rfl, ho6, hb6⟩
    refine hK.out _ _ (by (try dsimp only); ((repeat' (first | (with_reducible assumption) | (with_reducible apply And.intro) | (with_reducible apply keep_drew) | (with_reducible apply keep_drewN) | (simp [go_sem, World.cell?_alloc_past]; done) | (simp [*]; done) | (with_reducible apply keep_other (by first | (simp; done) | (simp; omega) | omega)) | (with_reducible apply keep_below (by assumption)) | (with_reducible apply keep_alloc))))) (fun hHeld2 => ?_); clear hHeld hK K; have hHeld := hHeld2; clear hHeld2; (try simp only [Act.put, List.setIfInBounds_toArray, List.set_cons_zero, List.set_cons_succ])
    have hHc := hHeld
    obtain ⟨⟨e0, e1, e2, e3, e4⟩, e5, e6, e7, e8, e9⟩ := hHc
    have hbel6 : Below w.heap.size w w6 := (hbel5.drew).trans (Below.mono hb6 hbel5.size)
    have ho56 := ExOwn.below (w := w5.drew) hb6 (ho5.drewN 1)
    clear hb6 hbel5 hA5 hB5 p0 p1 p2 p3 p4 plt r0 r1 r2 r3 r4 rlt ho5
    refine wpAnyH_ready (rs := [3]) (by kernel_rfl) (by simp) ?_
    refine AllReadyH.cons rfl (fun K hK => ?_) AllReadyH.nil
    go_simp
    refine (eqExchange_any O E M O E M _ _ _ _ ps ps cs cs _ ho56.rd ho6.rd).mono ?_
    rintro e w7 ⟨rfl, hb7⟩
    rw [decide_eq_true rfl, decide_eq_true rfl, decide_eq_true rfl]
    refine hK.out _ _ (by (try dsimp only); ((repeat' (first | (with_reducible assumption) | (with_reducible apply And.intro) | (with_reducible apply keep_drew) | (with_reducible apply keep_drewN) | (simp [go_sem, World.cell?_alloc_past]; done) | (simp [*]; done) | (with_reducible apply keep_other (by first | (simp; done) | (simp; omega) | omega)) | (with_reducible apply keep_below (by assumption)) | (with_reducible apply keep_alloc))))) (fun hHeld2 => ?_); clear hHeld hK K; have hHeld := hHeld2; clear hHeld2; (try simp only [Act.put, List.setIfInBounds_toArray, List.set_cons_zero, List.set_cons_succ])
    have hbel7 : Below w.heap.size w w7 := by (repeat' (first | (with_reducible exact Below.refl _ _) | (with_reducible assumption) | (with_reducible refine Below.drew ?_) | (with_reducible refine below_drewN ?_ _) | (with_reducible refine Below.alloc ?_ ?_ _) | (with_reducible refine Below.setCell ?_ ?_ _) | (refine Below.trans ?_ (Below.mono (by assumption) (by first | omega | (with_reducible exact Below.size (by assumption)) | (simp; done) | (simp; omega)))) | (with_reducible exact Nat.le_refl _) | omega | (with_reducible exact Below.size (by assumption)) | (simp only [World.size_alloc, World.size_setCell, World.size_drew]; omega) | (simp; done) | (simp; omega)))
    refine take_on (i := 4) (d := some 30) (v := ?_) rfl (by rfl) (by kernel_rfl) (by kernel_rfl) (by kernel_rfl) (fun _ _ _ h => h) (Or.inl ⟨by kernel_rfl, ?_⟩) (by assumption) ?_
    rotate_left
    focus (intro w hSw; (try dsimp only at hSw); go_simp; (try with_reducible rfl))
    try simp only [Act.put, List.setIfInBounds_toArray, List.set_cons_zero, List.set_cons_succ]
    refine wpAnyH_done (by kernel_rfl) ?_ _
    clear hHeld
    go_wp2
    go_returns
    exact ⟨rfl, hbel7⟩
  · clear hx2
    go_wp2
    go_returns
    exact ⟨rfl, hbelA⟩

end Go.Proofs.Ytedadhoneebfnaa
