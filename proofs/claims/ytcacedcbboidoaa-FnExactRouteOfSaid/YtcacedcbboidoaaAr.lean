/- The walk of the exact law of RouteOf. -/
import Derived.Test.YtcacedcbboidoaaMk
import Derived.Test.YtcacedcbboidoaaRe
set_option linter.unusedSimpArgs false
set_option linter.unusedVariables false
namespace Go.Proofs.Ytcacedcbboidoaa
open Go.RowKit

set_option maxHeartbeats 400000 in
theorem exRouteOf (v : Value) (rs : List Rt) (s : ByteArray) (w : World) (hv : Rds w v rs.length 2 (rcells rs)) (hL : RtLen rs) (hs : s.size ≤ maxLen) :
    Calls Try.prog 5 #[v, .string s] w fun e w' => e = .returned (.bool true) ∧ Below w.heap.size w w' := by
  have HV := Lib.hid hv
  have HL := Lib.hid hL
  have hs' := hs
  unfold maxLen at hs'
  clear hv hL
  by_cases hbig : (s.size : Int) > 1048576
  · go_enter Try.func5, Try.ntmps5
    go_wp2
    go_returns
    exact ⟨rfl, Below.refl _ _⟩
  · go_enter Try.func5, Try.ntmps5
    go_wp2_with fail
    refine (szRouteS_any v rs _ HV.out HL.out).mono ?_
    rintro e w1 ⟨x, rfl, hx0, hx1, hx2, hb1⟩
    by_cases hx : 0 ≤ x
    · obtain ⟨hlen, -⟩ := hx2 hx
      have HV1 := Lib.hid (HV.out.below hb1)
      clear hx2
      go_wp2_with fail
      refine (toRouteS_any v rs _ HV1.out hlen).mono ?_
      rintro e w2 ⟨g2, rfl, hg2, hO2, hb2⟩
      have HV2 := Lib.hid (HV1.out.below hb2)
      have hbel2 : Below w.heap.size w w2 := by (repeat' (first | (with_reducible exact Below.refl _ _) | (with_reducible assumption) | (with_reducible refine Below.drew ?_) | (with_reducible refine below_drewN ?_ _) | (with_reducible refine Below.alloc ?_ ?_ _) | (with_reducible refine Below.setCell ?_ ?_ _) | (refine Below.trans ?_ (Below.mono (by assumption) (by first | omega | (with_reducible exact Below.size (by assumption)) | (simp; done) | (simp; omega)))) | (with_reducible exact Nat.le_refl _) | omega | (with_reducible exact Below.size (by assumption)) | (simp only [World.size_alloc, World.size_setCell, World.size_drew]; omega) | (simp; done) | (simp; omega)))
      have hz2 := hbel2.size
      go_wp2_with fail
      refine (sRouteOf_any _ rs s _ (Rds.ofOwn hO2) HL.out hs).mono ?_
      rintro e w3 ⟨rfl, q3, rfl⟩
      clear hO2 hg2 hb2
      go_wp2_with fail
      refine (toRouteS_any v rs _ (HV2.out.drewN q3) hlen).mono ?_
      rintro e w4 ⟨g4, rfl, hg4, hO4, hb4⟩
      have HV4 := Lib.hid ((HV2.out.drewN q3).below hb4)
      have hbel4 : Below w.heap.size w w4 := by (repeat' (first | (with_reducible exact Below.refl _ _) | (with_reducible assumption) | (with_reducible refine Below.drew ?_) | (with_reducible refine below_drewN ?_ _) | (with_reducible refine Below.alloc ?_ ?_ _) | (with_reducible refine Below.setCell ?_ ?_ _) | (refine Below.trans ?_ (Below.mono (by assumption) (by first | omega | (with_reducible exact Below.size (by assumption)) | (simp; done) | (simp; omega)))) | (with_reducible exact Nat.le_refl _) | omega | (with_reducible exact Below.size (by assumption)) | (simp only [World.size_alloc, World.size_setCell, World.size_drew]; omega) | (simp; done) | (simp; omega)))
      clear hb4
      go_wp2_with fail
      refine (iRouteOf_any _ rs s _ (Rds.ofOwn hO4) HL.out hs).mono ?_
      rintro e w5 ⟨rfl, hb5⟩
      have hO5 := Rds.below hb5 (Rds.ofOwn hO4)
      have HV5 := Lib.hid (HV4.out.below hb5)
      have hbel5 : Below w.heap.size w w5 := by (repeat' (first | (with_reducible exact Below.refl _ _) | (with_reducible assumption) | (with_reducible refine Below.drew ?_) | (with_reducible refine below_drewN ?_ _) | (with_reducible refine Below.alloc ?_ ?_ _) | (with_reducible refine Below.setCell ?_ ?_ _) | (refine Below.trans ?_ (Below.mono (by assumption) (by first | omega | (with_reducible exact Below.size (by assumption)) | (simp; done) | (simp; omega)))) | (with_reducible exact Nat.le_refl _) | omega | (with_reducible exact Below.size (by assumption)) | (simp only [World.size_alloc, World.size_setCell, World.size_drew]; omega) | (simp; done) | (simp; omega)))
      obtain ⟨y, hy⟩ : ∃ y, routeR rs s = y := ⟨_, rfl⟩
      rw [hy]
      clear hb5 hO4 hg4 hy
      have hO5' := Lib.hid hO5
      clear hO5
      go_wp2_with fail
      refine (toRouteS_any v rs _ HV5.out hlen).mono ?_
      rintro e w6 ⟨g6, rfl, hg6, hO6, hb6⟩
      have hO7 := hO5'.out.below hb6
      have hbel6 : Below w.heap.size w w6 := by (repeat' (first | (with_reducible exact Below.refl _ _) | (with_reducible assumption) | (with_reducible refine Below.drew ?_) | (with_reducible refine below_drewN ?_ _) | (with_reducible refine Below.alloc ?_ ?_ _) | (with_reducible refine Below.setCell ?_ ?_ _) | (refine Below.trans ?_ (Below.mono (by assumption) (by first | omega | (with_reducible exact Below.size (by assumption)) | (simp; done) | (simp; omega)))) | (with_reducible exact Nat.le_refl _) | omega | (with_reducible exact Below.size (by assumption)) | (simp only [World.size_alloc, World.size_setCell, World.size_drew]; omega) | (simp; done) | (simp; omega)))
      clear hb6
      go_wp2_with fail
      refine (eqRouteS_any _ _ rs rs _ hO7 (Rds.ofOwn hO6)).mono ?_
      rintro e w7 ⟨rfl, hb7⟩
      have hd : decide (rs = rs) = true := by simp
      rw [hd]
      clear hd hO7 hO6
      go_wp2
      go_returns
      exact ⟨rfl, by (repeat' (first | (with_reducible exact Below.refl _ _) | (with_reducible assumption) | (with_reducible refine Below.drew ?_) | (with_reducible refine below_drewN ?_ _) | (with_reducible refine Below.alloc ?_ ?_ _) | (with_reducible refine Below.setCell ?_ ?_ _) | (refine Below.trans ?_ (Below.mono (by assumption) (by first | omega | (with_reducible exact Below.size (by assumption)) | (simp; done) | (simp; omega)))) | (with_reducible exact Nat.le_refl _) | omega | (with_reducible exact Below.size (by assumption)) | (simp only [World.size_alloc, World.size_setCell, World.size_drew]; omega) | (simp; done) | (simp; omega)))⟩
    · clear hx2
      go_wp2
      go_returns
      exact ⟨rfl, hb1⟩

end Go.Proofs.Ytcacedcbboidoaa
