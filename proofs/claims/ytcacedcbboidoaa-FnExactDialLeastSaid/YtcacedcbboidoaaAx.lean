/- The walk of the exact law of DialLeast. -/
import Derived.Test.YtcacedcbboidoaaDs
import Derived.Test.YtcacedcbboidoaaSh
set_option linter.unusedSimpArgs false
set_option linter.unusedVariables false
namespace Go.Proofs.Ytcacedcbboidoaa
open Go.RowKit

set_option maxHeartbeats 1000000 in
theorem exDialLeast (v : Value) (zs : List Int) (w : World) (hv : Rds w v zs.length 1 (ints zs)) (hwf : ∀ z ∈ zs, (Lit.int .i64 z).wf = true) :
    Calls Try.prog 17 #[v] w fun e w' => e = .returned (.bool true) ∧ Below w.heap.size w w' := by
  clear hwf
  have HV := Lib.hid hv
  obtain ⟨a, ca, rfl, hl1, hm1, hn1, hc1⟩ := hv.open1
  unfold maxLen at hm1
  clear hv hc1 hl1
  by_cases hbig : (zs.length : Int) > 1048576
  · go_enter Try.func17, Try.ntmps17
    go_wp2
    go_returns
    exact ⟨rfl, Below.refl _ _⟩
  · have hn : zs.length ≤ 1048576 := by omega
    have HNL := Lib.hid hn
    clear hn
    go_enter Try.func17, Try.ntmps17
    go_wp2_with fail
    refine (toIntS_any _ zs _ HV.out HNL.out).mono ?_
    rintro e w1 ⟨g1, rfl, hg1, hO1, hb1⟩
    have hz1 := hb1.size
    go_wp2_with fail
    refine (sDialLeast_any _ zs _ (Rds.ofOwn hO1)).mono ?_
    rintro e w2 ⟨t, rfl, ht, hb2⟩
    have hbel2 : Below w.heap.size w w2 := by (repeat' (first | (with_reducible exact Below.refl _ _) | (with_reducible assumption) | (with_reducible refine Below.drew ?_) | (with_reducible refine below_drewN ?_ _) | (with_reducible refine Below.alloc ?_ ?_ _) | (with_reducible refine Below.setCell ?_ ?_ _) | (refine Below.trans ?_ (Below.mono (by assumption) (by first | omega | (with_reducible exact Below.size (by assumption)) | (simp; done) | (simp; omega)))) | (with_reducible exact Nat.le_refl _) | omega | (with_reducible exact Below.size (by assumption)) | (simp only [World.size_alloc, World.size_setCell, World.size_drew]; omega) | (simp; done) | (simp; omega)))
    have HT := Lib.hid ht
    have hz2 := hb2.size
    clear ht hO1 hg1 hb1 hb2
    go_wp2_with fail
    refine (toIntS_any _ zs _ (HV.out.below hbel2) HNL.out).mono ?_
    rintro e w3 ⟨g3, rfl, hg3, hO3, hb3⟩
    have hbel3 : Below w.heap.size w w3 := by (repeat' (first | (with_reducible exact Below.refl _ _) | (with_reducible assumption) | (with_reducible refine Below.drew ?_) | (with_reducible refine below_drewN ?_ _) | (with_reducible refine Below.alloc ?_ ?_ _) | (with_reducible refine Below.setCell ?_ ?_ _) | (refine Below.trans ?_ (Below.mono (by assumption) (by first | omega | (with_reducible exact Below.size (by assumption)) | (simp; done) | (simp; omega)))) | (with_reducible exact Nat.le_refl _) | omega | (with_reducible exact Below.size (by assumption)) | (simp only [World.size_alloc, World.size_setCell, World.size_drew]; omega) | (simp; done) | (simp; omega)))
    have hz3 := hb3.size
    go_wp2_with fail
    refine (iDialLeast_any _ zs _ (Rds.ofOwn hO3)).mono ?_
    rintro e w4 ⟨u, rfl, hu, hb4⟩
    obtain rfl : u = t := hu.unique HT.out
    have hbel4 : Below w.heap.size w w4 := by (repeat' (first | (with_reducible exact Below.refl _ _) | (with_reducible assumption) | (with_reducible refine Below.drew ?_) | (with_reducible refine below_drewN ?_ _) | (with_reducible refine Below.alloc ?_ ?_ _) | (with_reducible refine Below.setCell ?_ ?_ _) | (refine Below.trans ?_ (Below.mono (by assumption) (by first | omega | (with_reducible exact Below.size (by assumption)) | (simp; done) | (simp; omega)))) | (with_reducible exact Nat.le_refl _) | omega | (with_reducible exact Below.size (by assumption)) | (simp only [World.size_alloc, World.size_setCell, World.size_drew]; omega) | (simp; done) | (simp; omega)))
    have hO4 := hO3.below hb4 hO3.lt
    clear hb3 hb4 hO3
    have hne : (u != u) = false := by simp
    go_wp2_with fail
    refine (toIntS_any _ zs _ (HV.out.below hbel4) HNL.out).mono ?_
    rintro e w6 ⟨g6, rfl, hg6, hO6, hb6⟩
    have hbel6 : Below w.heap.size w w6 := by (repeat' (first | (with_reducible exact Below.refl _ _) | (with_reducible assumption) | (with_reducible refine Below.drew ?_) | (with_reducible refine below_drewN ?_ _) | (with_reducible refine Below.alloc ?_ ?_ _) | (with_reducible refine Below.setCell ?_ ?_ _) | (refine Below.trans ?_ (Below.mono (by assumption) (by first | omega | (with_reducible exact Below.size (by assumption)) | (simp; done) | (simp; omega)))) | (with_reducible exact Nat.le_refl _) | omega | (with_reducible exact Below.size (by assumption)) | (simp only [World.size_alloc, World.size_setCell, World.size_drew]; omega) | (simp; done) | (simp; omega)))
    have hr3 := Rds.ofOwn (hO4.below hb6 hO4.lt)
    have hr6 := Rds.ofOwn hO6
    clear hb6 hO6 hO4
    go_wp2_with fail
    refine (eqIntS_any _ _ zs zs _ hr3 hr6).mono ?_
    rintro e w7 ⟨rfl, hb7⟩
    rw [decide_eq_true rfl]
    have hbel7 : Below w.heap.size w w7 := by (repeat' (first | (with_reducible exact Below.refl _ _) | (with_reducible assumption) | (with_reducible refine Below.drew ?_) | (with_reducible refine below_drewN ?_ _) | (with_reducible refine Below.alloc ?_ ?_ _) | (with_reducible refine Below.setCell ?_ ?_ _) | (refine Below.trans ?_ (Below.mono (by assumption) (by first | omega | (with_reducible exact Below.size (by assumption)) | (simp; done) | (simp; omega)))) | (with_reducible exact Nat.le_refl _) | omega | (with_reducible exact Below.size (by assumption)) | (simp only [World.size_alloc, World.size_setCell, World.size_drew]; omega) | (simp; done) | (simp; omega)))
    go_wp2
    go_returns
    exact ⟨rfl, hbel7⟩

end Go.Proofs.Ytcacedcbboidoaa
