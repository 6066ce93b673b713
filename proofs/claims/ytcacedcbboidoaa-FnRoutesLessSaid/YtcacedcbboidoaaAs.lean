/- The walk of the exact law of RoutesLess. -/
import Derived.Test.YtcacedcbboidoaaRt
import Derived.Test.YtcacedcbboidoaaMk
import Derived.Test.YtcacedcbboidoaaRe
set_option linter.unusedSimpArgs false
set_option linter.unusedVariables false
namespace Go.Proofs.Ytcacedcbboidoaa
open Go.RowKit

theorem lessR_len (rs : List Rt) : (lessR rs).length ≤ 8 := by
  cases h : routesB rs with
  | false => simp [lessR, h]
  | true =>
    have hok := (routesB_iff rs).1 h
    have h1 := (lessR_ok hok).2.1
    have h2 := hok.1
    omega

set_option maxHeartbeats 400000 in
theorem markRts_any (base : Nat) (v : Value) (n : Nat) (rs : List Rt) (k : Nat) (w : World) (hv : w.ownsRow base 32 2 v n (rcells rs)) (hk0 : 0 < k) (hk : k ≤ 1000000) (hn : n ≤ 10000000) :
    Calls Try.prog 63 #[v, .int .i64 k] w fun e w' => e = .returned (.int .i64 (k + 2 * n : Nat)) ∧ w'.ownsRow base 32 2 v n (rcells (rmarks k n)) ∧ w.grownBy w' v.ownBlock := by
  rcases hv.2 with ⟨rfl, rfl⟩ | ⟨g, cap, cur, rfl, hb, _⟩
  · clear hv
    go_enter Try.func63, Try.ntmps63
    go_wp2_with fail
    refine wp_loop_rounds 1 ?_
    rw [rounds_succ]
    go_wp2
    go_returns
    exact ⟨by simp, World.ownsRow_nil _ _ _ _, World.grownBy.refl _ _⟩
  · refine (markRouteS_any g n cap rs k w (Own.of hv).1 hk0 hk hn).mono ?_
    rintro e w' ⟨rfl, h1, h2⟩
    exact ⟨rfl, h1.back hb, h2⟩

set_option maxHeartbeats 1000000 in
theorem exRoutesLess (v : Value) (ps : List Rt) (w : World) (hv : Rds w v ps.length 2 (rcells ps)) (hL : RtLen ps) :
    Calls Try.prog 14 #[v] w fun e w' => e = .returned (.bool true) ∧ Below w.heap.size w w' := by
  have HV := Lib.hid hv
  have HL := Lib.hid hL
  clear hv hL
  obtain ⟨zs, hzs⟩ : ∃ zs, lessR ps = zs := ⟨_, rfl⟩
  have hlen : zs.length ≤ 8 := by rw [← hzs]; exact lessR_len ps
  have HZ := Lib.hid hzs
  clear hzs
  go_enter Try.func14, Try.ntmps14
  go_wp2_with fail
  refine (szRouteS_any v ps _ HV.out HL.out).mono ?_
  rintro e w0 ⟨x, rfl, hx0, hx1, hx2, hb0⟩
  have hz0 := hb0.size
  have HV0 := Lib.hid (HV.out.below hb0)
  by_cases hx : 0 ≤ x
  · obtain ⟨hn, -⟩ := hx2 hx
    have HNL := Lib.hid hn
    clear hx2 hn
    go_wp2_with fail
    refine (toRouteS_any v ps _ HV0.out HNL.out).mono ?_
    rintro e w1 ⟨g1, rfl, hg1, hO1, hb1⟩
    have hz1 := hb1.size
    go_wp2_with fail
    refine (sRoutesLess_any _ _ _ ps _ (Rds.ofOwn hO1) HL.out).mono ?_
    rintro e w2 ⟨v0, rfl, ho0, hb2⟩
    rw [HZ.out] at ho0
    have hbel2 : Below w.heap.size w w2 := by (repeat' (first | (with_reducible exact Below.refl _ _) | (with_reducible assumption) | (with_reducible refine Below.drew ?_) | (with_reducible refine below_drewN ?_ _) | (with_reducible refine Below.alloc ?_ ?_ _) | (with_reducible refine Below.setCell ?_ ?_ _) | (refine Below.trans ?_ (Below.mono (by assumption) (by first | omega | (with_reducible exact Below.size (by assumption)) | (simp; done) | (simp; omega)))) | (with_reducible exact Nat.le_refl _) | omega | (with_reducible exact Below.size (by assumption)) | (simp only [World.size_alloc, World.size_setCell, World.size_drew]; omega) | (simp; done) | (simp; omega)))
    have hz2 := hb2.size
    clear hO1 hg1 hb1 hb2 hb0
    go_wp2_with fail
    refine (toRouteS_any v ps _ (HV.out.below hbel2) HNL.out).mono ?_
    rintro e w3 ⟨g3, rfl, hg3, hO3, hb3⟩
    have hbel3 : Below w.heap.size w w3 := by (repeat' (first | (with_reducible exact Below.refl _ _) | (with_reducible assumption) | (with_reducible refine Below.drew ?_) | (with_reducible refine below_drewN ?_ _) | (with_reducible refine Below.alloc ?_ ?_ _) | (with_reducible refine Below.setCell ?_ ?_ _) | (refine Below.trans ?_ (Below.mono (by assumption) (by first | omega | (with_reducible exact Below.size (by assumption)) | (simp; done) | (simp; omega)))) | (with_reducible exact Nat.le_refl _) | omega | (with_reducible exact Below.size (by assumption)) | (simp only [World.size_alloc, World.size_setCell, World.size_drew]; omega) | (simp; done) | (simp; omega)))
    have ho03 := owns_below hb3 ho0
    have hz3 := hb3.size
    go_wp2_with fail
    refine (iRoutesLess_any _ _ _ ps _ (Rds.ofOwn hO3) HL.out).mono ?_
    rintro e w4 ⟨v1, rfl, ho1, hb4⟩
    rw [HZ.out] at ho1
    have hbel4 : Below w.heap.size w w4 := by (repeat' (first | (with_reducible exact Below.refl _ _) | (with_reducible assumption) | (with_reducible refine Below.drew ?_) | (with_reducible refine below_drewN ?_ _) | (with_reducible refine Below.alloc ?_ ?_ _) | (with_reducible refine Below.setCell ?_ ?_ _) | (refine Below.trans ?_ (Below.mono (by assumption) (by first | omega | (with_reducible exact Below.size (by assumption)) | (simp; done) | (simp; omega)))) | (with_reducible exact Nat.le_refl _) | omega | (with_reducible exact Below.size (by assumption)) | (simp only [World.size_alloc, World.size_setCell, World.size_drew]; omega) | (simp; done) | (simp; omega)))
    have ho04 := owns_below hb4 ho03
    have hO4 := hO3.below hb4 hO3.lt
    have hlt3 := hO3.lt
    have hr0 := Rds.ofOwns ho04
    have hr1 := Rds.ofOwns ho1
    clear hb3 hb4 hO3
    go_wp2_with fail
    refine (eqRouteS_any _ _ _ _ _ hr1 hr0).mono ?_
    rintro e w5 ⟨rfl, hb5⟩
    rw [decide_eq_true rfl]
    have hbel5 : Below w.heap.size w w5 := by (repeat' (first | (with_reducible exact Below.refl _ _) | (with_reducible assumption) | (with_reducible refine Below.drew ?_) | (with_reducible refine below_drewN ?_ _) | (with_reducible refine Below.alloc ?_ ?_ _) | (with_reducible refine Below.setCell ?_ ?_ _) | (refine Below.trans ?_ (Below.mono (by assumption) (by first | omega | (with_reducible exact Below.size (by assumption)) | (simp; done) | (simp; omega)))) | (with_reducible exact Nat.le_refl _) | omega | (with_reducible exact Below.size (by assumption)) | (simp only [World.size_alloc, World.size_setCell, World.size_drew]; omega) | (simp; done) | (simp; omega)))
    have ho05 := owns_below hb5 ho04
    have ho15 := owns_below hb5 ho1
    have hO5 := hO4.below hb5 hO4.lt
    have hz5 := hb5.size
    clear hr0 hr1 hO4 hb5
    go_wp2_with fail
    refine (toRouteS_any v ps _ (HV.out.below hbel5) HNL.out).mono ?_
    rintro e w6 ⟨g6, rfl, hg6, hO6, hb6⟩
    have hbel6 : Below w.heap.size w w6 := by (repeat' (first | (with_reducible exact Below.refl _ _) | (with_reducible assumption) | (with_reducible refine Below.drew ?_) | (with_reducible refine below_drewN ?_ _) | (with_reducible refine Below.alloc ?_ ?_ _) | (with_reducible refine Below.setCell ?_ ?_ _) | (refine Below.trans ?_ (Below.mono (by assumption) (by first | omega | (with_reducible exact Below.size (by assumption)) | (simp; done) | (simp; omega)))) | (with_reducible exact Nat.le_refl _) | omega | (with_reducible exact Below.size (by assumption)) | (simp only [World.size_alloc, World.size_setCell, World.size_drew]; omega) | (simp; done) | (simp; omega)))
    have ho06 := owns_below hb6 ho05
    have ho16 := owns_below hb6 ho15
    have hO36 := hO5.below hb6 hO5.lt
    have hr3 := Rds.ofOwn hO36
    have hr6 := Rds.ofOwn hO6
    clear hb6 hO5 hO6
    go_wp2_with fail
    refine (eqRouteS_any _ _ ps ps _ hr3 hr6).mono ?_
    rintro e w7 ⟨rfl, hb7⟩
    rw [decide_eq_true rfl]
    have hbel7 : Below w.heap.size w w7 := by (repeat' (first | (with_reducible exact Below.refl _ _) | (with_reducible assumption) | (with_reducible refine Below.drew ?_) | (with_reducible refine below_drewN ?_ _) | (with_reducible refine Below.alloc ?_ ?_ _) | (with_reducible refine Below.setCell ?_ ?_ _) | (refine Below.trans ?_ (Below.mono (by assumption) (by first | omega | (with_reducible exact Below.size (by assumption)) | (simp; done) | (simp; omega)))) | (with_reducible exact Nat.le_refl _) | omega | (with_reducible exact Below.size (by assumption)) | (simp only [World.size_alloc, World.size_setCell, World.size_drew]; omega) | (simp; done) | (simp; omega)))
    have ho07 := owns_below hb7 ho06
    have ho17 := owns_below hb7 ho16
    have hO7 := hO36.below hb7 hO36.lt
    clear hr3 hr6 hO36 hb7
    go_wp2_with fail
    refine (markRouteS_any g3 _ _ ps 1 _ hO7 (by omega) (by omega) (by have := HNL.out; omega)).mono ?_
    rintro e w8 ⟨rfl, hO8, hg8⟩
    have hbel8 : Below w.heap.size w w8 := below_gb hg8 hbel7.size (by omega) hbel7
    have ho08 := ho07.kept hg8 (by
      cases hvb : Value.ownBlock v0 with
      | none => exact .inl rfl
      | some k => exact .inr (by have := own_lt ho0 k hvb; simp; omega))
    have ho18 := ho17.kept hg8 (by
      cases hvb : Value.ownBlock v1 with
      | none => exact .inl rfl
      | some k => exact .inr (by have := own_ge ho1 k hvb; simp; omega))
    have hr0 := Rds.ofOwns ho08
    have hr1 := Rds.ofOwns ho18
    have hk8 : ¬ ((1 + 2 * ps.length : Nat) : Int) < 0 := by omega
    clear hO7 hO8 hg8 hk8
    go_wp2_with fail
    refine (eqRouteS_any _ _ _ _ _ hr1 hr0).mono ?_
    rintro e w9 ⟨rfl, hb9⟩
    rw [decide_eq_true rfl]
    have hbel9 : Below w.heap.size w w9 := by (repeat' (first | (with_reducible exact Below.refl _ _) | (with_reducible assumption) | (with_reducible refine Below.drew ?_) | (with_reducible refine below_drewN ?_ _) | (with_reducible refine Below.alloc ?_ ?_ _) | (with_reducible refine Below.setCell ?_ ?_ _) | (refine Below.trans ?_ (Below.mono (by assumption) (by first | omega | (with_reducible exact Below.size (by assumption)) | (simp; done) | (simp; omega)))) | (with_reducible exact Nat.le_refl _) | omega | (with_reducible exact Below.size (by assumption)) | (simp only [World.size_alloc, World.size_setCell, World.size_drew]; omega) | (simp; done) | (simp; omega)))
    have ho09 := owns_below hb9 ho08
    have ho19 := owns_below hb9 ho18
    clear hr0 hr1 hb9
    go_wp2_with fail
    refine (markRts_any _ _ _ _ 1 _ ho19 (by omega) (by omega) (by omega)).mono ?_
    rintro e wa ⟨rfl, hoa, hga⟩
    have hge := own_ge hoa
    have hoq := ho09.kept hga (own_apart ho0 hoa (by omega))
    have hbela : Below w.heap.size w wa := hbel9.grown hga hbel9.size (fun k hk => by have := hge k hk; omega)
    go_wp2_with fail
    refine (heldRouteS_any _ _ 1 _ (Rds.ofOwns hoa) (by omega) (by omega) (by omega)).mono ?_
    rintro e wb ⟨rfl, hbb⟩
    have hbelb : Below w.heap.size w wb := by (repeat' (first | (with_reducible exact Below.refl _ _) | (with_reducible assumption) | (with_reducible refine Below.drew ?_) | (with_reducible refine below_drewN ?_ _) | (with_reducible refine Below.alloc ?_ ?_ _) | (with_reducible refine Below.setCell ?_ ?_ _) | (refine Below.trans ?_ (Below.mono (by assumption) (by first | omega | (with_reducible exact Below.size (by assumption)) | (simp; done) | (simp; omega)))) | (with_reducible exact Nat.le_refl _) | omega | (with_reducible exact Below.size (by assumption)) | (simp only [World.size_alloc, World.size_setCell, World.size_drew]; omega) | (simp; done) | (simp; omega)))
    have hoqb := owns_below hbb hoq
    have hoab := owns_below hbb hoa
    clear hbb
    go_wp2_with fail
    refine (toRouteS_any v ps _ (HV.out.below hbelb) HNL.out).mono ?_
    rintro e wc ⟨gc, rfl, hgc, hOc, hbc⟩
    have hbelc : Below w.heap.size w wc := by (repeat' (first | (with_reducible exact Below.refl _ _) | (with_reducible assumption) | (with_reducible refine Below.drew ?_) | (with_reducible refine below_drewN ?_ _) | (with_reducible refine Below.alloc ?_ ?_ _) | (with_reducible refine Below.setCell ?_ ?_ _) | (refine Below.trans ?_ (Below.mono (by assumption) (by first | omega | (with_reducible exact Below.size (by assumption)) | (simp; done) | (simp; omega)))) | (with_reducible exact Nat.le_refl _) | omega | (with_reducible exact Below.size (by assumption)) | (simp only [World.size_alloc, World.size_setCell, World.size_drew]; omega) | (simp; done) | (simp; omega)))
    have ho0c := owns_below hbc hoqb
    have ho1c := owns_below hbc hoab
    clear hbc
    go_wp2_with fail
    refine (iRoutesLess_any _ _ _ ps _ (Rds.ofOwn hOc) HL.out).mono ?_
    rintro e wd ⟨v2, rfl, ho2, hbd⟩
    rw [HZ.out] at ho2
    have hbeld : Below w.heap.size w wd := by (repeat' (first | (with_reducible exact Below.refl _ _) | (with_reducible assumption) | (with_reducible refine Below.drew ?_) | (with_reducible refine below_drewN ?_ _) | (with_reducible refine Below.alloc ?_ ?_ _) | (with_reducible refine Below.setCell ?_ ?_ _) | (refine Below.trans ?_ (Below.mono (by assumption) (by first | omega | (with_reducible exact Below.size (by assumption)) | (simp; done) | (simp; omega)))) | (with_reducible exact Nat.le_refl _) | omega | (with_reducible exact Below.size (by assumption)) | (simp only [World.size_alloc, World.size_setCell, World.size_drew]; omega) | (simp; done) | (simp; omega)))
    have hr0 := (Rds.ofOwns ho0c).below hbd
    have hr1 := (Rds.ofOwns ho1c).below hbd
    have hr2 := Rds.ofOwns ho2
    clear hOc hgc hbd
    go_wp2_with fail
    refine (eqRouteS_any _ _ _ _ _ hr2 hr0).mono ?_
    rintro e we ⟨rfl, hbe⟩
    rw [decide_eq_true rfl]
    have hbele : Below w.heap.size w we := by (repeat' (first | (with_reducible exact Below.refl _ _) | (with_reducible assumption) | (with_reducible refine Below.drew ?_) | (with_reducible refine below_drewN ?_ _) | (with_reducible refine Below.alloc ?_ ?_ _) | (with_reducible refine Below.setCell ?_ ?_ _) | (refine Below.trans ?_ (Below.mono (by assumption) (by first | omega | (with_reducible exact Below.size (by assumption)) | (simp; done) | (simp; omega)))) | (with_reducible exact Nat.le_refl _) | omega | (with_reducible exact Below.size (by assumption)) | (simp only [World.size_alloc, World.size_setCell, World.size_drew]; omega) | (simp; done) | (simp; omega)))
    have hr7 := hr1.below hbe
    clear hr0 hr1 hr2 hbe ho0 ho1 ho0c ho1c ho2 hoa hoq hga hge
    go_wp2_with fail
    refine (heldRouteS_any _ _ 1 _ hr7 (by omega) (by omega) (by omega)).mono ?_
    rintro e wf ⟨rfl, hbf⟩
    have hbelf : Below w.heap.size w wf := by (repeat' (first | (with_reducible exact Below.refl _ _) | (with_reducible assumption) | (with_reducible refine Below.drew ?_) | (with_reducible refine below_drewN ?_ _) | (with_reducible refine Below.alloc ?_ ?_ _) | (with_reducible refine Below.setCell ?_ ?_ _) | (refine Below.trans ?_ (Below.mono (by assumption) (by first | omega | (with_reducible exact Below.size (by assumption)) | (simp; done) | (simp; omega)))) | (with_reducible exact Nat.le_refl _) | omega | (with_reducible exact Below.size (by assumption)) | (simp only [World.size_alloc, World.size_setCell, World.size_drew]; omega) | (simp; done) | (simp; omega)))
    go_wp2
    go_returns
    exact ⟨rfl, hbelf⟩
  · clear hx2
    go_wp2
    go_returns
    exact ⟨rfl, hb0⟩

end Go.Proofs.Ytcacedcbboidoaa
