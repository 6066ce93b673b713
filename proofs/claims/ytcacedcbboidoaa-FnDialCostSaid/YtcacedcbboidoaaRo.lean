/- Contracts of RouteOf (program and reference). -/
import Derived.Test.YtcacedcbboidoaaRv
import Derived.Test.YtcacedcbboidoaaPre
set_option linter.unusedSimpArgs false
set_option linter.unusedVariables false
namespace Go.Proofs.Ytcacedcbboidoaa
open Go.RowKit

/-- One route looked at: the outlet so far, and how long its beginning was. -/
def routeStep (s : ByteArray) (acc : Int × Int) (r : Rt) : Int × Int := if (preB s r.1 && decide (acc.2 < (r.1.size : Int))) = true then (r.2, (r.1.size : Int)) else acc
def routeTo (s : ByteArray) (rs : List Rt) (k : Nat) : Int × Int := (rs.take k).foldl (routeStep s) (-1, -1)
noncomputable def routeR (rs : List Rt) (s : ByteArray) : Int := if (routesB rs && digsB s) = true then (routeTo s rs rs.length).1 else -1
theorem routeTo_step (s : ByteArray) (rs : List Rt) (k : Nat) (r : Rt) (h : rs[k]? = some r) : routeTo s rs (k + 1) = routeStep s (routeTo s rs k) r := by
  simp [routeTo, List.take_add_one, h, List.foldl_append]

set_option maxHeartbeats 1000000 in
theorem iRouteOf_any (v : Value) (rs : List Rt) (s : ByteArray) (w : World) (hv : Rds w v rs.length 2 (rcells rs)) (hL : RtLen rs) (hs : s.size ≤ maxLen) :
    Calls Try.prog 30 #[v, .string s] w fun e w' => e = .returned (.int .i64 (routeR rs s)) ∧ Below w.heap.size w w' := by
  have hv0 := hv
  obtain ⟨hl1, hm1, a, ca, rfl, hn1, hc1⟩ := hv
  unfold maxLen at hm1
  have HV := Lib.hid hv0
  have HL := Lib.hid hL
  obtain ⟨n, hn⟩ : ∃ n, rs.length = n := ⟨_, rfl⟩
  have HN := Lib.hid hn
  rw [hn] at hm1 hn1 hc1 ⊢
  have HV2 : Hid (Rds w (.slice a n ca) rs.length 2 (rcells rs)) := by have := HV.out; rw [hn] at this ⊢; exact this
  clear hn hl1 hL hv0
  go_enter Try.func30, Try.ntmps30
  go_wp2_with fail
  refine (iRoutesValid_any _ rs _ HV2.out HL.out).mono ?_
  rintro e w1 ⟨rfl, hb1⟩
  obtain ⟨d, hd⟩ : ∃ d, routesB rs = d := ⟨_, rfl⟩
  have HD := Lib.hid hd
  rw [hd]
  clear hd
  cases d
  · have HR : Hid (routeR rs s = -1) := by simp [Hid, routeR, HD.out]
    go_wp2
    go_returns
    exact ⟨by rw [HR.out]; rfl, hb1⟩
  · go_wp2_with fail
    refine (iDigitsOk_any s _ hs).mono ?_
    rintro e w2 ⟨rfl, rfl⟩
    obtain ⟨d, hd⟩ : ∃ d, digsB s = d := ⟨_, rfl⟩
    have HG := Lib.hid hd
    rw [hd]
    clear hd
    cases d
    · have HR : Hid (routeR rs s = -1) := by simp [Hid, routeR, HG.out]
      go_wp2
      go_returns
      exact ⟨by rw [HR.out]; rfl, hb1⟩
    · have HR : Hid (routeR rs s = (routeTo s rs n).1) := by simp [Hid, routeR, HG.out, HD.out, HN.out]
      go_wp2_with fail
      go_loopw [5, 6, 19] (fun o l i wr => ∃ (k : Nat) (x y : Int), Hid (routeTo s rs k = (x, y)) ∧ k ≤ n ∧ i = .int .i64 k ∧ o = .int .i64 x ∧ l = .int .i64 y ∧ Below w.heap.size w wr) (fun _ _ i _ => n - (intOf i).toNat)
      case atStart => exact ⟨0, -1, -1, rfl, by omega, rfl, rfl, rfl, hb1⟩
      case round =>
        obtain ⟨k, x, y, hx, hk, rfl, rfl, rfl, hbel⟩ := hrel
        obtain ⟨wo, rfl⟩ : ∃ wo : World, wo = wr := ⟨_, rfl⟩
        have hz := hbel.size
        by_cases hkn : k < n
        · rcases hc1 with hc1 | ⟨b, off, rfl, hb, hc1⟩
          · omega
          obtain ⟨r, hr⟩ : ∃ r, rs[k]? = some r := ⟨_, List.getElem?_eq_getElem (by rw [HN.out]; omega)⟩
          obtain ⟨g1, g2⟩ := rcells_at rs k r hr
          have c1 : wo.cell? ⟨b, off + k * 2, none⟩ = some (.string r.1) := by rw [hbel.cell (p := ⟨b, off + k * 2, none⟩) hb, hc1 _ (by omega), g1]
          have c2 : wo.cell? ⟨b, off + k * 2 + 1, none⟩ = some (.int .i64 r.2) := by rw [Nat.add_assoc, hbel.cell (p := ⟨b, off + (k * 2 + 1), none⟩) hb, hc1 _ (by omega), g2]
          have hrl := HL.out k r hr
          have hst := routeTo_step s rs k r hr
          rw [hx.out] at hst
          have HST := Lib.hid hst
          clear hc1 hr g1 g2 hst
          obtain ⟨t, o⟩ := r
          simp only at c1 c2 hrl
          have hrl' := hrl
          unfold maxLen at hrl
          by_cases hlong : y < (t.size : Int)
          · go_wp2_with fail
            refine (hasPrefix_any s t _ hs hrl').mono ?_
            rintro e w3 ⟨rfl, rfl⟩
            obtain ⟨d, hd⟩ : ∃ d, preB s t = d := ⟨_, rfl⟩
            have HP := Lib.hid hd
            rw [hd]
            clear hd
            cases d
            · go_wp2_with fail
              go_roundw
              case rel => exact ⟨k + 1, x, y, by unfold Hid; rw [HST.out, routeStep, HP.out]; rfl, by omega, by go_num, rfl, rfl, by (repeat' (first | (with_reducible exact Below.refl _ _) | (with_reducible assumption) | (with_reducible refine Below.drew ?_) | (with_reducible refine below_drewN ?_ _) | (with_reducible refine Below.alloc ?_ ?_ _) | (with_reducible refine Below.setCell ?_ ?_ _) | (refine Below.trans ?_ (Below.mono (by assumption) (by first | omega | (with_reducible exact Below.size (by assumption)) | (simp; done) | (simp; omega)))) | (with_reducible exact Nat.le_refl _) | omega | (with_reducible exact Below.size (by assumption)) | (simp only [World.size_alloc, World.size_setCell, World.size_drew]; omega) | (simp; done) | (simp; omega)))⟩
              case measure => simp [intOf]; omega
            · go_wp2_with fail
              go_quiet (fail)
              go_wp2
              go_roundw
              case rel => exact ⟨k + 1, o, t.size, by unfold Hid; rw [HST.out, routeStep, HP.out]; simp [hlong], by omega, by go_num, rfl, rfl, by (repeat' (first | (with_reducible exact Below.refl _ _) | (with_reducible assumption) | (with_reducible refine Below.drew ?_) | (with_reducible refine below_drewN ?_ _) | (with_reducible refine Below.alloc ?_ ?_ _) | (with_reducible refine Below.setCell ?_ ?_ _) | (refine Below.trans ?_ (Below.mono (by assumption) (by first | omega | (with_reducible exact Below.size (by assumption)) | (simp; done) | (simp; omega)))) | (with_reducible exact Nat.le_refl _) | omega | (with_reducible exact Below.size (by assumption)) | (simp only [World.size_alloc, World.size_setCell, World.size_drew]; omega) | (simp; done) | (simp; omega)))⟩
              case measure => simp [intOf]; omega
          · go_wp2_with fail
            go_roundw
            case rel => exact ⟨k + 1, x, y, by unfold Hid; rw [HST.out, routeStep]; simp [hlong], by omega, by go_num, rfl, rfl, by (repeat' (first | (with_reducible exact Below.refl _ _) | (with_reducible assumption) | (with_reducible refine Below.drew ?_) | (with_reducible refine below_drewN ?_ _) | (with_reducible refine Below.alloc ?_ ?_ _) | (with_reducible refine Below.setCell ?_ ?_ _) | (refine Below.trans ?_ (Below.mono (by assumption) (by first | omega | (with_reducible exact Below.size (by assumption)) | (simp; done) | (simp; omega)))) | (with_reducible exact Nat.le_refl _) | omega | (with_reducible exact Below.size (by assumption)) | (simp only [World.size_alloc, World.size_setCell, World.size_drew]; omega) | (simp; done) | (simp; omega)))⟩
            case measure => simp [intOf]; omega
        · obtain rfl : k = n := by omega
          go_wp2
          go_returns
          exact ⟨by rw [HR.out, hx.out]; rfl, hbel⟩

set_option maxHeartbeats 1000000 in
theorem sRouteOf_any (v : Value) (rs : List Rt) (s : ByteArray) (w : World) (hv : Rds w v rs.length 2 (rcells rs)) (hL : RtLen rs) (hs : s.size ≤ maxLen) :
    Calls Try.prog 28 #[v, .string s] w fun e w' => e = .returned (.int .i64 (routeR rs s)) ∧ ∃ q, w' = w.drewN q := by
  have hv0 := hv
  obtain ⟨hl1, hm1, a, ca, rfl, hn1, hc1⟩ := hv
  unfold maxLen at hm1
  have HV := Lib.hid hv0
  have HL := Lib.hid hL
  obtain ⟨n, hn⟩ : ∃ n, rs.length = n := ⟨_, rfl⟩
  have HN := Lib.hid hn
  rw [hn] at hm1 hn1 hc1 ⊢
  have HV2 : Hid (Rds w (.slice a n ca) rs.length 2 (rcells rs)) := by have := HV.out; rw [hn] at this ⊢; exact this
  clear hn hl1 hL hv0
  go_enter Try.func28, Try.ntmps28
  go_wp2_with fail
  go_loopw [5, 6, 7] (fun o l i wr => ∃ (k q : Nat) (x y : Int), Hid (routeTo s rs k = (x, y)) ∧ Hid (1 ≤ k → routesB rs = true ∧ digsB s = true) ∧ k ≤ n ∧ i = .int .i64 k ∧ o = .int .i64 x ∧ l = .int .i64 y ∧ wr = w.drewN q) (fun _ _ i _ => n - (intOf i).toNat)
  case atStart => exact ⟨0, 0, -1, -1, rfl, fun h => absurd h (by omega), by omega, rfl, rfl, rfl, rfl⟩
  case round =>
    obtain ⟨k, q, x, y, hx, hval, hk, rfl, rfl, rfl, rfl⟩ := hrel
    by_cases hkn : k < n
    · rcases hc1 with hc1 | ⟨b, off, rfl, hb, hc1⟩
      · omega
      obtain ⟨r, hr⟩ : ∃ r, rs[k]? = some r := ⟨_, List.getElem?_eq_getElem (by rw [HN.out]; omega)⟩
      obtain ⟨g1, g2⟩ := rcells_at rs k r hr
      have c1 : w.cell? ⟨b, off + k * 2, none⟩ = some (.string r.1) := by rw [hc1 _ (by omega), g1]
      have c2 : w.cell? ⟨b, off + k * 2 + 1, none⟩ = some (.int .i64 r.2) := by rw [Nat.add_assoc, hc1 _ (by omega), g2]
      have hrl := HL.out k r hr
      have hst := routeTo_step s rs k r hr
      rw [hx.out] at hst
      have HST := Lib.hid hst
      clear hc1 hr g1 g2 hst
      obtain ⟨t, o⟩ := r
      simp only at c1 c2 hrl
      have hrl' := hrl
      unfold maxLen at hrl
      go_wp2_with fail
      refine (sRoutesValid_any _ rs _ (HV2.out.drewN q) HL.out).mono ?_
      rintro e w1 ⟨rfl, q1, rfl⟩
      obtain ⟨d, hd⟩ : ∃ d, routesB rs = d := ⟨_, rfl⟩
      have HD := Lib.hid hd
      rw [hd]
      clear hd
      cases d
      · have hk0 : k = 0 := by
          by_cases h : 1 ≤ k
          · have := (hval.out h).1; rw [HD.out] at this; cases this
          · omega
        have hxy : x = -1 := by have := hx.out; rw [hk0] at this; cases this; rfl
        have HR : Hid (routeR rs s = -1) := by simp [Hid, routeR, HD.out]
        clear hk0
        subst hxy
        go_wp2
        go_returns
        exact ⟨by rw [HR.out]; rfl, _, rfl⟩
      · go_wp2_with fail
        refine (sDigitsOk_any s _ hs).mono ?_
        rintro e w2 ⟨rfl, rfl⟩
        obtain ⟨d, hd⟩ : ∃ d, digsB s = d := ⟨_, rfl⟩
        have HG := Lib.hid hd
        rw [hd]
        clear hd
        cases d
        · have hk0 : k = 0 := by
            by_cases h : 1 ≤ k
            · have := (hval.out h).2; rw [HG.out] at this; cases this
            · omega
          have hxy : x = -1 := by have := hx.out; rw [hk0] at this; cases this; rfl
          have HR : Hid (routeR rs s = -1) := by simp [Hid, routeR, HG.out]
          clear hk0
          subst hxy
          go_wp2
          go_returns
          exact ⟨by rw [HR.out]; rfl, _, rfl⟩
        · go_wp2_with fail
          refine (l6Begins_any s t _ hs hrl').mono ?_
          rintro e w3 ⟨rfl, rfl⟩
          obtain ⟨d, hd⟩ : ∃ d, preB s t = d := ⟨_, rfl⟩
          have HP := Lib.hid hd
          rw [hd]
          clear hd
          cases d
          · go_wp2_with fail
            go_roundw
            case rel => exact ⟨k + 1, _, x, y, by unfold Hid; rw [HST.out, routeStep, HP.out]; rfl, fun _ => ⟨HD.out, HG.out⟩, by omega, by go_num, rfl, rfl, rfl⟩
            case measure => simp [intOf]; omega
          · by_cases hlong : y < (t.size : Int)
            · go_wp2_with fail
              go_roundw
              case rel => exact ⟨k + 1, _, o, t.size, by unfold Hid; rw [HST.out, routeStep, HP.out]; simp [hlong], fun _ => ⟨HD.out, HG.out⟩, by omega, by go_num, rfl, rfl, rfl⟩
              case measure => simp [intOf]; omega
            · have HNL := Lib.hid hlong
              go_wp2_with fail
              go_roundw
              case rel => exact ⟨k + 1, _, x, y, by unfold Hid; rw [HST.out, routeStep, if_neg (fun e => by rw [Bool.and_eq_true, decide_eq_true_eq] at e; have h1 := HNL.out; have h2 : y < (t.size : Int) := e.2; omega)], fun _ => ⟨HD.out, HG.out⟩, by omega, by go_num, rfl, rfl, rfl⟩
              case measure => simp [intOf]; omega
    · obtain rfl : k = n := by omega
      have HR : Hid (routeR rs s = x) := by
        by_cases h : 1 ≤ k
        · simp [Hid, routeR, (hval.out h).1, (hval.out h).2, HN.out, hx.out]
        · have hk0 : k = 0 := by omega
          have hxy : x = -1 := by have := hx.out; rw [hk0] at this; cases this; rfl
          have e0 : (routeTo s rs rs.length).1 = -1 := by rw [HN.out, hx.out, hxy]
          unfold Hid routeR
          split
          · rw [e0, hxy]
          · rw [hxy]
      go_wp2
      go_returns
      exact ⟨by rw [HR.out]; rfl, _, rfl⟩

end Go.Proofs.Ytcacedcbboidoaa
