/- The walk of the law of RouteOf. -/
import Derived.Test.YtcacedcbboidoaaDrRo
import Derived.Test.YtcacedcbboidoaaRo
import Derived.Test.YtcacedcbboidoaaAlive
set_option linter.unusedSimpArgs false
set_option linter.unusedVariables false
namespace Go.Proofs.Ytcacedcbboidoaa
open Go.RowKit

theorem preB_more {s x p : ByteArray} (h : p.size ≤ s.size) : preB (s ++ x) p = preB s p := by
  rw [← preB_cut h, ← preB_cut (show p.size ≤ (s ++ x).size by rw [ByteArray.size_append]; omega)]
  congr 1
  rw [ByteArray.toList_eq, ByteArray.toList_eq]
  simp only [ByteArray.data_extract, ByteArray.data_append]
  simp [List.take_append_of_le_length (show p.size ≤ s.data.toList.length by simpa using h)]
  left; omega
theorem routeTo_more {s x : ByteArray} {rs : List Rt} (h : ∀ (j : Nat) (r : Rt), rs[j]? = some r → r.1.size ≤ s.size) : ∀ k, k ≤ rs.length → routeTo (s ++ x) rs k = routeTo s rs k := by
  intro k
  induction k with
  | zero => intro _; rfl
  | succ k ih =>
    intro hk
    obtain ⟨r, hr⟩ : ∃ r, rs[k]? = some r := ⟨_, List.getElem?_eq_getElem (by omega)⟩
    rw [routeTo_step _ rs k r hr, routeTo_step _ rs k r hr, ih (by omega), routeStep, routeStep, preB_more (h k r hr)]
theorem routeR_more {s : ByteArray} {rs : List Rt} (hv : routesB rs = true) (hd : digsB s = true) (h3 : 3 ≤ s.size) : routeR rs (s ++ ⟨#[50]⟩) = routeR rs s := by
  have hd2 : digsB (s ++ ⟨#[50]⟩) = true := by
    have e2 : (s ++ (⟨#[50]⟩ : ByteArray)).data.toList = s.data.toList ++ [50] := by simp [ByteArray.data_append]
    unfold digsB at hd ⊢
    rw [e2, List.all_append, hd]
    rfl
  unfold routeR
  rw [hv, hd, hd2, routeTo_more (fun j r hr => by
    have := ((routesB_iff rs).1 hv).at j r hr
    simp only [rtB, Bool.and_eq_true, decide_eq_true_eq] at this
    omega) _ (Nat.le_refl _)]

set_option maxRecDepth 100000 in
set_option maxHeartbeats 2000000 in
theorem wRouteOf (a : Option Addr) (len cap : Nat) (cs : List Int) (w : World) (h0 : IsRow .u8 w a len cap cs) :
    Calls Try.prog 6 #[.slice a len cap] w fun e w' => e = .returned (.bool true) ∧ Below w.heap.size w w' := by
  have h := h0.code
  have hm := h.bd
  by_cases hbig : len > 1048576
  · go_enter Try.func6, Try.ntmps6
    go_wp2
    go_returns
    exact ⟨rfl, Below.refl _ _⟩
  · go_enter Try.func6, Try.ntmps6
    go_wp2_with fail
    refine (DrawRouteOf_any _ _ _ _ _ h).mono ?_
    rintro e w1 ⟨g, n, c, rs, s, rfl, hn, hg, hO, hl, hsm, hs10, hb1⟩
    rw [← hn] at hl
    have hs : s.size ≤ maxLen := by unfold maxLen; omega
    have hr1 : Rds w1 (.slice (some ⟨g, 0, none⟩) n c) rs.length 2 (rcells rs) := by rw [← hn]; exact Rds.ofOwn hO
    have HR := Lib.hid hr1
    have HN := Lib.hid hn
    have HSM := Lib.hid hsm
    clear hr1 hn hsm
    go_wp2_with fail
    refine (iRouteOf_any _ rs s _ HR.out HSM.out.len hs).mono ?_
    rintro e w2 ⟨rfl, hb2⟩
    have HR2 := Lib.hid (HR.out.below hb2)
    have hO2 := hO.below hb2 hO.lt
    obtain ⟨x, hx⟩ : ∃ x, routeR rs s = x := ⟨_, rfl⟩
    have HX := Lib.hid hx
    rw [hx]
    clear hx
    go_wp2_with fail
    refine (sRouteOf_any _ rs s _ HR2.out HSM.out.len hs).mono ?_
    rintro e w3 ⟨rfl, q3, rfl⟩
    rw [HX.out]
    go_wp2_with fail
    refine (sRoutesValid_any _ rs _ (HR2.out.drewN q3) HSM.out.len).mono ?_
    rintro e w4 ⟨rfl, q4, rfl⟩
    obtain ⟨o, ho⟩ : ∃ o, routesB rs = o := ⟨_, rfl⟩
    have HO := Lib.hid ho
    rw [ho]
    have hbel2 : Below w.heap.size w ((w2.drewN q3).drewN q4) := by (repeat' (first | (with_reducible exact Below.refl _ _) | (with_reducible assumption) | (with_reducible refine Below.drew ?_) | (with_reducible refine below_drewN ?_ _) | (with_reducible refine Below.alloc ?_ ?_ _) | (with_reducible refine Below.setCell ?_ ?_ _) | (refine Below.trans ?_ (Below.mono (by assumption) (by first | omega | (with_reducible exact Below.size (by assumption)) | (simp; done) | (simp; omega)))) | (with_reducible exact Nat.le_refl _) | omega | (with_reducible exact Below.size (by assumption)) | (simp only [World.size_alloc, World.size_setCell, World.size_drew]; omega) | (simp; done) | (simp; omega)))
    have hO3 : Own ((w2.drewN q3).drewN q4) g n c 32 2 (rcells rs) := hO2
    clear ho hO hO2 hb1 hb2
    have hcaps := hO3.caps
    have hz2' := hbel2.size
    generalize (w2.drewN q3).drewN q4 = w4 at *
    clear HR HR2
    have fin : ∀ y : Int, y = -1 → Hid (y = -1) := fun y h => h
    cases o
    · have hx1 : x = -1 := by have := HX.out; rw [← this]; simp [routeR, HO.out]
      subst hx1
      go_wp2_with fail
      refine (alive_any _).mono ?_
      rintro e w6 ⟨rfl, hb6⟩
      go_wp2
      go_returns
      exact ⟨rfl, by (repeat' (first | (with_reducible exact Below.refl _ _) | (with_reducible assumption) | (with_reducible refine Below.drew ?_) | (with_reducible refine below_drewN ?_ _) | (with_reducible refine Below.alloc ?_ ?_ _) | (with_reducible refine Below.setCell ?_ ?_ _) | (refine Below.trans ?_ (Below.mono (by assumption) (by first | omega | (with_reducible exact Below.size (by assumption)) | (simp; done) | (simp; omega)))) | (with_reducible exact Nat.le_refl _) | omega | (with_reducible exact Below.size (by assumption)) | (simp only [World.size_alloc, World.size_setCell, World.size_drew]; omega) | (simp; done) | (simp; omega)))⟩
    · go_wp2_with fail
      refine (sDigitsOk_any s _ hs).mono ?_
      rintro e w5 ⟨rfl, rfl⟩
      obtain ⟨d, hd⟩ : ∃ d, digsB s = d := ⟨_, rfl⟩
      have HD := Lib.hid hd
      rw [hd]
      clear hd
      cases d
      · have hx1 : x = -1 := by have := HX.out; rw [← this]; simp [routeR, HD.out]
        subst hx1
        go_wp2_with fail
        refine (alive_any _).mono ?_
        rintro e w6 ⟨rfl, hb6⟩
        go_wp2
        go_returns
        exact ⟨rfl, by (repeat' (first | (with_reducible exact Below.refl _ _) | (with_reducible assumption) | (with_reducible refine Below.drew ?_) | (with_reducible refine below_drewN ?_ _) | (with_reducible refine Below.alloc ?_ ?_ _) | (with_reducible refine Below.setCell ?_ ?_ _) | (refine Below.trans ?_ (Below.mono (by assumption) (by first | omega | (with_reducible exact Below.size (by assumption)) | (simp; done) | (simp; omega)))) | (with_reducible exact Nat.le_refl _) | omega | (with_reducible exact Below.size (by assumption)) | (simp only [World.size_alloc, World.size_setCell, World.size_drew]; omega) | (simp; done) | (simp; omega)))⟩
      · have HXT : Hid ((routeTo s rs n).1 = x) := by have := HX.out; rw [routeR, HO.out, HD.out] at this; rw [HN.out]; exact this
        clear fin
        unfold maxLen at hs
        have HOW := Lib.hid hO3
        clear hO3
        go_wp2_with fail
        go_loop [6, 7, 8] (fun l o i => ∃ (k : Nat) (u v : Int), Hid (routeTo s rs k = (u, v)) ∧ k ≤ n ∧ i = .int .i64 k ∧ o = .int .i64 u ∧ l = .int .i64 v) (fun _ _ i => n - (intOf i).toNat)
        case atStart => exact ⟨0, -1, -1, rfl, by omega, rfl, rfl, rfl⟩
        case round =>
          obtain ⟨k, u, v, huv, hk, rfl, rfl, rfl⟩ := hrel
          by_cases hkn : k < n
          · obtain ⟨r, hr⟩ : ∃ r, rs[k]? = some r := ⟨_, List.getElem?_eq_getElem (by rw [← HN.out]; omega)⟩
            obtain ⟨g1, g2⟩ := rcells_at rs k r hr
            have c1 : w4.cell? ⟨g, k * 2, none⟩ = some (.string r.1) := by rw [HOW.out.cell _ (by omega), g1]
            have c2 : w4.cell? ⟨g, k * 2 + 1, none⟩ = some (.int .i64 r.2) := by rw [HOW.out.cell _ (by omega), g2]
            have hrl := (HSM.out r (List.mem_of_getElem? hr)).1
            have hst := routeTo_step s rs k r hr
            rw [huv.out] at hst
            have HST := Lib.hid hst
            clear hr g1 g2 hst
            obtain ⟨t, o⟩ := r
            simp only at c1 c2 hrl
            by_cases hle : t.size ≤ s.size
            · have hcut := preB_cut hle
              obtain ⟨d, hd⟩ : ∃ d, preB s t = d := ⟨_, rfl⟩
              have HP := Lib.hid hd
              rw [hd] at hcut
              clear hd
              cases d
              · go_wp2_with fail
                go_round
                case rel => exact ⟨k + 1, u, v, by unfold Hid; rw [HST.out, routeStep, HP.out]; rfl, by omega, by go_num, rfl, rfl⟩
                case measure => simp [intOf]; omega
              · by_cases hlong : v < (t.size : Int)
                · go_wp2_with fail
                  go_round
                  case rel => exact ⟨k + 1, o, t.size, by unfold Hid; rw [HST.out, routeStep, HP.out]; simp [hlong], by omega, by go_num, rfl, rfl⟩
                  case measure => simp [intOf]; omega
                · have HNL := Lib.hid hlong
                  go_wp2_with fail
                  go_round
                  case rel => exact ⟨k + 1, u, v, by unfold Hid; rw [HST.out, routeStep, if_neg (fun e => by rw [Bool.and_eq_true, decide_eq_true_eq] at e; have h1 := HNL.out; have h2 : v < (t.size : Int) := e.2; omega)], by omega, by go_num, rfl, rfl⟩
                  case measure => simp [intOf]; omega
            · have HP := Lib.hid (preB_long (s := s) (p := t) (by omega))
              go_wp2_with fail
              go_round
              case rel => exact ⟨k + 1, u, v, by unfold Hid; rw [HST.out, routeStep, HP.out]; rfl, by omega, by go_num, rfl, rfl⟩
              case measure => simp [intOf]; omega
          · obtain rfl : k = n := by omega
            have hxu : u = x := by have := huv.out; have h2 := HXT.out; rw [this] at h2; exact h2
            subst hxu
            by_cases h3 : s.size < 3
            · go_wp2
              go_returns
              exact ⟨rfl, by (repeat' (first | (with_reducible exact Below.refl _ _) | (with_reducible assumption) | (with_reducible refine Below.drew ?_) | (with_reducible refine below_drewN ?_ _) | (with_reducible refine Below.alloc ?_ ?_ _) | (with_reducible refine Below.setCell ?_ ?_ _) | (refine Below.trans ?_ (Below.mono (by assumption) (by first | omega | (with_reducible exact Below.size (by assumption)) | (simp; done) | (simp; omega)))) | (with_reducible exact Nat.le_refl _) | omega | (with_reducible exact Below.size (by assumption)) | (simp only [World.size_alloc, World.size_setCell, World.size_drew]; omega) | (simp; done) | (simp; omega)))⟩
            · have HM := Lib.hid (routeR_more HO.out HD.out (by omega))
              have hrd : Rds w4 (.slice (some ⟨g, 0, none⟩) k c) rs.length 2 (rcells rs) := by rw [← HN.out]; exact Rds.ofOwn HOW.out
              have hs2 : (s ++ (⟨#[50]⟩ : ByteArray)).size ≤ maxLen := by
                rw [ByteArray.size_append]; have : (⟨#[50]⟩ : ByteArray).size = 1 := rfl; unfold maxLen; omega
              have HS2 := Lib.hid hs2
              have HRD := Lib.hid hrd
              clear hrd hs2
              go_wp2_with fail
              refine (iRouteOf_any _ rs (s ++ (⟨#[50]⟩ : ByteArray)) _ HRD.out HSM.out.len HS2.out).mono ?_
              rintro e w6 ⟨rfl, hb6⟩
              rw [HM.out, HX.out]
              go_wp2
              go_returns
              exact ⟨rfl, by (repeat' (first | (with_reducible exact Below.refl _ _) | (with_reducible assumption) | (with_reducible refine Below.drew ?_) | (with_reducible refine below_drewN ?_ _) | (with_reducible refine Below.alloc ?_ ?_ _) | (with_reducible refine Below.setCell ?_ ?_ _) | (refine Below.trans ?_ (Below.mono (by assumption) (by first | omega | (with_reducible exact Below.size (by assumption)) | (simp; done) | (simp; omega)))) | (with_reducible exact Nat.le_refl _) | omega | (with_reducible exact Below.size (by assumption)) | (simp only [World.size_alloc, World.size_setCell, World.size_drew]; omega) | (simp; done) | (simp; omega)))⟩

end Go.Proofs.Ytcacedcbboidoaa
