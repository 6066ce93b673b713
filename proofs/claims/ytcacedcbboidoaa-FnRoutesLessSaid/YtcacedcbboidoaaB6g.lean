/- The walk of the law of RoutesLess. -/
import Derived.Test.YtcacedcbboidoaaAs
import Derived.Test.YtcacedcbboidoaaTh
import Derived.Test.YtcacedcbboidoaaAlive
set_option linter.unusedSimpArgs false
set_option linter.unusedVariables false
namespace Go.Proofs.Ytcacedcbboidoaa
open Go.RowKit

set_option maxRecDepth 100000 in
set_option maxHeartbeats 4000000 in
theorem wRoutesLess (a : Option Addr) (len cap : Nat) (cs : List Int) (w : World) (h0 : IsRow .u8 w a len cap cs) :
    Calls Try.prog 13 #[.slice a len cap] w fun e w' => e = .returned (.bool true) ∧ Below w.heap.size w w' := by
  obtain ⟨i0, hi, hz0, hz1, hz2⟩ := info_parts infoR
  have h := h0.code
  have hm := h.bd
  by_cases hbig : len > 1048576
  · go_enter Try.func13, Try.ntmps13
    go_wp2
    go_returns
    exact ⟨rfl, Below.refl _ _⟩
  · go_enter Try.func13, Try.ntmps13
    go_wp2_with fail
    refine (DrawRoutesLess_any _ _ _ _ _ h).mono ?_
    rintro e w1 ⟨g0, _, c0, rs, rfl, rfl, hg0, hO, hl, hsm, hb1⟩
    have HSM := Lib.hid hsm
    have HR1 := Lib.hid (Rds.ofOwn hO)
    clear hsm hO
    obtain ⟨us, hus⟩ : ∃ us, lessR rs = us := ⟨_, rfl⟩
    have hulen := lessR_len rs
    rw [hus] at hulen
    have HU := Lib.hid hus
    clear hus
    go_wp2_with fail
    refine (iRoutesLess_any _ _ _ rs _ HR1.out HSM.out.len).mono ?_
    rintro e w2 ⟨v1, rfl, ho1, hb2⟩
    rw [HU.out] at ho1
    have hbel2 : Below w.heap.size w w2 := by (repeat' (first | (with_reducible exact Below.refl _ _) | (with_reducible assumption) | (with_reducible refine Below.drew ?_) | (with_reducible refine below_drewN ?_ _) | (with_reducible refine Below.alloc ?_ ?_ _) | (with_reducible refine Below.setCell ?_ ?_ _) | (refine Below.trans ?_ (Below.mono (by assumption) (by first | omega | (with_reducible exact Below.size (by assumption)) | (simp; done) | (simp; omega)))) | (with_reducible exact Nat.le_refl _) | omega | (with_reducible exact Below.size (by assumption)) | (simp only [World.size_alloc, World.size_setCell, World.size_drew]; omega) | (simp; done) | (simp; omega)))
    have hz2 := hbel2.size
    have ho1' := owns_base hb1.size ho1
    have HR2 := Lib.hid (HR1.out.below hb2)
    clear hb1 hb2 HR1 ho1
    go_wp2_with fail
    refine (sRoutesLess_any _ _ _ rs _ HR2.out HSM.out.len).mono ?_
    rintro e w3 ⟨v2, rfl, ho2, hb3⟩
    rw [HU.out] at ho2
    have hbel3 : Below w.heap.size w w3 := by (repeat' (first | (with_reducible exact Below.refl _ _) | (with_reducible assumption) | (with_reducible refine Below.drew ?_) | (with_reducible refine below_drewN ?_ _) | (with_reducible refine Below.alloc ?_ ?_ _) | (with_reducible refine Below.setCell ?_ ?_ _) | (refine Below.trans ?_ (Below.mono (by assumption) (by first | omega | (with_reducible exact Below.size (by assumption)) | (simp; done) | (simp; omega)))) | (with_reducible exact Nat.le_refl _) | omega | (with_reducible exact Below.size (by assumption)) | (simp only [World.size_alloc, World.size_setCell, World.size_drew]; omega) | (simp; done) | (simp; omega)))
    have ho13 := owns_below hb3 ho1'
    have HR3 := Lib.hid (HR2.out.below hb3)
    clear hb3 HR2 ho1'
    go_wp2_with fail
    refine (sameRoutes_any _ _ _ _ _ (Rds.ofOwns ho13) (Rds.ofOwns ho2)).mono ?_
    rintro e w4 ⟨rfl, hb4⟩
    rw [decide_eq_true rfl]
    have hbel4 : Below w.heap.size w w4 := by (repeat' (first | (with_reducible exact Below.refl _ _) | (with_reducible assumption) | (with_reducible refine Below.drew ?_) | (with_reducible refine below_drewN ?_ _) | (with_reducible refine Below.alloc ?_ ?_ _) | (with_reducible refine Below.setCell ?_ ?_ _) | (refine Below.trans ?_ (Below.mono (by assumption) (by first | omega | (with_reducible exact Below.size (by assumption)) | (simp; done) | (simp; omega)))) | (with_reducible exact Nat.le_refl _) | omega | (with_reducible exact Below.size (by assumption)) | (simp only [World.size_alloc, World.size_setCell, World.size_drew]; omega) | (simp; done) | (simp; omega)))
    have ho14 := owns_below hb4 ho13
    have HR4 := Lib.hid (HR3.out.below hb4)
    clear hb4 HR3 ho13 ho2
    go_wp2_with fail
    refine (sRoutesValid_any _ rs _ HR4.out HSM.out.len).mono ?_
    rintro e w5 ⟨rfl, q5, rfl⟩
    obtain ⟨d, hd⟩ : ∃ d, routesB rs = d := ⟨_, rfl⟩
    have HD := Lib.hid hd
    rw [hd]
    have hbel5 : Below w.heap.size w (w4.drewN q5) := below_drewN hbel4 q5
    have HR5 := Lib.hid (HR4.out.drewN q5)
    have ho5 : (w4.drewN q5).ownsRow w.heap.size 32 2 v1 us.length (rcells us) := ho14
    clear hd hbel4 ho14 HR4
    generalize w4.drewN q5 = w5 at *
    obtain ⟨va, vc, hv1⟩ := own_len ho5
    cases d
    · have hu0 : us = [] := by rw [← HU.out]; simp [lessR, HD.out]
      subst hu0
      subst hv1
      clear ho5
      go_wp2_with fail
      refine (alive_any _).mono ?_
      rintro e w6 ⟨rfl, hb6⟩
      go_wp2
      go_returns
      exact ⟨rfl, by (repeat' (first | (with_reducible exact Below.refl _ _) | (with_reducible assumption) | (with_reducible refine Below.drew ?_) | (with_reducible refine below_drewN ?_ _) | (with_reducible refine Below.alloc ?_ ?_ _) | (with_reducible refine Below.setCell ?_ ?_ _) | (refine Below.trans ?_ (Below.mono (by assumption) (by first | omega | (with_reducible exact Below.size (by assumption)) | (simp; done) | (simp; omega)))) | (with_reducible exact Nat.le_refl _) | omega | (with_reducible exact Below.size (by assumption)) | (simp only [World.size_alloc, World.size_setCell, World.size_drew]; omega) | (simp; done) | (simp; omega)))⟩
    · have hok := (routesB_iff rs).1 HD.out
      obtain ⟨k1, k2, k3, k4⟩ := lessR_ok hok
      rw [HU.out] at k1 k2 k3 k4
      have HUK := Lib.hid k1
      have HSAME := Lib.hid k3
      have HMAT := Lib.hid k4
      have HLEN := Lib.hid k2
      have HUL := Lib.hid (RtOk_len k1)
      have HOU := Lib.hid ho5
      obtain ⟨n, hn⟩ : ∃ n, us.length = n := ⟨_, rfl⟩
      have HN := Lib.hid hn
      obtain ⟨m, hm'⟩ : ∃ m, rs.length = m := ⟨_, rfl⟩
      have HM := Lib.hid hm'
      rw [hn] at k2 hulen hv1
      rw [hm'] at k2 hl ⊢
      clear hok k1 k3 k4 ho5 hn hm'
      subst hv1
      go_wp2_with fail
      go_loopw [5] (fun i wr => ∃ k : Nat, k ≤ 64 ∧ i = .int .i64 k ∧ Below w5.heap.size w5 wr) (fun i _ => 64 - (intOf i).toNat)
      case atStart => exact ⟨0, by omega, rfl, Below.refl _ _⟩
      case round =>
        obtain ⟨k, hk, rfl, hbel⟩ := hrel
        by_cases hk64 : k < 64
        · obtain ⟨t1, t2⟩ := tri_ok k
          have hsame := HSAME.out (tri k) t1
          have htm : (tri k).size ≤ maxLen := by rw [t2]; unfold maxLen; omega
          have HS := Lib.hid hsame
          have HTM := Lib.hid htm
          clear t1 t2 hsame htm
          go_wp2_with fail
          refine (three_any k _ hk64).mono ?_
          rintro e w6 ⟨rfl, q6, rfl⟩
          have hb6 : Below w5.heap.size w5 (wr.drewN q6) := below_drewN hbel q6
          clear hbel
          generalize wr.drewN q6 = w6 at *
          go_wp2_with fail
          refine (iRouteOf_any _ us (tri k) _ ((Rds.ofOwns HOU.out).below hb6 |> fun h => by have e := HN.out; rw [e] at h ⊢; exact h) HUL.out HTM.out).mono ?_
          rintro e w7 ⟨rfl, hb7⟩
          have hbel7 : Below w5.heap.size w5 w7 := by (repeat' (first | (with_reducible exact Below.refl _ _) | (with_reducible assumption) | (with_reducible refine Below.drew ?_) | (with_reducible refine below_drewN ?_ _) | (with_reducible refine Below.alloc ?_ ?_ _) | (with_reducible refine Below.setCell ?_ ?_ _) | (refine Below.trans ?_ (Below.mono (by assumption) (by first | omega | (with_reducible exact Below.size (by assumption)) | (simp; done) | (simp; omega)))) | (with_reducible exact Nat.le_refl _) | omega | (with_reducible exact Below.size (by assumption)) | (simp only [World.size_alloc, World.size_setCell, World.size_drew]; omega) | (simp; done) | (simp; omega)))
          clear hb6 hb7
          go_wp2_with fail
          refine (three_any k _ hk64).mono ?_
          rintro e w8 ⟨rfl, q8, rfl⟩
          have hb8 : Below w5.heap.size w5 (w7.drewN q8) := below_drewN hbel7 q8
          clear hbel7
          generalize w7.drewN q8 = w8 at *
          go_wp2_with fail
          refine (iRouteOf_any _ rs (tri k) _ (HR5.out.below hb8 |> fun h => by have e := HM.out; rw [e] at h ⊢; exact h) HSM.out.len HTM.out).mono ?_
          rintro e w9 ⟨rfl, hb9⟩
          rw [HS.out]
          obtain ⟨y, hy⟩ : ∃ y, routeR rs (tri k) = y := ⟨_, rfl⟩
          rw [hy]
          have hbel9 : Below w5.heap.size w5 w9 := by (repeat' (first | (with_reducible exact Below.refl _ _) | (with_reducible assumption) | (with_reducible refine Below.drew ?_) | (with_reducible refine below_drewN ?_ _) | (with_reducible refine Below.alloc ?_ ?_ _) | (with_reducible refine Below.setCell ?_ ?_ _) | (refine Below.trans ?_ (Below.mono (by assumption) (by first | omega | (with_reducible exact Below.size (by assumption)) | (simp; done) | (simp; omega)))) | (with_reducible exact Nat.le_refl _) | omega | (with_reducible exact Below.size (by assumption)) | (simp only [World.size_alloc, World.size_setCell, World.size_drew]; omega) | (simp; done) | (simp; omega)))
          have hyy : (y != y) = false := by simp
          clear hb8 hb9 hy
          go_wp2_with fail
          go_roundw
          case rel => exact ⟨k + 1, by omega, by go_num, hbel9⟩
          case measure => simp [intOf]; omega
        · obtain rfl : k = 64 := by omega
          rw [show ((64 : Nat) : Int) = 64 from rfl]
          have hbw := hbel
          clear hk64 hbel
          obtain ⟨wo, rfl⟩ : ∃ wo : World, wo = wr := ⟨_, rfl⟩
          go_wp2_with fail
          go_loopw [6] (fun i wi => ∃ k : Nat, k ≤ n ∧ i = .int .i64 k ∧ Below w5.heap.size w5 wi) (fun i _ => n - (intOf i).toNat)
          case atStart => exact ⟨0, by omega, rfl, hbw⟩
          case round =>
            obtain ⟨k, hk, rfl, hbel⟩ := hrel
            have hz := hbel.size
            by_cases hkn : k < n
            · have ho9 := owns_below hbel HOU.out
              rw [HN.out] at ho9
              obtain ⟨g, c, hgv, hg, hO⟩ := own_some ho9 (by omega)
              cases hgv
              have hOlt := hO.lt
              have hcaps := hO.caps
              obtain ⟨r, hr⟩ : ∃ r, us[k]? = some r := ⟨_, List.getElem?_eq_getElem (by rw [HN.out]; omega)⟩
              obtain ⟨g1, g2⟩ := rcells_at us k r hr
              have q1 : wr.cell? ⟨g, k * 2, none⟩ = some (.string r.1) := by rw [hO.cell _ (by omega), g1]
              have q2 : wr.cell? ⟨g, k * 2 + 1, none⟩ = some (.int .i64 r.2) := by rw [hO.cell _ (by omega), g2]
              obtain ⟨hrd, hr3, hr0⟩ := rt_digs HUK.out (List.mem_of_getElem? hr)
              have hmat := HMAT.out k r hr
              obtain ⟨o2, hA, hRB⟩ : ∃ o2, (if vc = k + 1 then some (⟨g, 0, none⟩ : Addr) else some ⟨g, (k + 1) * 2, none⟩) = some ⟨g, o2, none⟩ ∧ ∀ j u, (rcells (us.drop (k + 1)))[j]? = some u → wr.cell? ⟨g, o2 + j, none⟩ = some u := by
                by_cases hck : vc = k + 1
                · refine ⟨0, by rw [if_pos hck], fun j u hu => ?_⟩
                  have : us.drop (k + 1) = [] := List.drop_of_length_le (by rw [HN.out]; omega)
                  rw [this] at hu
                  simp [rcells] at hu
                · refine ⟨(k + 1) * 2, by rw [if_neg hck], fun j u hu => ?_⟩
                  rw [rcells_drop2, List.getElem?_drop] at hu
                  have hj := (List.getElem?_eq_some_iff.1 hu).1
                  rw [rcells_len, HN.out] at hj
                  rw [hO.cell _ (by omega)]; exact hu
              have hRA : ∀ j u, (rcells (us.take k))[j]? = some u → wr.cell? ⟨g, j, none⟩ = some u := by
                intro j u hu
                have hj := (List.getElem?_eq_some_iff.1 hu).1
                rw [rcells_len, List.length_take, HN.out] at hj
                rw [rcells_take, List.getElem?_take_of_lt (by omega)] at hu
                rw [hO.cell _ (by omega)]; exact hu
              have HRA := Lib.hid hRA
              have HRB := Lib.hid hRB
              have HMT := Lib.hid hmat
              have HLA : Hid ((rcells (us.take k)).length = k * 2) := by unfold Hid; rw [rcells_len, List.length_take, HN.out, Nat.min_eq_left (by omega)]
              have HLB : Hid ((rcells (us.drop (k + 1))).length = (n - (k + 1)) * 2) := by unfold Hid; rw [rcells_len, List.length_drop, HN.out]
              have HWO := Lib.hid (okWo HUK.out hr)
              have HEL : Hid ((us.eraseIdx k).length = n - 1) := by unfold Hid; rw [List.length_eraseIdx_of_lt (by rw [HN.out]; exact hkn), HN.out]
              have hsm : r.1.size ≤ maxLen := by unfold maxLen; omega
              have HRM := Lib.hid hsm
              clear hRA hRB hr hrd g1 g2 hO ho9 hmat hsm
              have hs1 : IntKind.i64.wrap ((k : Int) + 1) = (k : Int) + 1 := IntWalk.i64_in _ (by omega)
              have hs2 : (0 : Int) ≤ (k : Int) + 1 := by omega
              have hs3 : ((k : Int) + 1).toNat = k + 1 := by omega
              have hs4 : (k : Int) + 1 ≤ (n : Int) := by omega
              have hs5 : (n : Int) ≤ (vc : Int) := by omega
              have hs6 : (0 : Int) ≤ (k : Int) := by omega
              have hs7 : (k : Int) ≤ (vc : Int) := by omega
              have tok1 : True := trivial
              have tok2 : True := trivial
              go_wp2_with fail
              go_region_held3 (fun _ => True) (exact trivial)
                (first
                  | (have _t := tok1; refine step_append_free (by rfl) _ _ _ (by rfl) wr.heap.size 32 i0 _ 2 24 Try.underlying28 hi hz0 (by assumption) (by assumption) rfl (by omega) _ 0 0 [] (by rfl) (World.ownsRow_lit _ #[] 0 (by simp) (by unfold maxLen; omega) rfl) ⟨g, 0, none⟩ k _ (rcells (us.take k)) (by rfl) HLA.out (by intro j u hu; rw [Addr.add_spot, Nat.zero_add]; exact keep_alloc (HRA.out j u hu)) (rcells_one _) (by unfold maxLen; omega) (by omega) (by simp) ?_; intro g6 cap6 w6 hown6 hgrow6; clear tok1; have hg6 := (Own.of hown6).2)
                  | (have _t := tok2; refine step_append_free (by rfl) _ _ _ (by rfl) wr.heap.size 32 i0 _ 2 24 Try.underlying28 hi hz0 (by assumption) (by assumption) rfl (by omega) g6 _ cap6 _ (by rfl) hown6 ⟨g, o2, none⟩ (n - (k + 1)) _ (rcells (us.drop (k + 1))) (by rfl) HLB.out (by intro j u hu; rw [Addr.add_spot]; exact keep_gb hgrow6 (by simp; omega) (keep_alloc (HRB.out j u hu))) (rcells_one _) (by unfold maxLen; omega) (by omega) (by have := hgrow6.size; simp at this; omega) ?_; intro g7 cap7 w7 hown7 hgrow7; clear tok2; have hg7 := (Own.of hown7).2))
              have B6 : Below wr.heap.size wr w6 := by
                refine Below.grown ?_ hgrow6 ?_ ?_
                · (repeat' (first | (with_reducible exact Below.refl _ _) | (with_reducible assumption) | (with_reducible refine Below.drew ?_) | (with_reducible refine below_drewN ?_ _) | (with_reducible refine Below.alloc ?_ ?_ _) | (with_reducible refine Below.setCell ?_ ?_ _) | (refine Below.trans ?_ (Below.mono (by assumption) (by first | omega | (with_reducible exact Below.size (by assumption)) | (simp; done) | (simp; omega)))) | (with_reducible exact Nat.le_refl _) | omega | (with_reducible exact Below.size (by assumption)) | (simp only [World.size_alloc, World.size_setCell, World.size_drew]; omega) | (simp; done) | (simp; omega)))
                · simp
                · intro j hj; cases hj; exact Nat.le_refl _
              have B7 : Below wr.heap.size wr w7 := by
                refine Below.grown B6 hgrow7 B6.size ?_
                intro j hj; cases hj; exact hg6
              have e7 : k + (n - (k + 1)) = n - 1 := by omega
              have hO7 : Own w7 g7 (n - 1) cap7 32 2 (rcells (us.eraseIdx k)) := by
                have h7 := (Own.of hown7).1
                rw [Nat.zero_add, e7, List.nil_append] at h7
                have e8 : rcells (us.take k) ++ rcells (us.drop (k + 1)) = rcells (us.eraseIdx k) := by rw [erase_parts]; simp [rcells, List.flatMap_append]
                rw [e8] at h7
                exact h7
              rw [e7]
              have hbel7 : Below w5.heap.size w5 w7 := by (repeat' (first | (with_reducible exact Below.refl _ _) | (with_reducible assumption) | (with_reducible refine Below.drew ?_) | (with_reducible refine below_drewN ?_ _) | (with_reducible refine Below.alloc ?_ ?_ _) | (with_reducible refine Below.setCell ?_ ?_ _) | (refine Below.trans ?_ (Below.mono (by assumption) (by first | omega | (with_reducible exact Below.size (by assumption)) | (simp; done) | (simp; omega)))) | (with_reducible exact Nat.le_refl _) | omega | (with_reducible exact Below.size (by assumption)) | (simp only [World.size_alloc, World.size_setCell, World.size_drew]; omega) | (simp; done) | (simp; omega)))
              have hz7 := B7.size
              have p1 : w7.cell? ⟨g, k * 2, none⟩ = some (.string r.1) := keep_below B7 q1
              have p2 : w7.cell? ⟨g, k * 2 + 1, none⟩ = some (.int .i64 r.2) := keep_below B7 q2
              have hR7 : Rds w7.drew (.slice (some ⟨g7, 0, none⟩) (n - 1) cap7) (us.eraseIdx k).length 2 (rcells (us.eraseIdx k)) := by rw [HEL.out]; exact (Rds.ofOwn hO7).drewN 1
              have HR7 := Lib.hid hR7
              have HWL := Lib.hid (RtOk_len HWO.out)
              obtain ⟨s, o⟩ := r
              obtain ⟨x, hx⟩ : ∃ x, routeR (us.eraseIdx k) s = x := ⟨_, rfl⟩
              have HX := Lib.hid hx
              have hxo : x ≠ o := by rw [← hx]; exact HMT.out
              have hxb : (x == o) = false := by simpa using hxo
              simp only at p1 p2 hr3 hr0
              have hk0 : (0 : Int) ≤ (k : Int) := by omega
              have hk1 : (k : Int) < (n : Int) := by omega
              have hglt : g < w7.heap.size := by omega
              clear hown6 hown7 hgrow6 hgrow7 B6 B7 hO7 q1 q2 hA hs1 hs2 hs3 hs4 e7 hx hxo hR7
              go_wp2_with fail
              go_region_held3 (fun w' => w'.cell? ⟨g, k * 2, none⟩ = some (.string s) ∧ w'.cell? ⟨g, k * 2 + 1, none⟩ = some (.int .i64 o)) ((repeat' (first | (with_reducible assumption) | (with_reducible apply And.intro) | (with_reducible apply keep_drew) | (with_reducible apply keep_drewN) | (simp [go_sem, World.cell?_alloc_past]; done) | (simp [*]; done) | (with_reducible apply keep_other (by first | (simp; done) | (simp; omega) | omega)) | (with_reducible apply keep_below (by assumption)) | (with_reducible apply keep_alloc))))
                (first | (go_at_call 30; refine (iRouteOf_any _ (us.eraseIdx k) s _ HR7.out HWL.out HRM.out).mono ?_; rintro e w8 ⟨rfl, hb8⟩; rw [HX.out]))
              have hbel8 : Below w5.heap.size w5 w8 := by (repeat' (first | (with_reducible exact Below.refl _ _) | (with_reducible assumption) | (with_reducible refine Below.drew ?_) | (with_reducible refine below_drewN ?_ _) | (with_reducible refine Below.alloc ?_ ?_ _) | (with_reducible refine Below.setCell ?_ ?_ _) | (refine Below.trans ?_ (Below.mono (by assumption) (by first | omega | (with_reducible exact Below.size (by assumption)) | (simp; done) | (simp; omega)))) | (with_reducible exact Nat.le_refl _) | omega | (with_reducible exact Below.size (by assumption)) | (simp only [World.size_alloc, World.size_setCell, World.size_drew]; omega) | (simp; done) | (simp; omega)))
              clear hb8 p1 p2
              go_wp2_with fail
              go_roundw
              case rel => exact ⟨k + 1, by omega, by go_num, hbel8⟩
              case measure => simp [intOf]; omega
            · obtain rfl : k = n := by omega
              have HVL : Hid (routesB us = true) := (routesB_iff us).2 HUK.out
              go_wp2_with fail
              refine (iRoutesValid_any _ us _ ((Rds.ofOwns HOU.out).below hbel |> fun h => by have e := HN.out; rw [e] at h ⊢; exact h) HUL.out).mono ?_
              rintro e w6 ⟨rfl, hb6⟩
              rw [HVL.out]
              have hz5 := hbel5.size
              have hbelw : Below w.heap.size w wr := by (repeat' (first | (with_reducible exact Below.refl _ _) | (with_reducible assumption) | (with_reducible refine Below.drew ?_) | (with_reducible refine below_drewN ?_ _) | (with_reducible refine Below.alloc ?_ ?_ _) | (with_reducible refine Below.setCell ?_ ?_ _) | (refine Below.trans ?_ (Below.mono (by assumption) (by first | omega | (with_reducible exact Below.size (by assumption)) | (simp; done) | (simp; omega)))) | (with_reducible exact Nat.le_refl _) | omega | (with_reducible exact Below.size (by assumption)) | (simp only [World.size_alloc, World.size_setCell, World.size_drew]; omega) | (simp; done) | (simp; omega)))
              go_wp2
              go_returns
              exact ⟨rfl, by (repeat' (first | (with_reducible exact Below.refl _ _) | (with_reducible assumption) | (with_reducible refine Below.drew ?_) | (with_reducible refine below_drewN ?_ _) | (with_reducible refine Below.alloc ?_ ?_ _) | (with_reducible refine Below.setCell ?_ ?_ _) | (refine Below.trans ?_ (Below.mono (by assumption) (by first | omega | (with_reducible exact Below.size (by assumption)) | (simp; done) | (simp; omega)))) | (with_reducible exact Nat.le_refl _) | omega | (with_reducible exact Below.size (by assumption)) | (simp only [World.size_alloc, World.size_setCell, World.size_drew]; omega) | (simp; done) | (simp; omega)))⟩

end Go.Proofs.Ytcacedcbboidoaa
