/- The walks of the laws of PlanValid, PlanFor, PlanLengths. -/
import Derived.Test.YtcacedcbboidoaaDrNum
import Derived.Test.YtcacedcbboidoaaPg
import Derived.Test.YtcacedcbboidoaaAlive
set_option linter.unusedSimpArgs false
set_option linter.unusedVariables false
namespace Go.Proofs.Ytcacedcbboidoaa
open Go.RowKit

theorem strs_drop (ps : List ByteArray) (m : Nat) : strs (ps.drop m) = (strs ps).drop m := by simp [strs, List.map_drop]
theorem StLen.drop {ps : List ByteArray} (h : StLen ps) (m : Nat) : StLen (ps.drop m) := fun k r hr => h (m + k) r (by rw [List.getElem?_drop] at hr; exact hr)
theorem StLen.nil : StLen [] := fun k r h => by simp at h
theorem rds_nil {w : World} : Rds w (.slice none 0 0) ([] : List ByteArray).length 1 (strs []) := ⟨rfl, by simp, _, _, rfl, Nat.le_refl _, .inl rfl⟩
theorem planB_nil : planB [] = true := (planB_iff []).2 PlanOk.nil
theorem fitB_lens {ps : List ByteArray} (h : planB ps = true) : fitB (lensOf ps) = true := by
  have h1 := (planB_iff ps).1 h
  have h2 := plan_share h1
  simp only [fitB, lensOf_ok h1, Bool.true_and, decide_eq_true_eq]
  exact h2.2

set_option maxRecDepth 100000 in
set_option maxHeartbeats 1000000 in
theorem wPlanValid (a : Option Addr) (len cap : Nat) (cs : List Int) (w : World) (h0 : IsRow .u8 w a len cap cs) :
    Calls Try.prog 12 #[.slice a len cap] w fun e w' => e = .returned (.bool true) ∧ Below w.heap.size w w' := by
  have h := h0.code
  have hm := h.bd
  by_cases hbig : len > 1048576
  · go_enter Try.func12, Try.ntmps12
    go_wp2
    go_returns
    exact ⟨rfl, Below.refl _ _⟩
  · go_enter Try.func12, Try.ntmps12
    go_wp2_with fail
    refine (DrawPlanValid_any _ _ _ _ _ h).mono ?_
    rintro e w1 ⟨v, ps, rfl, ho, hl, hsm, hb1⟩
    have HSM := Lib.hid hsm
    have HR := Lib.hid (Rds.ofOwns ho)
    clear hsm
    go_wp2_with fail
    refine (iPlanValid_any _ ps _ HR.out HSM.out.len).mono ?_
    rintro e w2 ⟨rfl, rfl⟩
    go_wp2_with fail
    refine (sPlanValid_any _ ps _ HR.out HSM.out.len).mono ?_
    rintro e w3 ⟨rfl, q3, rfl⟩
    obtain ⟨o, hoo⟩ : ∃ o, planB ps = o := ⟨_, rfl⟩
    have HO := Lib.hid hoo
    rw [hoo]
    have hbel : Below w.heap.size w (w1.drewN q3) := below_drewN hb1 q3
    have ho2 : (w1.drewN q3).ownsRow w.heap.size 9 1 v ps.length (strs ps) := ho
    clear hoo ho hb1 HR
    generalize w1.drewN q3 = w4 at *
    cases o
    · have hne : (false != false) = false := rfl
      go_wp2_with fail
      refine (iPlanValid_any _ [] _ rds_nil StLen.nil).mono ?_
      rintro e w5 ⟨rfl, rfl⟩
      rw [planB_nil]
      go_wp2_with fail
      refine (alive_any _).mono ?_
      rintro e w6 ⟨rfl, hb6⟩
      go_wp2
      go_returns
      exact ⟨rfl, by (repeat' (first | (with_reducible exact Below.refl _ _) | (with_reducible assumption) | (with_reducible refine Below.drew ?_) | (with_reducible refine below_drewN ?_ _) | (with_reducible refine Below.alloc ?_ ?_ _) | (with_reducible refine Below.setCell ?_ ?_ _) | (refine Below.trans ?_ (Below.mono (by assumption) (by first | omega | (with_reducible exact Below.size (by assumption)) | (simp; done) | (simp; omega)))) | (with_reducible exact Nat.le_refl _) | omega | (with_reducible exact Below.size (by assumption)) | (simp only [World.size_alloc, World.size_setCell, World.size_drew]; omega) | (simp; done) | (simp; omega)))⟩
    · have hne : (true != true) = false := rfl
      have hshr := plan_share ((planB_iff ps).1 HO.out)
      have HPL : Hid (plensR ps = lensOf ps) := by simp [Hid, plensR, HO.out]
      obtain ⟨x, hx⟩ : ∃ x, shareR (lensOf ps) = x := ⟨_, rfl⟩
      rw [hx] at hshr
      obtain ⟨hx0, hx64⟩ := hshr
      have HX := Lib.hid hx
      clear hx
      go_wp2_with fail
      go_loop [5, 6] (fun a i => ∃ k x : Nat, k ≤ 3 ∧ i = .int .i64 k ∧ a = .int .i64 x ∧ (k = 0 ∧ x = 1 ∨ k = 1 ∧ x = 4 ∨ k = 2 ∧ x = 16 ∨ k = 3 ∧ x = 64)) (fun _ i => 3 - (intOf i).toNat)
      case atStart => exact ⟨0, 1, by omega, rfl, rfl, .inl ⟨rfl, rfl⟩⟩
      case round =>
        obtain ⟨k, y, hk, rfl, rfl, hky⟩ := hrel
        by_cases hk3 : k < 3
        · have hy16 : y ≤ 16 := by omega
          go_wp2_with fail
          go_round
          case rel => exact ⟨k + 1, y * 4, by omega, by go_num, by go_num, by omega⟩
          case measure => simp [intOf]; omega
        · obtain rfl : k = 3 := by omega
          obtain rfl : y = 64 := by omega
          clear hky hk3
          go_wp2_with fail
          refine (iPlanLengths_any _ ps _ (Rds.ofOwns ho2) HSM.out.len).mono ?_
          rintro e w5 ⟨vz, rfl, hoz, hb5⟩
          rw [HPL.out] at hoz
          have hbel5 : Below w.heap.size w w5 := by (repeat' (first | (with_reducible exact Below.refl _ _) | (with_reducible assumption) | (with_reducible refine Below.drew ?_) | (with_reducible refine below_drewN ?_ _) | (with_reducible refine Below.alloc ?_ ?_ _) | (with_reducible refine Below.setCell ?_ ?_ _) | (refine Below.trans ?_ (Below.mono (by assumption) (by first | omega | (with_reducible exact Below.size (by assumption)) | (simp; done) | (simp; omega)))) | (with_reducible exact Nat.le_refl _) | omega | (with_reducible exact Below.size (by assumption)) | (simp only [World.size_alloc, World.size_setCell, World.size_drew]; omega) | (simp; done) | (simp; omega)))
          have ho5 := owns_below hb5 ho2
          clear ho2 hb5
          go_wp2_with fail
          refine (iShareSum_any _ (lensOf ps) _ (Rds.ofOwns hoz)).mono ?_
          rintro e w6 ⟨rfl, rfl⟩
          rw [HX.out]
          clear hoz
          obtain ⟨n, hn⟩ : ∃ n, ps.length = n := ⟨_, rfl⟩
          have HN := Lib.hid hn
          rw [hn] at ho5 hl
          by_cases hn0 : n = 0
          · subst hn0
            obtain ⟨va, vc, rfl, _, _, _, _⟩ := (Rds.ofOwns ho5).open1
            clear ho5
            go_wp2
            go_returns
            exact ⟨rfl, hbel5⟩
          · obtain ⟨g, c, rfl, hg, hO⟩ := own_head ho5 (by omega)
            have hcaps := hO.caps
            have hn1 : (1 : Int) ≤ (n : Int) := by omega
            have hnb : ((n : Int) == 0) = false := by simp; omega
            have hr1 : Rds w5 (.slice (if c = 1 then some ⟨g, 0, none⟩ else some ⟨g, 1, none⟩) (n - 1) (c - 1)) (ps.drop 1).length 1 (strs (ps.drop 1)) := by
              have := (Rds.ofOwn hO).drop (m := 1) (cap' := c - 1) (a' := if c = 1 then some ⟨g, 0, none⟩ else some ⟨g, 1, none⟩) (by omega) (by omega) (by intro _; rw [if_neg (by omega)])
              rw [List.length_drop, HN.out, strs_drop]
              exact this
            obtain ⟨A, hA⟩ : ∃ A, (if c = 1 then some (⟨g, 0, none⟩ : Addr) else some ⟨g, 1, none⟩) = A := ⟨_, rfl⟩
            rw [hA] at hr1
            have HR1 := Lib.hid hr1
            have HT : Hid (planB (ps.drop 1) = true) := (planB_iff _).2 (((planB_iff ps).1 HO.out).tail)
            clear hr1 hn hn0 ho5
            go_wp2_with fail
            refine (iPlanValid_any _ (ps.drop 1) _ HR1.out (HSM.out.len.drop 1)).mono ?_
            rintro e w6 ⟨rfl, rfl⟩
            rw [HT.out]
            go_wp2
            go_returns
            exact ⟨rfl, hbel5⟩

set_option maxRecDepth 100000 in
set_option maxHeartbeats 1000000 in
theorem wPlanFor (a : Option Addr) (len cap : Nat) (cs : List Int) (w : World) (h0 : IsRow .u8 w a len cap cs) :
    Calls Try.prog 11 #[.slice a len cap] w fun e w' => e = .returned (.bool true) ∧ Below w.heap.size w w' := by
  have h := h0.code
  have hm := h.bd
  by_cases hbig : len > 1048576
  · go_enter Try.func11, Try.ntmps11
    go_wp2
    go_returns
    exact ⟨rfl, Below.refl _ _⟩
  · go_enter Try.func11, Try.ntmps11
    go_wp2_with fail
    refine (DrawPlanFor_any _ _ _ _ _ h).mono ?_
    rintro e w1 ⟨v, zs, rfl, ho, hl, -, hb1⟩
    go_wp2_with fail
    refine (iPlanFor_any _ zs _ (Rds.ofOwns ho)).mono ?_
    rintro e w2 ⟨v1, rfl, ho1, hb2⟩
    have hbel2 : Below w.heap.size w w2 := by (repeat' (first | (with_reducible exact Below.refl _ _) | (with_reducible assumption) | (with_reducible refine Below.drew ?_) | (with_reducible refine below_drewN ?_ _) | (with_reducible refine Below.alloc ?_ ?_ _) | (with_reducible refine Below.setCell ?_ ?_ _) | (refine Below.trans ?_ (Below.mono (by assumption) (by first | omega | (with_reducible exact Below.size (by assumption)) | (simp; done) | (simp; omega)))) | (with_reducible exact Nat.le_refl _) | omega | (with_reducible exact Below.size (by assumption)) | (simp only [World.size_alloc, World.size_setCell, World.size_drew]; omega) | (simp; done) | (simp; omega)))
    have hoz2 := owns_below hb2 ho
    clear ho hb1 hb2
    go_wp2_with fail
    refine (sPlanFor_any _ zs _ (Rds.ofOwns hoz2)).mono ?_
    rintro e w3 ⟨v2, rfl, ho2, hb3⟩
    have hbel3 : Below w.heap.size w w3 := by (repeat' (first | (with_reducible exact Below.refl _ _) | (with_reducible assumption) | (with_reducible refine Below.drew ?_) | (with_reducible refine below_drewN ?_ _) | (with_reducible refine Below.alloc ?_ ?_ _) | (with_reducible refine Below.setCell ?_ ?_ _) | (refine Below.trans ?_ (Below.mono (by assumption) (by first | omega | (with_reducible exact Below.size (by assumption)) | (simp; done) | (simp; omega)))) | (with_reducible exact Nat.le_refl _) | omega | (with_reducible exact Below.size (by assumption)) | (simp only [World.size_alloc, World.size_setCell, World.size_drew]; omega) | (simp; done) | (simp; omega)))
    have hoz3 := owns_below hb3 hoz2
    have ho13 := owns_below hb3 ho1
    obtain ⟨o, hoo⟩ : ∃ o, fitB zs = o := ⟨_, rfl⟩
    have HO := Lib.hid hoo
    rw [hoo]
    clear hoo hb3 hoz2 ho1
    go_wp2_with fail
    refine (sameTexts_any _ _ _ _ _ (Rds.ofOwns ho13) (Rds.ofOwns ho2)).mono ?_
    rintro e w4 ⟨rfl, hb4⟩
    rw [decide_eq_true rfl]
    have hbel4 : Below w.heap.size w w4 := by (repeat' (first | (with_reducible exact Below.refl _ _) | (with_reducible assumption) | (with_reducible refine Below.drew ?_) | (with_reducible refine below_drewN ?_ _) | (with_reducible refine Below.alloc ?_ ?_ _) | (with_reducible refine Below.setCell ?_ ?_ _) | (refine Below.trans ?_ (Below.mono (by assumption) (by first | omega | (with_reducible exact Below.size (by assumption)) | (simp; done) | (simp; omega)))) | (with_reducible exact Nat.le_refl _) | omega | (with_reducible exact Below.size (by assumption)) | (simp only [World.size_alloc, World.size_setCell, World.size_drew]; omega) | (simp; done) | (simp; omega)))
    have hoz4 := owns_below hb4 hoz3
    have ho14 := owns_below hb4 ho13
    clear hb4 hoz3 ho13 ho2
    have hne : (o != o) = false := by cases o <;> rfl
    go_wp2_with fail
    refine (iShareSum_any _ zs _ (Rds.ofOwns hoz4)).mono ?_
    rintro e w5 ⟨rfl, rfl⟩
    obtain ⟨x, hx⟩ : ∃ x, shareR zs = x := ⟨_, rfl⟩
    have hbd := shareR_bd zs
    rw [hx] at hbd ⊢
    obtain ⟨hbd1, hbd2⟩ := hbd
    have HX := Lib.hid hx
    clear hx
    obtain ⟨psn, hpsn⟩ : ∃ psn, (planR zs) = psn := ⟨_, rfl⟩
    rw [hpsn] at ho14
    have HPS := Lib.hid hpsn
    clear hpsn
    obtain ⟨va, vc, rfl, _, _, _, _⟩ := (Rds.ofOwns ho14).open1
    cases o
    · have hps0 : psn = [] := by rw [← HPS.out]; simp [planR, HO.out]
      subst hps0
      have hx2 : x < 0 ∨ 64 < x := by
        cases hl : lensB zs with
        | false => left; have := shareR_no hl; rw [HX.out] at this; omega
        | true => right; have := HO.out; simp only [fitB, hl, Bool.true_and, decide_eq_false_iff_not, HX.out] at this; omega
      clear ho14
      by_cases hxn : 0 ≤ x
      · have hx3 : 64 < x := by omega
        clear hx2
        go_wp2_with fail
        refine (alive_any _).mono ?_
        rintro e w6 ⟨rfl, hb6⟩
        go_wp2
        go_returns
        exact ⟨rfl, by (repeat' (first | (with_reducible exact Below.refl _ _) | (with_reducible assumption) | (with_reducible refine Below.drew ?_) | (with_reducible refine below_drewN ?_ _) | (with_reducible refine Below.alloc ?_ ?_ _) | (with_reducible refine Below.setCell ?_ ?_ _) | (refine Below.trans ?_ (Below.mono (by assumption) (by first | omega | (with_reducible exact Below.size (by assumption)) | (simp; done) | (simp; omega)))) | (with_reducible exact Nat.le_refl _) | omega | (with_reducible exact Below.size (by assumption)) | (simp only [World.size_alloc, World.size_setCell, World.size_drew]; omega) | (simp; done) | (simp; omega)))⟩
      · clear hx2
        have hd0 : decide (0 ≤ x) = false := by simpa using hxn
        go_wp2_with fail
        refine (alive_any _).mono ?_
        rintro e w6 ⟨rfl, hb6⟩
        go_wp2
        go_returns
        exact ⟨rfl, by (repeat' (first | (with_reducible exact Below.refl _ _) | (with_reducible assumption) | (with_reducible refine Below.drew ?_) | (with_reducible refine below_drewN ?_ _) | (with_reducible refine Below.alloc ?_ ?_ _) | (with_reducible refine Below.setCell ?_ ?_ _) | (refine Below.trans ?_ (Below.mono (by assumption) (by first | omega | (with_reducible exact Below.size (by assumption)) | (simp; done) | (simp; omega)))) | (with_reducible exact Nat.le_refl _) | omega | (with_reducible exact Below.size (by assumption)) | (simp only [World.size_alloc, World.size_setCell, World.size_drew]; omega) | (simp; done) | (simp; omega)))⟩
    · obtain ⟨hf1, hf2⟩ := fitB_sum HO.out
      have hx0 : 0 ≤ x := by have := shareR_yes hf1; rw [HX.out] at this; exact this
      have hx64 : x ≤ 64 := by have := HO.out; simp only [fitB, hf1, Bool.true_and, decide_eq_true_eq, HX.out] at this; exact this
      have HPF : Hid (psn = planFor zs) := by rw [← HPS.out]; simp [Hid, planR, HO.out]
      have HPB : Hid (planB psn = true) := by unfold Hid; rw [HPF.out]; exact (planB_iff _).2 (planFor_ok hf1 hf2)
      have HLE : Hid (plensR psn = zs) := by unfold Hid plensR; rw [if_pos HPB.out, HPF.out, planFor_lens (lensB_mem hf1)]
      have HSL : Hid (StLen psn) := by rw [← HPS.out]; exact (planR_small zs).1.len
      have HR14 := Lib.hid (Rds.ofOwns ho14)
      have HRZ := Lib.hid (Rds.ofOwns hoz4)
      clear ho14 hoz4 hf1 hf2
      go_wp2_with fail
      refine (iPlanValid_any _ psn _ HR14.out HSL.out).mono ?_
      rintro e w6 ⟨rfl, rfl⟩
      rw [HPB.out]
      go_wp2_with fail
      refine (iPlanLengths_any _ psn _ HR14.out HSL.out).mono ?_
      rintro e w7 ⟨v7, rfl, ho7, hb7⟩
      rw [HLE.out] at ho7
      go_wp2_with fail
      refine (sameInts_any _ _ zs zs _ (Rds.ofOwns ho7) (HRZ.out.below hb7)).mono ?_
      rintro e w8 ⟨rfl, hb8⟩
      rw [decide_eq_true rfl]
      have hbel7 : Below w.heap.size w w7 := by (repeat' (first | (with_reducible exact Below.refl _ _) | (with_reducible assumption) | (with_reducible refine Below.drew ?_) | (with_reducible refine below_drewN ?_ _) | (with_reducible refine Below.alloc ?_ ?_ _) | (with_reducible refine Below.setCell ?_ ?_ _) | (refine Below.trans ?_ (Below.mono (by assumption) (by first | omega | (with_reducible exact Below.size (by assumption)) | (simp; done) | (simp; omega)))) | (with_reducible exact Nat.le_refl _) | omega | (with_reducible exact Below.size (by assumption)) | (simp only [World.size_alloc, World.size_setCell, World.size_drew]; omega) | (simp; done) | (simp; omega)))
      clear ho7
      go_wp2
      go_returns
      exact ⟨rfl, by (repeat' (first | (with_reducible exact Below.refl _ _) | (with_reducible assumption) | (with_reducible refine Below.drew ?_) | (with_reducible refine below_drewN ?_ _) | (with_reducible refine Below.alloc ?_ ?_ _) | (with_reducible refine Below.setCell ?_ ?_ _) | (refine Below.trans ?_ (Below.mono (by assumption) (by first | omega | (with_reducible exact Below.size (by assumption)) | (simp; done) | (simp; omega)))) | (with_reducible exact Nat.le_refl _) | omega | (with_reducible exact Below.size (by assumption)) | (simp only [World.size_alloc, World.size_setCell, World.size_drew]; omega) | (simp; done) | (simp; omega)))⟩

set_option maxRecDepth 100000 in
set_option maxHeartbeats 1000000 in
theorem wPlanLengths (a : Option Addr) (len cap : Nat) (cs : List Int) (w : World) (h0 : IsRow .u8 w a len cap cs) :
    Calls Try.prog 16 #[.slice a len cap] w fun e w' => e = .returned (.bool true) ∧ Below w.heap.size w w' := by
  have h := h0.code
  have hm := h.bd
  by_cases hbig : len > 1048576
  · go_enter Try.func16, Try.ntmps16
    go_wp2
    go_returns
    exact ⟨rfl, Below.refl _ _⟩
  · go_enter Try.func16, Try.ntmps16
    go_wp2_with fail
    refine (DrawPlanLengths_any _ _ _ _ _ h).mono ?_
    rintro e w1 ⟨v, ps, rfl, ho, hl, hsm, hb1⟩
    have HSM := Lib.hid hsm
    clear hsm
    obtain ⟨zs, hzs⟩ : ∃ zs, plensR ps = zs := ⟨_, rfl⟩
    have HZ := Lib.hid hzs
    clear hzs
    go_wp2_with fail
    refine (iPlanLengths_any _ ps _ (Rds.ofOwns ho) HSM.out.len).mono ?_
    rintro e w2 ⟨v1, rfl, ho1, hb2⟩
    rw [HZ.out] at ho1
    have hbel2 : Below w.heap.size w w2 := by (repeat' (first | (with_reducible exact Below.refl _ _) | (with_reducible assumption) | (with_reducible refine Below.drew ?_) | (with_reducible refine below_drewN ?_ _) | (with_reducible refine Below.alloc ?_ ?_ _) | (with_reducible refine Below.setCell ?_ ?_ _) | (refine Below.trans ?_ (Below.mono (by assumption) (by first | omega | (with_reducible exact Below.size (by assumption)) | (simp; done) | (simp; omega)))) | (with_reducible exact Nat.le_refl _) | omega | (with_reducible exact Below.size (by assumption)) | (simp only [World.size_alloc, World.size_setCell, World.size_drew]; omega) | (simp; done) | (simp; omega)))
    have ho2 := owns_below hb2 ho
    clear ho hb1 hb2
    go_wp2_with fail
    refine (sPlanLengths_any _ ps _ (Rds.ofOwns ho2) HSM.out.len).mono ?_
    rintro e w3 ⟨v2, rfl, hos, hb3⟩
    rw [HZ.out] at hos
    have hbel3 : Below w.heap.size w w3 := by (repeat' (first | (with_reducible exact Below.refl _ _) | (with_reducible assumption) | (with_reducible refine Below.drew ?_) | (with_reducible refine below_drewN ?_ _) | (with_reducible refine Below.alloc ?_ ?_ _) | (with_reducible refine Below.setCell ?_ ?_ _) | (refine Below.trans ?_ (Below.mono (by assumption) (by first | omega | (with_reducible exact Below.size (by assumption)) | (simp; done) | (simp; omega)))) | (with_reducible exact Nat.le_refl _) | omega | (with_reducible exact Below.size (by assumption)) | (simp only [World.size_alloc, World.size_setCell, World.size_drew]; omega) | (simp; done) | (simp; omega)))
    have ho3 := owns_below hb3 ho2
    have ho13 := owns_below hb3 ho1
    clear hb3 ho2 ho1
    go_wp2_with fail
    refine (sameInts_any _ _ _ _ _ (Rds.ofOwns ho13) (Rds.ofOwns hos)).mono ?_
    rintro e w4 ⟨rfl, hb4⟩
    rw [decide_eq_true rfl]
    have hbel4 : Below w.heap.size w w4 := by (repeat' (first | (with_reducible exact Below.refl _ _) | (with_reducible assumption) | (with_reducible refine Below.drew ?_) | (with_reducible refine below_drewN ?_ _) | (with_reducible refine Below.alloc ?_ ?_ _) | (with_reducible refine Below.setCell ?_ ?_ _) | (refine Below.trans ?_ (Below.mono (by assumption) (by first | omega | (with_reducible exact Below.size (by assumption)) | (simp; done) | (simp; omega)))) | (with_reducible exact Nat.le_refl _) | omega | (with_reducible exact Below.size (by assumption)) | (simp only [World.size_alloc, World.size_setCell, World.size_drew]; omega) | (simp; done) | (simp; omega)))
    have ho4 := owns_below hb4 ho3
    have ho14 := owns_below hb4 ho13
    clear hb4 ho3 ho13 hos
    go_wp2_with fail
    refine (sPlanValid_any _ ps _ (Rds.ofOwns ho4) HSM.out.len).mono ?_
    rintro e w5 ⟨rfl, q5, rfl⟩
    obtain ⟨o, hoo⟩ : ∃ o, planB ps = o := ⟨_, rfl⟩
    have HO := Lib.hid hoo
    rw [hoo]
    have hbel5 : Below w.heap.size w (w4.drewN q5) := below_drewN hbel4 q5
    have ho5 : (w4.drewN q5).ownsRow w.heap.size 9 1 v ps.length (strs ps) := ho4
    have ho15 := Rds.drewN q5 (Rds.ofOwns ho14)
    clear hoo ho4 ho14 hbel4
    generalize w4.drewN q5 = w5 at *
    obtain ⟨va, vc, rfl, _, _, _, _⟩ := ho15.open1
    obtain ⟨vb, vd, rfl, _, _, _, _⟩ := (Rds.ofOwns ho5).open1
    have HR15 := Lib.hid ho15
    cases o
    · have hz0 : zs = [] := by rw [← HZ.out]; simp [plensR, HO.out]
      subst hz0
      clear ho15 ho5 HR15
      go_wp2_with fail
      refine (alive_any _).mono ?_
      rintro e w6 ⟨rfl, hb6⟩
      go_wp2
      go_returns
      exact ⟨rfl, by (repeat' (first | (with_reducible exact Below.refl _ _) | (with_reducible assumption) | (with_reducible refine Below.drew ?_) | (with_reducible refine below_drewN ?_ _) | (with_reducible refine Below.alloc ?_ ?_ _) | (with_reducible refine Below.setCell ?_ ?_ _) | (refine Below.trans ?_ (Below.mono (by assumption) (by first | omega | (with_reducible exact Below.size (by assumption)) | (simp; done) | (simp; omega)))) | (with_reducible exact Nat.le_refl _) | omega | (with_reducible exact Below.size (by assumption)) | (simp only [World.size_alloc, World.size_setCell, World.size_drew]; omega) | (simp; done) | (simp; omega)))⟩
    · have HZL : Hid (zs = lensOf ps) := by rw [← HZ.out]; simp [Hid, plensR, HO.out]
      have HF : Hid (fitB zs = true) := by unfold Hid; rw [HZL.out]; exact fitB_lens HO.out
      have HLB := Lib.hid (fitB_sum HF.out).1
      obtain ⟨n, hn⟩ : ∃ n, ps.length = n := ⟨_, rfl⟩
      have hzn : zs.length = n := by rw [HZL.out, ← hn]; simp [lensOf]
      have HZN := Lib.hid hzn
      have HR16 : Hid (Rds w5 (.slice va n vc) zs.length 1 (ints zs)) := by have := HR15.out; rw [hzn] at this ⊢; exact this
      rw [hn, hzn]
      clear ho15 ho5 hn hzn HR15
      go_wp2_with fail
      refine (iPlanFor_any _ zs _ HR16.out).mono ?_
      rintro e w6 ⟨v6, rfl, ho6, hb6⟩
      rw [HF.out]
      clear ho6
      go_wp2_with fail
      refine (iLengthsValid_any _ zs _ (HR16.out.below hb6)).mono ?_
      rintro e w7 ⟨rfl, rfl⟩
      rw [HLB.out]
      go_wp2
      go_returns
      exact ⟨rfl, by (repeat' (first | (with_reducible exact Below.refl _ _) | (with_reducible assumption) | (with_reducible refine Below.drew ?_) | (with_reducible refine below_drewN ?_ _) | (with_reducible refine Below.alloc ?_ ?_ _) | (with_reducible refine Below.setCell ?_ ?_ _) | (refine Below.trans ?_ (Below.mono (by assumption) (by first | omega | (with_reducible exact Below.size (by assumption)) | (simp; done) | (simp; omega)))) | (with_reducible exact Nat.le_refl _) | omega | (with_reducible exact Below.size (by assumption)) | (simp only [World.size_alloc, World.size_setCell, World.size_drew]; omega) | (simp; done) | (simp; omega)))⟩

end Go.Proofs.Ytcacedcbboidoaa
