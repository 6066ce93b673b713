/- Contracts of PlanFor (program and reference). -/
import Derived.Test.YtcacedcbboidoaaPf
import Derived.Test.YtcacedcbboidoaaSh
import Derived.Test.YtcacedcbboidoaaNum
set_option linter.unusedSimpArgs false
set_option linter.unusedVariables false
namespace Go.Proofs.Ytcacedcbboidoaa
open Go.RowKit

def fitB (zs : List Int) : Bool := lensB zs && decide (shareR zs ≤ 64)
def planR (zs : List Int) : List ByteArray := if fitB zs = true then planFor zs else []
theorem fitB_sum {zs : List Int} (h : fitB zs = true) : lensB zs = true ∧ (zs.map shareN).sum ≤ 64 := by
  simp only [fitB, Bool.and_eq_true, decide_eq_true_eq] at h
  refine ⟨h.1, ?_⟩
  have h2 := h.2
  rw [shareR, if_pos h.1, share_all] at h2
  omega
theorem nextAt_small {zs : List Int} (h : fitB zs = true) (l : Int) (k : Nat) (hl : l ≤ 4) (hk : k ≤ zs.length) (hlk : l < 4 ∨ k = 0) : nextAt zs l k ≤ 64 := by
  obtain ⟨h1, h2⟩ := fitB_sum h
  have := nextAt_lex zs (l := l) (m := 4) (k := k) (j := 0) hk (by omega)
  rw [nextAt_last (fun y hy => (lensB_mem h1 y hy).2)] at this
  omega
theorem num3_cut (x l : Nat) (h : l ≤ 3) : (num3 x 3).extract 0 l = num3 x l := by
  apply bytes_ext
  have : l = 0 ∨ l = 1 ∨ l = 2 ∨ l = 3 := by omega
  rcases this with rfl | rfl | rfl | rfl <;> simp [num3, three, ByteArray.data_extract]
theorem wrap_div (x sh : Nat) (h : x ≤ 1000000) : wrap64 ((x : Int) / (sh : Int)) = ((x / sh : Nat) : Int) := by
  have h1 := Nat.div_le_self x sh
  rw [show ((x : Int) / (sh : Int)) = ((x / sh : Nat) : Int) from by simp]
  obtain ⟨y, hy⟩ : ∃ y, x / sh = y := ⟨_, rfl⟩
  rw [hy] at h1 ⊢
  exact IntWalk.wrap64_in _ (by omega)
theorem l6Text_int (z : Int) (v l : Nat) (w : World) (hz : z = (v : Nat)) (hv : v ≤ 1000000) (hl : l ≤ 8) :
    Calls Try.prog 92 #[.int .i64 z, .int .i64 l] w fun e w' => e = .returned (.string ⟨(lowD v l).toArray⟩) ∧ Below w.heap.size w w' := by
  subst hz; exact l6Text_any v l w hv hl

/-- A plan made anew, and whether there is one. -/
def PlanOut (zs : List Int) (w : World) (e : Ending) (w' : World) : Prop :=
  ∃ v, e = .returned (.tuple #[v, .bool (fitB zs)]) ∧ w'.ownsRow w.heap.size 9 1 v (planR zs).length (strs (planR zs)) ∧ Below w.heap.size w w'

set_option maxRecDepth 100000 in
set_option maxHeartbeats 1000000 in
theorem iPlanFor_any (v : Value) (zs : List Int) (w : World) (hv : Rds w v zs.length 1 (ints zs)) :
    Calls Try.prog 45 #[v] w (PlanOut zs w) := by
  obtain ⟨i0, hi, hz0, hz1, hz2⟩ := info_parts infoS
  obtain ⟨a, ca, rfl, hl1, hm1, hn1, hc1⟩ := hv.open1
  unfold maxLen at hm1
  obtain ⟨n, hn⟩ : ∃ n, zs.length = n := ⟨_, rfl⟩
  have HN := Lib.hid hn
  have HV2 : Hid (Rds w (.slice a n ca) zs.length 1 (ints zs)) := by rw [hn] at hv ⊢; exact hv
  rw [hn] at hm1 hn1 hc1 ⊢
  clear hn hl1 hv
  go_enter Try.func45, Try.ntmps45
  go_wp2_with fail
  refine (iLengthsValid_any _ zs _ HV2.out).mono ?_
  rintro e w1 ⟨rfl, rfl⟩
  obtain ⟨d, hd⟩ : ∃ d, lensB zs = d := ⟨_, rfl⟩
  have HD := Lib.hid hd
  rw [hd]
  clear hd
  cases d
  · have HF : Hid (fitB zs = false) := by simp [Hid, fitB, HD.out]
    have HR : Hid (planR zs = []) := by simp [Hid, planR, HF.out]
    go_wp2
    go_returns
    exact ⟨_, by rw [HF.out]; rfl, by rw [HR.out]; exact World.ownsRow_nil _ _ _ _, Below.refl _ _⟩
  · go_wp2_with fail
    refine (iShareSum_any _ zs _ HV2.out).mono ?_
    rintro e w1 ⟨rfl, rfl⟩
    obtain ⟨x, hx⟩ : ∃ x, shareR zs = x := ⟨_, rfl⟩
    have hxb := shareR_bd zs
    rw [hx] at hxb ⊢
    obtain ⟨hxb1, hxb2⟩ := hxb
    have HX := Lib.hid hx
    clear hx
    go_wp2_with fail
    refine (shareOf_any _ _ (by omega) (by omega)).mono ?_
    rintro e w1 ⟨rfl, rfl⟩
    rw [show ((shareN 0 : Nat) : Int) = 64 from rfl]
    by_cases hx64 : x ≤ 64
    · have HF : Hid (fitB zs = true) := by simp [Hid, fitB, HD.out, HX.out, hx64]
      have HR : Hid (planR zs = planFor zs) := by simp [Hid, planR, HF.out]
      have h10 := lensB_len HD.out
      rw [HN.out] at h10
      have hM := lensB_mem HD.out
      have HM := Lib.hid hM
      have hd64 : decide ((64 : Int) < x) = false := by simp; omega
      clear hM
      go_wp2_with (refine wpList_make_full _ rfl _ _ 42 rfl w.heap.size 9 i0 _ 1 Try.underlying42 hi hz0 hz1 .i64 .i64 _ _ n rfl rfl rfl rfl (by rw [hz2]; omega) (by unfold maxLen; omega) (Nat.le_refl _) ?_; intro w1 hown hgr)
      rw [strs_zero] at hown
      obtain ⟨hO, -⟩ := Own.of hown
      have hB : Below w.heap.size w w1 := (Below.refl w.heap.size w).grown hgr (Nat.le_refl _) (by intro k hk; cases hk)
      clear hown hgr
      go_wp2_with fail
      go_loopw [5, 6] (fun nx li wr => ∃ (l x : Nat), 1 ≤ l ∧ l ≤ 4 ∧ li = .int .i64 l ∧ nx = .int .i64 x ∧ Hid (x = nextAt zs l 0) ∧ Own wr w.heap.size n n 9 1 (strs (planTo zs l 0)) ∧ Below w.heap.size w wr) (fun _ li _ => 4 - (intOf li).toNat)
      case atStart => exact ⟨1, 0, by omega, by omega, rfl, rfl, (nextAt_first (fun z hz => (HM.out z hz).1)).symm, by rw [show ((1 : Nat) : Int) = 1 from rfl, planTo_first (fun z hz => (HM.out z hz).1), HN.out]; exact hO, hB⟩
      case round =>
        obtain ⟨l, x0, hl1, hl4, rfl, rfl, hx0, hown, hbel⟩ := hrel
        obtain ⟨wo, rfl⟩ : ∃ wo : World, wo = wr := ⟨_, rfl⟩
        have hxs0 := nextAt_small HF.out l 0 (by omega) (by omega) (.inr rfl)
        rw [← hx0.out] at hxs0
        by_cases hl3 : l ≤ 3
        · have hdl : decide ((l : Int) ≤ 3) = true := by simp; omega
          go_wp2_with fail
          go_loopw [5, 27] (fun nx ki wi => ∃ (k x : Nat), k ≤ n ∧ ki = .int .i64 k ∧ nx = .int .i64 x ∧ x ≤ 64 ∧ Hid (x = nextAt zs l k) ∧ Own wi w.heap.size n n 9 1 (strs (planTo zs l k)) ∧ Below w.heap.size w wi) (fun _ ki _ => n - (intOf ki).toNat)
          case atStart => exact ⟨0, x0, by omega, rfl, rfl, hxs0, hx0, hown, hbel⟩
          case round =>
            clear hown hbel
            obtain ⟨k, x, hk, rfl, rfl, hxs, hx, hown, hbel⟩ := hrel
            have hz := hbel.size
            by_cases hkn : k < n
            · rcases hc1 with hc1 | ⟨b, off, rfl, hb, hc1⟩
              · omega
              obtain ⟨z, hzk⟩ : ∃ z, zs[k]? = some z := ⟨_, List.getElem?_eq_getElem (by rw [HN.out]; omega)⟩
              have c1 : wr.cell? ⟨b, off + k, none⟩ = some (.int .i64 z) := by rw [hbel.cell (p := ⟨b, off + k, none⟩) hb, hc1 _ (by omega), ints_at _ _ _ hzk]
              have HST := Lib.hid (nextAt_step zs l k z hzk)
              have HPT := Lib.hid (planTo_step zs l k z hzk)
              have hzb := HM.out z (List.mem_of_getElem? hzk)
              have HZK := Lib.hid hzk
              clear hc1 hzk
              by_cases hzl : z = (l : Int)
              · have hbq : (z == (l : Int)) = true := by simp [hzl]
                have hroom := nextAt_room (fun y hy => HM.out y hy) (fitB_sum HF.out).2 HZK.out
                rw [hzl, ← hx.out] at hroom
                have hsh := shareN_small (l : Int) (by omega)
                obtain ⟨hsh1, hsh2⟩ := hsh
                have HZL := Lib.hid hzl
                clear hzl
                go_wp2_with fail
                refine (digitsOf_any x _ (by omega)).mono ?_
                rintro e w2 ⟨rfl, hb2⟩
                have HCUT := Lib.hid (num3_cut x l hl3)
                have hts : (num3 x 3).size = 3 := num3_size x (by omega)
                obtain ⟨t, ht⟩ : ∃ t, num3 x 3 = t := ⟨_, rfl⟩
                rw [ht] at hts HCUT ⊢
                clear ht
                have hlt := hown.lt
                have hown2 := hown.below hb2 hlt
                have hlt2 := hown2.lt
                obtain ⟨y, hy⟩ : ∃ y, (planTo zs l k)[k]? = some y := ⟨_, List.getElem?_eq_getElem (by rw [planTo_len, HN.out]; omega)⟩
                have d1 := hown2.cell k (by omega)
                rw [strs_at _ _ _ hy] at d1
                have f1 := hown2.free k
                clear hown hy
                go_wp2_with fail
                refine (shareOf_any _ _ (by omega) (by omega)).mono ?_
                rintro e w3 ⟨rfl, rfl⟩
                go_wp2_with fail
                go_roundw
                case rel =>
                  refine ⟨k + 1, x + shareN l, by omega, by go_num, by go_num, by omega, ?_, ?_, by (repeat' (first | (with_reducible exact Below.refl _ _) | (with_reducible assumption) | (with_reducible refine Below.drew ?_) | (with_reducible refine below_drewN ?_ _) | (with_reducible refine Below.alloc ?_ ?_ _) | (with_reducible refine Below.setCell ?_ ?_ _) | (refine Below.trans ?_ (Below.mono (by assumption) (by first | omega | (with_reducible exact Below.size (by assumption)) | (simp; done) | (simp; omega)))) | (with_reducible exact Nat.le_refl _) | omega | (with_reducible exact Below.size (by assumption)) | (simp only [World.size_alloc, World.size_setCell, World.size_drew]; omega) | (simp; done) | (simp; omega)))⟩
                  · unfold Hid; rw [HST.out, if_pos HZL.out, HZL.out, ← hx.out]
                  · rw [HPT.out, if_pos HZL.out, ← hx.out, show ((l : Int)).toNat = l from rfl, ← HCUT.out, ← strs_set]
                    (repeat' (first | (with_reducible assumption) | rfl | omega | (with_reducible apply Own.set) | (with_reducible apply Own.other (by first | (simp; done) | (simp; omega) | omega)) | (with_reducible apply Own.alloc) | (with_reducible apply Own.drewN) | (with_reducible apply Own.drew) | (with_reducible apply Own.below) | (simp; omega)))
                case measure => simp [intOf]; omega
              · have hbq : (z == (l : Int)) = false := by simpa using hzl
                have HZL := Lib.hid hzl
                clear hzl
                go_wp2_with fail
                go_roundw
                case rel => exact ⟨k + 1, x, by omega, by go_num, rfl, hxs, by unfold Hid; rw [HST.out, if_neg HZL.out, ← hx.out]; rfl, by rw [HPT.out, if_neg HZL.out]; exact hown, hbel⟩
                case measure => simp [intOf]; omega
            · obtain rfl : k = n := by omega
              go_wp2_with fail
              go_roundw
              case rel =>
                refine ⟨l + 1, x, by omega, by omega, by go_num, rfl, ?_, ?_, hbel⟩
                · unfold Hid; rw [hx.out]; rw [show (((l + 1 : Nat)) : Int) = (l : Int) + 1 from by omega, nextAt_next, HN.out]
                · rw [show (((l + 1 : Nat)) : Int) = (l : Int) + 1 from by omega, planTo_next, HN.out]; exact hown
              case measure => simp [intOf]; omega
        · obtain rfl : l = 4 := by omega
          go_wp2
          go_returns
          refine ⟨_, by rw [HF.out]; rfl, ?_, hbel⟩
          rw [show ((4 : Nat) : Int) = 4 from rfl, planTo_last (fun z hz => (HM.out z hz).2)] at hown
          rw [HR.out, planFor_len, HN.out]
          exact hown.back (Nat.le_refl _)
    · have HF : Hid (fitB zs = false) := by simp [Hid, fitB, HX.out, hx64]
      have HR : Hid (planR zs = []) := by simp [Hid, planR, HF.out]
      go_wp2
      go_returns
      exact ⟨_, by rw [HF.out]; rfl, by rw [HR.out]; exact World.ownsRow_nil _ _ _ _, Below.refl _ _⟩

set_option maxRecDepth 100000 in
set_option maxHeartbeats 1000000 in
theorem sPlanFor_any (v : Value) (zs : List Int) (w : World) (hv : Rds w v zs.length 1 (ints zs)) :
    Calls Try.prog 43 #[v] w (PlanOut zs w) := by
  obtain ⟨i0, hi, hz0, hz1, hz2⟩ := info_parts infoS
  obtain ⟨a, ca, rfl, hl1, hm1, hn1, hc1⟩ := hv.open1
  unfold maxLen at hm1
  obtain ⟨n, hn⟩ : ∃ n, zs.length = n := ⟨_, rfl⟩
  have HN := Lib.hid hn
  have HV2 : Hid (Rds w (.slice a n ca) zs.length 1 (ints zs)) := by rw [hn] at hv ⊢; exact hv
  rw [hn] at hm1 hn1 hc1 ⊢
  clear hn hl1 hv
  have hnew : (w.alloc (.cells #[] 9)).ownsRow w.heap.size 9 1 (.slice (some ⟨w.heap.size, 0, none⟩) 0 0) 0 (strs []) :=
    World.ownsRow_lit (base := w.heap.size) (e := 9) (size := 1) w #[] 0 (Nat.le_refl _) (by unfold maxLen; omega) rfl
  go_enter Try.func43, Try.ntmps43
  go_wp2_with fail
  refine (sLengthsValid_any _ zs _ HV2.out).mono ?_
  rintro e w1 ⟨rfl, rfl⟩
  obtain ⟨d, hd⟩ : ∃ d, lensB zs = d := ⟨_, rfl⟩
  have HD := Lib.hid hd
  rw [hd]
  clear hd
  cases d
  · have HF : Hid (fitB zs = false) := by simp [Hid, fitB, HD.out]
    have HR : Hid (planR zs = []) := by simp [Hid, planR, HF.out]
    go_wp2
    go_returns
    exact ⟨_, by rw [HF.out]; rfl, by rw [HR.out]; exact hnew, by (repeat' (first | (with_reducible exact Below.refl _ _) | (with_reducible assumption) | (with_reducible refine Below.drew ?_) | (with_reducible refine below_drewN ?_ _) | (with_reducible refine Below.alloc ?_ ?_ _) | (with_reducible refine Below.setCell ?_ ?_ _) | (refine Below.trans ?_ (Below.mono (by assumption) (by first | omega | (with_reducible exact Below.size (by assumption)) | (simp; done) | (simp; omega)))) | (with_reducible exact Nat.le_refl _) | omega | (with_reducible exact Below.size (by assumption)) | (simp only [World.size_alloc, World.size_setCell, World.size_drew]; omega) | (simp; done) | (simp; omega)))⟩
  · go_wp2_with fail
    refine (sShareSum_any _ zs _ HV2.out).mono ?_
    rintro e w1 ⟨rfl, rfl⟩
    obtain ⟨x, hx⟩ : ∃ x, shareR zs = x := ⟨_, rfl⟩
    have hxb := shareR_bd zs
    rw [hx] at hxb ⊢
    obtain ⟨hxb1, hxb2⟩ := hxb
    have HX := Lib.hid hx
    clear hx
    go_wp2_with fail
    refine (l6Power_any _ _ (by omega) (by omega)).mono ?_
    rintro e w1 ⟨rfl, rfl⟩
    rw [show ((shareN (3 - 3) : Nat) : Int) = 64 from rfl]
    by_cases hx64 : x ≤ 64
    · have HF : Hid (fitB zs = true) := by simp [Hid, fitB, HD.out, HX.out, hx64]
      have HR : Hid (planR zs = planFor zs) := by simp [Hid, planR, HF.out]
      have h10 := lensB_len HD.out
      rw [HN.out] at h10
      have hM := lensB_mem HD.out
      have HM := Lib.hid hM
      have hd64 : decide ((64 : Int) < x) = false := by simp; omega
      clear hM hnew
      go_wp2_with (refine wpList_make_full _ rfl _ _ 42 rfl w.heap.size 9 i0 _ 1 Try.underlying42 hi hz0 hz1 .i64 .i64 _ _ n rfl rfl rfl rfl (by rw [hz2]; omega) (by unfold maxLen; omega) (Nat.le_refl _) ?_; intro w1 hown hgr)
      rw [strs_zero] at hown
      obtain ⟨hO, -⟩ := Own.of hown
      have hB : Below w.heap.size w w1 := (Below.refl w.heap.size w).grown hgr (Nat.le_refl _) (by intro k hk; cases hk)
      clear hown hgr
      go_wp2_with fail
      go_loopw [5, 6] (fun nx li wr => ∃ (l x : Nat), 1 ≤ l ∧ l ≤ 4 ∧ li = .int .i64 l ∧ nx = .int .i64 x ∧ Hid (x = nextAt zs l 0) ∧ Own wr w.heap.size n n 9 1 (strs (planTo zs l 0)) ∧ Below w.heap.size w wr) (fun _ li _ => 4 - (intOf li).toNat)
      case atStart => exact ⟨1, 0, by omega, by omega, rfl, rfl, (nextAt_first (fun z hz => (HM.out z hz).1)).symm, by rw [show ((1 : Nat) : Int) = 1 from rfl, planTo_first (fun z hz => (HM.out z hz).1), HN.out]; exact hO, hB⟩
      case round =>
        obtain ⟨l, x0, hl1, hl4, rfl, rfl, hx0, hown, hbel⟩ := hrel
        obtain ⟨wo, rfl⟩ : ∃ wo : World, wo = wr := ⟨_, rfl⟩
        have hxs0 := nextAt_small HF.out l 0 (by omega) (by omega) (.inr rfl)
        rw [← hx0.out] at hxs0
        by_cases hl3 : l ≤ 3
        · have hdl : decide ((l : Int) ≤ 3) = true := by simp; omega
          go_wp2_with fail
          go_loopw [5, 7] (fun nx ki wi => ∃ (k x : Nat), k ≤ n ∧ ki = .int .i64 k ∧ nx = .int .i64 x ∧ x ≤ 64 ∧ Hid (x = nextAt zs l k) ∧ Own wi w.heap.size n n 9 1 (strs (planTo zs l k)) ∧ Below w.heap.size w wi) (fun _ ki _ => n - (intOf ki).toNat)
          case atStart => exact ⟨0, x0, by omega, rfl, rfl, hxs0, hx0, hown, hbel⟩
          case round =>
            clear hown hbel
            obtain ⟨k, x, hk, rfl, rfl, hxs, hx, hown, hbel⟩ := hrel
            have hz := hbel.size
            by_cases hkn : k < n
            · rcases hc1 with hc1 | ⟨b, off, rfl, hb, hc1⟩
              · omega
              obtain ⟨z, hzk⟩ : ∃ z, zs[k]? = some z := ⟨_, List.getElem?_eq_getElem (by rw [HN.out]; omega)⟩
              have c1 : wr.cell? ⟨b, off + k, none⟩ = some (.int .i64 z) := by rw [hbel.cell (p := ⟨b, off + k, none⟩) hb, hc1 _ (by omega), ints_at _ _ _ hzk]
              have HST := Lib.hid (nextAt_step zs l k z hzk)
              have HPT := Lib.hid (planTo_step zs l k z hzk)
              have hzb := HM.out z (List.mem_of_getElem? hzk)
              have HZK := Lib.hid hzk
              clear hc1 hzk
              by_cases hzl : z = (l : Int)
              · have hbq : (z == (l : Int)) = true := by simp [hzl]
                have hroom := nextAt_room (fun y hy => HM.out y hy) (fitB_sum HF.out).2 HZK.out
                rw [hzl, ← hx.out] at hroom
                have hsh := shareN_small (l : Int) (by omega)
                obtain ⟨hsh1, hsh2⟩ := hsh
                have HZL := Lib.hid hzl
                have HPOW : Hid (shareN (l : Int) = 4 ^ (3 - l)) := by unfold Hid shareN; congr 1; omega
                clear hzl
                go_wp2_with fail
                refine (l6Power_any _ _ (by omega) (by omega)).mono ?_
                rintro e w2 ⟨rfl, rfl⟩
                rw [show (3 : Int) - (3 - (l : Int)) = l from by omega]
                obtain ⟨sh, hshe⟩ : ∃ sh, shareN (l : Int) = sh := ⟨_, rfl⟩
                have HSH := Lib.hid hshe
                rw [hshe] at hroom hsh1 hsh2 ⊢
                clear hshe
                go_wp2_with fail
                refine (l6Text_int _ (x / sh) l _ (wrap_div x sh (by omega)) (by have := Nat.div_le_self x sh; omega) (by omega)).mono ?_
                rintro e w2 ⟨rfl, hb2⟩
                have HCUT : Hid ((⟨(lowD (x / sh) l).toArray⟩ : ByteArray) = num3 x l) := by unfold Hid; rw [← HSH.out, HPOW.out]; exact lowD_num3 x l hl1 hl3
                obtain ⟨t, ht⟩ : ∃ t : ByteArray, ⟨(lowD (x / sh) l).toArray⟩ = t := ⟨_, rfl⟩
                rw [ht] at HCUT ⊢
                clear ht
                have hlt := hown.lt
                have hown2 := hown.below hb2 hlt
                have hlt2 := hown2.lt
                obtain ⟨y, hy⟩ : ∃ y, (planTo zs l k)[k]? = some y := ⟨_, List.getElem?_eq_getElem (by rw [planTo_len, HN.out]; omega)⟩
                have d1 := hown2.cell k (by omega)
                rw [strs_at _ _ _ hy] at d1
                have f1 := hown2.free k
                clear hown hy
                go_wp2_with fail
                refine (l6Power_any _ _ (by omega) (by omega)).mono ?_
                rintro e w3 ⟨rfl, rfl⟩
                rw [show (3 : Int) - (3 - (l : Int)) = l from by omega, HSH.out]
                go_wp2_with fail
                go_roundw
                case rel =>
                  refine ⟨k + 1, x + sh, by omega, by go_num, by go_num, by omega, ?_, ?_, by (repeat' (first | (with_reducible exact Below.refl _ _) | (with_reducible assumption) | (with_reducible refine Below.drew ?_) | (with_reducible refine below_drewN ?_ _) | (with_reducible refine Below.alloc ?_ ?_ _) | (with_reducible refine Below.setCell ?_ ?_ _) | (refine Below.trans ?_ (Below.mono (by assumption) (by first | omega | (with_reducible exact Below.size (by assumption)) | (simp; done) | (simp; omega)))) | (with_reducible exact Nat.le_refl _) | omega | (with_reducible exact Below.size (by assumption)) | (simp only [World.size_alloc, World.size_setCell, World.size_drew]; omega) | (simp; done) | (simp; omega)))⟩
                  · unfold Hid; rw [HST.out, if_pos HZL.out, HZL.out, ← hx.out, HSH.out]
                  · rw [HPT.out, if_pos HZL.out, ← hx.out, show ((l : Int)).toNat = l from rfl, ← HCUT.out, ← strs_set]
                    (repeat' (first | (with_reducible assumption) | rfl | omega | (with_reducible apply Own.set) | (with_reducible apply Own.other (by first | (simp; done) | (simp; omega) | omega)) | (with_reducible apply Own.alloc) | (with_reducible apply Own.drewN) | (with_reducible apply Own.drew) | (with_reducible apply Own.below) | (simp; omega)))
                case measure => simp [intOf]; omega
              · have hbq : (z == (l : Int)) = false := by simpa using hzl
                have HZL := Lib.hid hzl
                clear hzl
                go_wp2_with fail
                go_roundw
                case rel => exact ⟨k + 1, x, by omega, by go_num, rfl, hxs, by unfold Hid; rw [HST.out, if_neg HZL.out, ← hx.out]; rfl, by rw [HPT.out, if_neg HZL.out]; exact hown, hbel⟩
                case measure => simp [intOf]; omega
            · obtain rfl : k = n := by omega
              go_wp2_with fail
              go_roundw
              case rel =>
                refine ⟨l + 1, x, by omega, by omega, by go_num, rfl, ?_, ?_, hbel⟩
                · unfold Hid; rw [hx.out]; rw [show (((l + 1 : Nat)) : Int) = (l : Int) + 1 from by omega, nextAt_next, HN.out]
                · rw [show (((l + 1 : Nat)) : Int) = (l : Int) + 1 from by omega, planTo_next, HN.out]; exact hown
              case measure => simp [intOf]; omega
        · obtain rfl : l = 4 := by omega
          go_wp2
          go_returns
          refine ⟨_, by rw [HF.out]; rfl, ?_, hbel⟩
          rw [show ((4 : Nat) : Int) = 4 from rfl, planTo_last (fun z hz => (HM.out z hz).2)] at hown
          rw [HR.out, planFor_len, HN.out]
          exact hown.back (Nat.le_refl _)
    · have HF : Hid (fitB zs = false) := by simp [Hid, fitB, HX.out, hx64]
      have HR : Hid (planR zs = []) := by simp [Hid, planR, HF.out]
      go_wp2
      go_returns
      exact ⟨_, by rw [HF.out]; rfl, by rw [HR.out]; exact hnew, by (repeat' (first | (with_reducible exact Below.refl _ _) | (with_reducible assumption) | (with_reducible refine Below.drew ?_) | (with_reducible refine below_drewN ?_ _) | (with_reducible refine Below.alloc ?_ ?_ _) | (with_reducible refine Below.setCell ?_ ?_ _) | (refine Below.trans ?_ (Below.mono (by assumption) (by first | omega | (with_reducible exact Below.size (by assumption)) | (simp; done) | (simp; omega)))) | (with_reducible exact Nat.le_refl _) | omega | (with_reducible exact Below.size (by assumption)) | (simp only [World.size_alloc, World.size_setCell, World.size_drew]; omega) | (simp; done) | (simp; omega)))⟩

end Go.Proofs.Ytcacedcbboidoaa
