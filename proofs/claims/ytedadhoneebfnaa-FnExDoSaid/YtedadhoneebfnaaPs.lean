/- The reference's PlanFor. -/
import Derived.Test.YtedadhoneebfnaaJ2
import Derived.Test.YtedadhoneebfnaaJ1
import Derived.Handy
import Derived.Lib.Hide
import Derived.Laws.IdiomStrings
set_option linter.unusedSimpArgs false
set_option linter.unusedVariables false
namespace Go.Proofs.Ytedadhoneebfnaa
open Go.RowKit

def ints (zs : List Int) : List Value := zs.map (Value.int .i64)
theorem ints_len (zs : List Int) : (ints zs).length = zs.length := by simp [ints]
theorem ints_set (zs : List Int) (j : Nat) (z : Int) : (ints zs).set j (.int .i64 z) = ints (zs.set j z) := by simp [ints, List.map_set]
theorem ints_at (zs : List Int) (j : Nat) (z : Int) (h : zs[j]? = some z) : (ints zs)[j]? = some (.int .i64 z) := by simp [ints, h]
set_option maxHeartbeats 400000 in
theorem sLengthsValid_any (v : Value) (zs : List Int) (w : World) (hv : Rds w v zs.length 1 (ints zs)) :
  Calls Try.prog 120 #[v] w fun e w' => e = .returned (.bool (lensB zs)) ∧ w = w' := by
 obtain ⟨a, ca, rfl, hl1, hm1, hn1, hc1⟩ := hv.open1
 unfold maxLen at hm1
 clear hl1 hv
 obtain ⟨n, hn⟩ : ∃ n, zs.length = n := ⟨_, rfl⟩
 rw [hn] at hm1 hn1 hc1 ⊢
 have HN := Lib.hid hn
 clear hn
 go_enter Try.func120, Try.ntmps120
 go_wp2_with fail
 go_loop [3] (fun i => ∃ k : Nat, k ≤ n ∧ i = .int .i64 k ∧ Hid ((zs.take k).all lenB = true)) (fun i => n - (intOf i).toNat)
 case atStart => exact ⟨0, by omega, rfl, rfl⟩
 case round =>
  obtain ⟨k, hk, rfl, hall⟩ := hrel
  by_cases hkn : k < n
  ·
   rcases hc1 with hc1 | ⟨b1, o1, rfl, hb1, hc1⟩
   ·
    omega
   obtain ⟨z, hz⟩ : ∃ z, zs[k]? = some z := ⟨_, List.getElem?_eq_getElem (by rw [HN.out]; omega)⟩
   have g1 := hc1 k hkn
   rw [ints_at _ _ _ hz] at g1
   have HZ := Lib.hid hz
   clear hc1 hz
   go_wp2_with fail
   refine (sIn_any _ _ _ _).mono ?_
   rintro e w1 ⟨rfl, rfl⟩
   rw [show (decide (1 ≤ z) && decide (z ≤ 3)) = lenB z from rfl]
   obtain ⟨o, ho⟩ : ∃ o, lenB z = o := ⟨_, rfl⟩
   have HO := Lib.hid ho
   rw [ho]
   clear ho
   cases o
   ·
    go_wp2
    go_returns
    exact ⟨by simp [lensB, all_no lenB zs k z HZ.out HO.out], rfl⟩
   ·
    go_wp2_with fail
    go_round
    case rel => exact ⟨k + 1, by omega, by go_num, by unfold Hid; rw [all_step lenB zs k z HZ.out, hall.out, HO.out]; rfl⟩
    case measure => simp [intOf]; omega
  ·
   obtain rfl : k = n := by omega
   have h1 := hall.out
   rw [List.take_of_length_le (by rw [HN.out]; omega)] at h1
   have hfin : lensB zs = decide (k ≤ 10) := by simp [lensB, HN.out, h1]
   have HF := Lib.hid hfin
   clear hfin h1
   by_cases h10 : k ≤ 10
   ·
    have hd : decide ((k : Int) ≤ 10) = true := by simp; omega
    go_wp2
    go_returns
    exact ⟨by rw [HF.out]; simp [h10], rfl⟩
   ·
    have hd : decide ((k : Int) ≤ 10) = false := by simp; omega
    go_wp2
    go_returns
    exact ⟨by rw [HF.out]; simp [h10], rfl⟩

set_option maxHeartbeats 400000 in
theorem l6Power_any (z : Int) (w : World) (h0 : 0 ≤ z) (h1 : z ≤ 3) :
  Calls Try.prog 122 #[.int .i64 z] w fun e w' => e = .returned (.int .i64 (shareN (3 - z))) ∧ w = w' := by
 have hz : z = 0 ∨ z = 1 ∨ z = 2 ∨ z = 3 := by omega
 rcases hz with rfl | rfl | rfl | rfl
 all_goals
  go_enter Try.func122, Try.ntmps122
  go_wp2
  go_rounds 4
  go_returns
  exact ⟨rfl, rfl⟩

set_option maxHeartbeats 400000 in
theorem sShareSum_any (v : Value) (zs : List Int) (w : World) (hv : Rds w v zs.length 1 (ints zs)) :
  Calls Try.prog 121 #[v] w fun e w' => e = .returned (.int .i64 (shareR zs)) ∧ w = w' := by
 obtain ⟨a, ca, rfl, hl1, hm1, hn1, hc1⟩ := hv.open1
 have HV := Lib.hid hv
 clear hl1 hv
 obtain ⟨n, hn⟩ : ∃ n, zs.length = n := ⟨_, rfl⟩
 rw [hn] at hm1 hn1 hc1 HV ⊢
 have HN := Lib.hid hn
 clear hn
 have HV2 : Hid (Rds w (.slice a n ca) zs.length 1 (ints zs)) := by rw [HN.out]; exact HV
 obtain ⟨o, ho⟩ : ∃ o, lensB zs = o := ⟨_, rfl⟩
 have HO := Lib.hid ho
 clear ho
 go_enter Try.func121, Try.ntmps121
 go_wp2_with fail
 refine (sLengthsValid_any _ zs _ HV2.out).mono ?_
 rintro e w1 ⟨rfl, rfl⟩
 rw [HO.out]
 cases o
 ·
  go_wp2
  go_returns
  exact ⟨by simp [shareR, HO.out], rfl⟩
 ·
  have h10 := lensB_len HO.out
  rw [HN.out] at h10
  go_wp2_with fail
  go_loop [3, 4] (fun s i => ∃ k x : Nat, k ≤ n ∧ i = .int .i64 k ∧ s = .int .i64 x ∧ Hid (x = shareTo zs k) ∧ x ≤ 64 * k) (fun _ i => n - (intOf i).toNat)
  case atStart => exact ⟨0, 0, by omega, rfl, rfl, by simp [Hid, shareTo], by omega⟩
  case round =>
   obtain ⟨k, x, hk, rfl, rfl, hx, hxb⟩ := hrel
   by_cases hkn : k < n
   ·
    rcases hc1 with hc1 | ⟨b1, o1, rfl, hb1, hc1⟩
    ·
     omega
    obtain ⟨z, hz⟩ : ∃ z, zs[k]? = some z := ⟨_, List.getElem?_eq_getElem (by rw [HN.out]; omega)⟩
    have g1 := hc1 k hkn
    rw [ints_at _ _ _ hz] at g1
    obtain ⟨z1, z2⟩ := lensB_at HO.out k z hz
    obtain ⟨y1, y2⟩ := shareN_small z (by omega)
    have hst := shareTo_step zs k z hz
    have HST := Lib.hid hst
    clear hc1 hz hst
    go_wp2_with (go_at_call 122; refine (l6Power_any _ _ (by omega) (by omega)).mono ?_; rintro e w1 ⟨rfl, rfl⟩; rw [show (3 : Int) - (3 - z) = z from by omega])
    go_round
    case rel => exact ⟨k + 1, x + shareN z, by omega, by go_num, by go_num, by unfold Hid; rw [HST.out, hx.out], by omega⟩
    case measure => simp [intOf]; omega
   ·
    obtain rfl : k = n := by omega
    go_wp2
    go_returns
    refine ⟨?_, rfl⟩
    have hf : shareR zs = (x : Int) := by simp [shareR, HO.out, HN.out, hx.out]
    rw [hf]
    rfl
theorem dig_cast (a : Nat) : ((UInt8.ofNat (48 + a % 4)).toNat : Int) = 48 + (a : Int) % 4 := by
 rw [UInt8.toNat_ofNat']; omega

/-- The last j digits of a number. -/
def lowD (v : Nat) : Nat → List UInt8
 | 0 => []
 | j + 1 => UInt8.ofNat (48 + v / 4 ^ j % 4) :: lowD v j
theorem lowD_len (v j : Nat) : (lowD v j).length = j := by
 induction j with
 | zero => rfl
 | succ j ih => simp [lowD, ih]
theorem lowD_num3 (x l : Nat) (h1 : 1 ≤ l) (h3 : l ≤ 3) : (⟨(lowD (x / 4 ^ (3 - l)) l).toArray⟩ : ByteArray) = num3 x l := by
 have : l = 1 ∨ l = 2 ∨ l = 3 := by omega
 unfold num3
 rcases this with rfl | rfl | rfl
 ·
  simp [lowD, three]
 ·
  simp [lowD, three, Nat.div_div_eq_div_mul]
 ·
  simp [lowD, three, Nat.div_div_eq_div_mul]

set_option maxRecDepth 100000 in
set_option maxHeartbeats 400000 in
theorem l6Text_any (v l : Nat) (w : World) (hv : v ≤ 1000000) (hl : l ≤ 8) :
  Calls Try.prog 123 #[.int .i64 v, .int .i64 l] w fun e w' => e = .returned (.string ⟨(lowD v l).toArray⟩) ∧ Below w.heap.size w w' := by
 go_enter Try.func123, Try.ntmps123
 go_wp2_with fail
 go_loopw [0, 5, 6] (fun vv s i wr => ∃ (j u : Nat), i = .int .i64 j ∧ vv = .int .i64 u ∧ Hid (u = v / 4 ^ j) ∧ u ≤ v ∧ s = .string ⟨(lowD v j).toArray⟩ ∧ j ≤ l ∧ Below w.heap.size w wr) (fun _ _ i _ => l - (intOf i).toNat)
 case atStart => exact ⟨0, v, rfl, rfl, by simp [Hid], by omega, rfl, by omega, Below.refl _ _⟩
 case round =>
  obtain ⟨j, u, rfl, rfl, hu, huv, rfl, hj, hbel⟩ := hrel
  have hz := hbel.size
  have hl8 : (lowD v j).length ≤ 8 := by rw [lowD_len]; omega
  by_cases hjl : j < l
  ·
   obtain ⟨c, hc⟩ : ∃ c, UInt8.ofNat (48 + u % 4) = c := ⟨_, rfl⟩
   have hcn : (c.toNat : Int) = 48 + (u : Int) % 4 := by rw [← hc]; exact dig_cast u
   have hcv : (convert 51 9 (.slice (some ⟨wr.heap.size, 0, none⟩) 1 1)).run Try.prog (wr.alloc (.cells #[.int .u8 (48 + (u : Int) % 4)] 5)) = .ok (.string ⟨#[c]⟩) (wr.alloc (.cells #[.int .u8 (48 + (u : Int) % 4)] 5)) :=
    run_convert_bytes_back _ _ _ 5 _ 1 [c] Try.underlying51 Try.underlying5 Try.underlying9 (by intro i hi; simp at hi; subst hi; rw [Addr.add_spot, World.cell?_alloc_at _ _ _ _ rfl]; simp [hcn])
   have HC := Lib.hid hc
   clear hc
   go_wp2
   go_roundw
   case rel =>
    refine ⟨j + 1, u / 4, by go_num, by go_num, ?_, by omega, ?_, by omega, by (exact grownA)⟩
    ·
     unfold Hid; rw [hu.out, Nat.div_div_eq_div_mul, Nat.pow_succ]
    ·
     have : (⟨#[c]⟩ : ByteArray) ++ ⟨(lowD v j).toArray⟩ = ⟨(lowD v (j + 1)).toArray⟩ := by
      apply bytes_ext; simp only [ByteArray.data_append, lowD]; rw [← hu.out, HC.out]; simp
     first | rw [this] | simp [this]
   case measure => simp [intOf]; omega
  ·
   obtain rfl : j = l := by omega
   go_wp2
   go_returns
   exact ⟨rfl, hbel⟩

theorem infoSz : (Try.prog.info? 9).map (fun i => (i.zero, i.size, i.bytes)) = some (some (.string ByteArray.empty), 1, 16) := by kernel_rfl
theorem strs_setz (ps : List ByteArray) (j : Nat) (s : ByteArray) : (strs ps).set j (.string s) = strs (ps.set j s) := by simp [strs, List.map_set]
theorem strs_zeroz (n : Nat) : (madeCells (Value.string ByteArray.empty).cells (n * 1)).toList = strs (List.replicate n ByteArray.empty) := by
 apply List.ext_getElem?
 intro i
 by_cases hi : i < n
 ·
  simp [madeCells, Value.cells, strs, hi, List.getElem?_replicate, Nat.mod_one]
 ·
  rw [List.getElem?_eq_none (by simp [madeCells]; omega), List.getElem?_eq_none (by simp [strs]; omega)]

def fitB (zs : List Int) : Bool := lensB zs && decide (shareR zs ≤ 64)
def planR (zs : List Int) : List ByteArray := if fitB zs = true then planFor zs else []
theorem fitB_sum {zs : List Int} (h : fitB zs = true) : lensB zs = true ∧ (zs.map shareN).sum ≤ 64 := by
 simp only [fitB, Bool.and_eq_true, decide_eq_true_eq] at h
 refine ⟨h.1, ?_⟩
 have h2 := h.2
 rw [shareR, if_pos h.1, share_all] at h2
 omega
theorem nextAt_small {zs : List Int} (h : fitB zs = true) (l : Int) (k : Nat) (hl : l ≤ 4) (hk : k ≤ zs.length) (hlk : l < 4 ∨ k = 0) : nextAt zs l k ≤ 64 := by
 obtain ⟨h1, h2⟩ := fitB_sum h
 have := nextAt_lex zs (l := l) (m := 4) (k := k) (j := 0) hk (by omega)
 rw [nextAt_last (fun y hy => (lensB_mem h1 y hy).2)] at this
 omega
theorem num3_cut (x l : Nat) (h : l ≤ 3) : (num3 x 3).extract 0 l = num3 x l := by
 apply bytes_ext
 have : l = 0 ∨ l = 1 ∨ l = 2 ∨ l = 3 := by omega
 rcases this with rfl | rfl | rfl | rfl <;> simp [num3, three, ByteArray.data_extract]
theorem wrap_div (x sh : Nat) (h : x ≤ 1000000) : wrap64 ((x : Int) / (sh : Int)) = ((x / sh : Nat) : Int) := by
 have h1 := Nat.div_le_self x sh
 rw [show ((x : Int) / (sh : Int)) = ((x / sh : Nat) : Int) from by simp]
 obtain ⟨y, hy⟩ : ∃ y, x / sh = y := ⟨_, rfl⟩
 rw [hy] at h1 ⊢
 exact IntWalk.wrap64_in _ (by omega)
theorem l6Text_int (z : Int) (v l : Nat) (w : World) (hz : z = (v : Nat)) (hv : v ≤ 1000000) (hl : l ≤ 8) :
  Calls Try.prog 123 #[.int .i64 z, .int .i64 l] w fun e w' => e = .returned (.string ⟨(lowD v l).toArray⟩) ∧ Below w.heap.size w w' := by
 subst hz; exact l6Text_any v l w hv hl

/-- A plan made anew, and whether there is one. -/
def PlanOut (zs : List Int) (w : World) (e : Ending) (w' : World) : Prop :=
 ∃ v, e = .returned (.tuple #[v, .bool (fitB zs)]) ∧ w'.ownsRow w.heap.size 9 1 v (planR zs).length (strs (planR zs)) ∧ Below w.heap.size w w'

set_option maxRecDepth 100000 in
set_option maxHeartbeats 1000000 in
theorem sPlanFor_any (v : Value) (zs : List Int) (w : World) (hv : Rds w v zs.length 1 (ints zs)) :
  Calls Try.prog 108 #[v] w (PlanOut zs w) := by
 obtain ⟨i0, hi, hz0, hz1, hz2⟩ := info_parts infoSz
 obtain ⟨a, ca, rfl, hl1, hm1, hn1, hc1⟩ := hv.open1
 unfold maxLen at hm1
 obtain ⟨n, hn⟩ : ∃ n, zs.length = n := ⟨_, rfl⟩
 have HN := Lib.hid hn
 have HV2 : Hid (Rds w (.slice a n ca) zs.length 1 (ints zs)) := by rw [hn] at hv ⊢; exact hv
 rw [hn] at hm1 hn1 hc1 ⊢
 clear hn hl1 hv
 have hnew : (w.alloc (.cells #[] 9)).ownsRow w.heap.size 9 1 (.slice (some ⟨w.heap.size, 0, none⟩) 0 0) 0 (strs []) :=
  World.ownsRow_lit (base := w.heap.size) (e := 9) (size := 1) w #[] 0 (Nat.le_refl _) (by unfold maxLen; omega) rfl
 go_enter Try.func108, Try.ntmps108
 go_wp2_with fail
 refine (sLengthsValid_any _ zs _ HV2.out).mono ?_
 rintro e w1 ⟨rfl, rfl⟩
 obtain ⟨d, hd⟩ : ∃ d, lensB zs = d := ⟨_, rfl⟩
 have HD := Lib.hid hd
 rw [hd]
 clear hd
 cases d
 ·
  have HF : Hid (fitB zs = false) := by simp [Hid, fitB, HD.out]
  have HR : Hid (planR zs = []) := by simp [Hid, planR, HF.out]
  go_wp2
  go_returns
  exact ⟨_, by rw [HF.out]; rfl, by rw [HR.out]; exact hnew, by (exact grownA)⟩
 ·
  go_wp2_with fail
  refine (sShareSum_any _ zs _ HV2.out).mono ?_
  rintro e w1 ⟨rfl, rfl⟩
  obtain ⟨x, hx⟩ : ∃ x, shareR zs = x := ⟨_, rfl⟩
  have hxb := shareR_bd zs
  rw [hx] at hxb ⊢
  obtain ⟨hxb1, hxb2⟩ := hxb
  have HX := Lib.hid hx
  clear hx
  go_wp2_with fail
  refine (l6Power_any _ _ (by omega) (by omega)).mono ?_
  rintro e w1 ⟨rfl, rfl⟩
  rw [show ((shareN (3 - 3) : Nat) : Int) = 64 from rfl]
  by_cases hx64 : x ≤ 64
  ·
   have HF : Hid (fitB zs = true) := by simp [Hid, fitB, HD.out, HX.out, hx64]
   have HR : Hid (planR zs = planFor zs) := by simp [Hid, planR, HF.out]
   have h10 := lensB_len HD.out
   rw [HN.out] at h10
   have hM := lensB_mem HD.out
   have HM := Lib.hid hM
   have hd64 : decide ((64 : Int) < x) = false := by simp; omega
   clear hM hnew
   go_wp2_with (refine wpList_make_full _ rfl _ _ 24 rfl w.heap.size 9 i0 _ 1 Try.underlying24 hi hz0 hz1 .i64 .i64 _ _ n rfl rfl rfl rfl (by rw [hz2]; omega) (by unfold maxLen; omega) (Nat.le_refl _) ?_; intro w1 hown hgr)
   rw [strs_zeroz] at hown
   obtain ⟨hO, -⟩ := Own.of hown
   have hB : Below w.heap.size w w1 := (Below.refl w.heap.size w).grown hgr (Nat.le_refl _) (by intro k hk; cases hk)
   clear hown hgr
   go_wp2_with fail
   go_loopw [5, 6] (fun nx li wr => ∃ (l x : Nat), 1 ≤ l ∧ l ≤ 4 ∧ li = .int .i64 l ∧ nx = .int .i64 x ∧ Hid (x = nextAt zs l 0) ∧ Own wr w.heap.size n n 9 1 (strs (planTo zs l 0)) ∧ Below w.heap.size w wr) (fun _ li _ => 4 - (intOf li).toNat)
   case atStart => exact ⟨1, 0, by omega, by omega, rfl, rfl, (nextAt_first (fun z hz => (HM.out z hz).1)).symm, by rw [show ((1 : Nat) : Int) = 1 from rfl, planTo_first (fun z hz => (HM.out z hz).1), HN.out]; exact hO, hB⟩
   case round =>
    obtain ⟨l, x0, hl1, hl4, rfl, rfl, hx0, hown, hbel⟩ := hrel
    obtain ⟨wo, rfl⟩ : ∃ wo : World, wo = wr := ⟨_, rfl⟩
    have hxs0 := nextAt_small HF.out l 0 (by omega) (by omega) (.inr rfl)
    rw [← hx0.out] at hxs0
    by_cases hl3 : l ≤ 3
    ·
     have hdl : decide ((l : Int) ≤ 3) = true := by simp; omega
     go_wp2_with fail
     go_loopw [5, 7] (fun nx ki wi => ∃ (k x : Nat), k ≤ n ∧ ki = .int .i64 k ∧ nx = .int .i64 x ∧ x ≤ 64 ∧ Hid (x = nextAt zs l k) ∧ Own wi w.heap.size n n 9 1 (strs (planTo zs l k)) ∧ Below w.heap.size w wi) (fun _ ki _ => n - (intOf ki).toNat)
     case atStart => exact ⟨0, x0, by omega, rfl, rfl, hxs0, hx0, hown, hbel⟩
     case round =>
      clear hown hbel
      obtain ⟨k, x, hk, rfl, rfl, hxs, hx, hown, hbel⟩ := hrel
      have hz := hbel.size
      by_cases hkn : k < n
      ·
       rcases hc1 with hc1 | ⟨b, off, rfl, hb, hc1⟩
       ·
        omega
       obtain ⟨z, hzk⟩ : ∃ z, zs[k]? = some z := ⟨_, List.getElem?_eq_getElem (by rw [HN.out]; omega)⟩
       have c1 : wr.cell? ⟨b, off + k, none⟩ = some (.int .i64 z) := by rw [hbel.cell (p := ⟨b, off + k, none⟩) hb, hc1 _ (by omega), ints_at _ _ _ hzk]
       have HST := Lib.hid (nextAt_step zs l k z hzk)
       have HPT := Lib.hid (planTo_step zs l k z hzk)
       have hzb := HM.out z (List.mem_of_getElem? hzk)
       have HZK := Lib.hid hzk
       clear hc1 hzk
       by_cases hzl : z = (l : Int)
       ·
        have hbq : (z == (l : Int)) = true := by simp [hzl]
        have hroom := nextAt_room (fun y hy => HM.out y hy) (fitB_sum HF.out).2 HZK.out
        rw [hzl, ← hx.out] at hroom
        have hsh := shareN_small (l : Int) (by omega)
        obtain ⟨hsh1, hsh2⟩ := hsh
        have HZL := Lib.hid hzl
        have HPOW : Hid (shareN (l : Int) = 4 ^ (3 - l)) := by unfold Hid shareN; congr 1; omega
        clear hzl
        go_wp2_with fail
        refine (l6Power_any _ _ (by omega) (by omega)).mono ?_
        rintro e w2 ⟨rfl, rfl⟩
        rw [show (3 : Int) - (3 - (l : Int)) = l from by omega]
        obtain ⟨sh, hshe⟩ : ∃ sh, shareN (l : Int) = sh := ⟨_, rfl⟩
        have HSH := Lib.hid hshe
        rw [hshe] at hroom hsh1 hsh2 ⊢
        clear hshe
        go_wp2_with fail
        refine (l6Text_int _ (x / sh) l _ (wrap_div x sh (by omega)) (by have := Nat.div_le_self x sh; omega) (by omega)).mono ?_
        rintro e w2 ⟨rfl, hb2⟩
        have HCUT : Hid ((⟨(lowD (x / sh) l).toArray⟩ : ByteArray) = num3 x l) := by unfold Hid; rw [← HSH.out, HPOW.out]; exact lowD_num3 x l hl1 hl3
        obtain ⟨t, ht⟩ : ∃ t : ByteArray, ⟨(lowD (x / sh) l).toArray⟩ = t := ⟨_, rfl⟩
        rw [ht] at HCUT ⊢
        clear ht
        have hlt := hown.lt
        have hown2 := hown.below hb2 hlt
        have hlt2 := hown2.lt
        obtain ⟨y, hy⟩ : ∃ y, (planTo zs l k)[k]? = some y := ⟨_, List.getElem?_eq_getElem (by rw [planTo_len, HN.out]; omega)⟩
        have d1 := hown2.cell k (by omega)
        rw [strs_at _ _ _ hy] at d1
        have f1 := hown2.free k
        clear hown hy
        go_wp2_with fail
        refine (l6Power_any _ _ (by omega) (by omega)).mono ?_
        rintro e w3 ⟨rfl, rfl⟩
        rw [show (3 : Int) - (3 - (l : Int)) = l from by omega, HSH.out]
        go_wp2_with fail
        go_roundw
        case rel =>
         refine ⟨k + 1, x + sh, by omega, by go_num, by go_num, by omega, ?_, ?_, by (exact grownA)⟩
         ·
          unfold Hid; rw [HST.out, if_pos HZL.out, HZL.out, ← hx.out, HSH.out]
         ·
          rw [HPT.out, if_pos HZL.out, ← hx.out, show ((l : Int)).toNat = l from rfl, ← HCUT.out, ← strs_setz]
          (exact ownA)
        case measure => simp [intOf]; omega
       ·
        have hbq : (z == (l : Int)) = false := by simpa using hzl
        have HZL := Lib.hid hzl
        clear hzl
        go_wp2_with fail
        go_roundw
        case rel => exact ⟨k + 1, x, by omega, by go_num, rfl, hxs, by unfold Hid; rw [HST.out, if_neg HZL.out, ← hx.out]; rfl, by rw [HPT.out, if_neg HZL.out]; exact hown, hbel⟩
        case measure => simp [intOf]; omega
      ·
       obtain rfl : k = n := by omega
       go_wp2_with fail
       go_roundw
       case rel =>
        refine ⟨l + 1, x, by omega, by omega, by go_num, rfl, ?_, ?_, hbel⟩
        ·
         unfold Hid; rw [hx.out]; rw [show (((l + 1 : Nat)) : Int) = (l : Int) + 1 from by omega, nextAt_next, HN.out]
        ·
         rw [show (((l + 1 : Nat)) : Int) = (l : Int) + 1 from by omega, planTo_next, HN.out]; exact hown
       case measure => simp [intOf]; omega
    ·
     obtain rfl : l = 4 := by omega
     go_wp2
     go_returns
     refine ⟨_, by rw [HF.out]; rfl, ?_, hbel⟩
     rw [show ((4 : Nat) : Int) = 4 from rfl, planTo_last (fun z hz => (HM.out z hz).2)] at hown
     rw [HR.out, planFor_len, HN.out]
     exact hown.back (Nat.le_refl _)
  ·
   have HF : Hid (fitB zs = false) := by simp [Hid, fitB, HX.out, hx64]
   have HR : Hid (planR zs = []) := by simp [Hid, planR, HF.out]
   go_wp2
   go_returns
   exact ⟨_, by rw [HF.out]; rfl, by rw [HR.out]; exact hnew, by (exact grownA)⟩

theorem strs_snoc (ps : List ByteArray) (s : ByteArray) : strs ps ++ [.string s] = strs (ps ++ [s]) := by simp [strs]
theorem strs_one (ps : List ByteArray) : ∀ u ∈ strs ps, u.oneCell' = true := by
 intro u hu
 obtain ⟨s, _, rfl⟩ := List.mem_map.1 hu
 rfl
/-- An owned row of at least one element begins at a block's head. -/
theorem own_head {w : World} {base n : Nat} {E : TypeId} {size : Nat} {v : Value} {xs : List Value} (h : w.ownsRow base E size v n xs) (hn : 0 < n) : ∃ g cap, v = .slice (some ⟨g, 0, none⟩) n cap ∧ base ≤ g ∧ Own w g n cap E size xs := by
 rcases h.2 with ⟨_, h2⟩ | ⟨g, cap, cur, rfl, hb, r⟩
 ·
  omega
 ·
  exact ⟨g, cap, rfl, hb, (Own.of h).1⟩
/-- Short texts. -/
def StSmall (ps : List ByteArray) : Prop := ∀ s ∈ ps, s.size ≤ 8
theorem StSmall.len {ps : List ByteArray} (h : StSmall ps) : StLen ps := fun k s hs => by have := h s (List.mem_of_getElem? hs); unfold maxLen; omega
theorem StSmall.snoc {ps : List ByteArray} {s : ByteArray} (h : StSmall ps) (h1 : s.size ≤ 8) : StSmall (ps ++ [s]) := by
 intro t ht
 rcases List.mem_append.1 ht with ht | ht
 ·
  exact h t ht
 ·
  simp at ht; subst ht; exact h1
theorem planR_small (zs : List Int) : StSmall (planR zs) ∧ (planR zs).length ≤ 10 := by
 unfold planR
 split
 ·
  rename_i h
  refine ⟨fun s hs => ?_, by rw [planFor_len]; exact lensB_len (fitB_sum h).1⟩
  obtain ⟨p, _, rfl⟩ := List.mem_map.1 hs
  show ((three _).take _).toArray.size ≤ 8
  simp [three]; omega
 ·
  exact ⟨fun s hs => by simp at hs, by simp⟩


end Go.Proofs.Ytedadhoneebfnaa
