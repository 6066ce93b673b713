/- Joined texts: Ps, Rd, Step, Aw, Dp. -/
import Derived.Test.YtedadhoneebfnaaDoorJ1
import Derived.Handy
import Derived.Lib.Hide
import Derived.Laws.IdiomStrings
import Derived.Test.YtedadhoneebfnaaDoorLib
import Derived.Test.YtedadhoneebfnaaDoorRows
import Derived.Deep.QuietTactic
import Derived.BigQuiet
import Derived.Deep.AppendLies
import Derived.Maps.AppendAt
import Derived.RegionTactic
import Derived.OwnWalk
set_option linter.unusedSimpArgs false
set_option linter.unusedVariables false
/- The reference's PlanFor. -/
namespace Go.Proofs.YtedadhoneebfnaaDoor
open Go.RowKit

def ints (zs : List Int) : List Value := zs.map (Value.int .i64)
theorem ints_at (zs : List Int) (j : Nat) (z : Int) (h : zs[j]? = some z) : (ints zs)[j]? = some (.int .i64 z) := by simp [ints, h]
set_option maxHeartbeats 400000 in
theorem sLengthsValid_any (v : Value) (zs : List Int) (w : World) (hv : Rds w v zs.length 1 (ints zs)) :
  Calls Tryd.prog 65 #[v] w fun e w' => e = .returned (.bool (lensB zs)) ∧ w = w' := by
 obtain ⟨a, ca, rfl, hl1, hm1, hn1, hc1⟩ := hv.open1
 unfold maxLen at hm1
 clear hl1 hv
 obtain ⟨n, hn⟩ : ∃ n, zs.length = n := ⟨_, rfl⟩
 rw [hn] at hm1 hn1 hc1 ⊢
 have HN := Lib.hid hn
 clear hn
 go_enter Tryd.func65, Tryd.ntmps65
 go_wp2_with fail
 go_loop [3] (fun i => ∃ k : Nat, k ≤ n ∧ i = .int .i64 k ∧ Hid ((zs.take k).all lenB = true)) (fun i => n - (intOf i).toNat)
 case atStart => exact ⟨0, by omega, rfl, rfl⟩
 case round =>
  obtain ⟨k, hk, rfl, hall⟩ := hrel
  by_cases hkn : k < n
  ·
   rcases hc1 with hc1 | ⟨b1, o1, rfl, hb1, hc1⟩
   ·
    omega
   obtain ⟨z, hz⟩ : ∃ z, zs[k]? = some z := ⟨_, List.getElem?_eq_getElem (by rw [HN.out]; omega)⟩
   have g1 := hc1 k hkn
   rw [ints_at _ _ _ hz] at g1
   have HZ := Lib.hid hz
   clear hc1 hz
   go_wp2_with fail
   refine (sIn_any _ _ _ _).mono ?_
   rintro e w1 ⟨rfl, rfl⟩
   rw [show (decide (1 ≤ z) && decide (z ≤ 3)) = lenB z from rfl]
   obtain ⟨o, ho⟩ : ∃ o, lenB z = o := ⟨_, rfl⟩
   have HO := Lib.hid ho
   rw [ho]
   clear ho
   cases o
   ·
    go_wp2
    go_returns
    exact ⟨by simp [lensB, all_no lenB zs k z HZ.out HO.out], rfl⟩
   ·
    go_wp2_with fail
    go_round
    case rel => exact ⟨k + 1, by omega, by go_num, by unfold Hid; rw [all_step lenB zs k z HZ.out, hall.out, HO.out]; rfl⟩
    case measure => simp [intOf]; omega
  ·
   obtain rfl : k = n := by omega
   have h1 := hall.out
   rw [List.take_of_length_le (by rw [HN.out]; omega)] at h1
   have hfin : lensB zs = decide (k ≤ 10) := by simp [lensB, HN.out, h1]
   have HF := Lib.hid hfin
   clear hfin h1
   by_cases h10 : k ≤ 10
   ·
    have hd : decide ((k : Int) ≤ 10) = true := by simp; omega
    go_wp2
    go_returns
    exact ⟨by rw [HF.out]; simp [h10], rfl⟩
   ·
    have hd : decide ((k : Int) ≤ 10) = false := by simp; omega
    go_wp2
    go_returns
    exact ⟨by rw [HF.out]; simp [h10], rfl⟩

set_option maxHeartbeats 400000 in
theorem l6Power_any (z : Int) (w : World) (h0 : 0 ≤ z) (h1 : z ≤ 3) :
  Calls Tryd.prog 67 #[.int .i64 z] w fun e w' => e = .returned (.int .i64 (shareN (3 - z))) ∧ w = w' := by
 have hz : z = 0 ∨ z = 1 ∨ z = 2 ∨ z = 3 := by omega
 rcases hz with rfl | rfl | rfl | rfl
 all_goals
  go_enter Tryd.func67, Tryd.ntmps67
  go_wp2
  go_rounds 4
  go_returns
  exact ⟨rfl, rfl⟩

set_option maxHeartbeats 400000 in
theorem sShareSum_any (v : Value) (zs : List Int) (w : World) (hv : Rds w v zs.length 1 (ints zs)) :
  Calls Tryd.prog 66 #[v] w fun e w' => e = .returned (.int .i64 (shareR zs)) ∧ w = w' := by
 obtain ⟨a, ca, rfl, hl1, hm1, hn1, hc1⟩ := hv.open1
 have HV := Lib.hid hv
 clear hl1 hv
 obtain ⟨n, hn⟩ : ∃ n, zs.length = n := ⟨_, rfl⟩
 rw [hn] at hm1 hn1 hc1 HV ⊢
 have HN := Lib.hid hn
 clear hn
 have HV2 : Hid (Rds w (.slice a n ca) zs.length 1 (ints zs)) := by rw [HN.out]; exact HV
 obtain ⟨o, ho⟩ : ∃ o, lensB zs = o := ⟨_, rfl⟩
 have HO := Lib.hid ho
 clear ho
 go_enter Tryd.func66, Tryd.ntmps66
 go_wp2_with fail
 refine (sLengthsValid_any _ zs _ HV2.out).mono ?_
 rintro e w1 ⟨rfl, rfl⟩
 rw [HO.out]
 cases o
 ·
  go_wp2
  go_returns
  exact ⟨by simp [shareR, HO.out], rfl⟩
 ·
  have h10 := lensB_len HO.out
  rw [HN.out] at h10
  go_wp2_with fail
  go_loop [3, 4] (fun s i => ∃ k x : Nat, k ≤ n ∧ i = .int .i64 k ∧ s = .int .i64 x ∧ Hid (x = shareTo zs k) ∧ x ≤ 64 * k) (fun _ i => n - (intOf i).toNat)
  case atStart => exact ⟨0, 0, by omega, rfl, rfl, by simp [Hid, shareTo], by omega⟩
  case round =>
   obtain ⟨k, x, hk, rfl, rfl, hx, hxb⟩ := hrel
   by_cases hkn : k < n
   ·
    rcases hc1 with hc1 | ⟨b1, o1, rfl, hb1, hc1⟩
    ·
     omega
    obtain ⟨z, hz⟩ : ∃ z, zs[k]? = some z := ⟨_, List.getElem?_eq_getElem (by rw [HN.out]; omega)⟩
    have g1 := hc1 k hkn
    rw [ints_at _ _ _ hz] at g1
    obtain ⟨z1, z2⟩ := lensB_at HO.out k z hz
    obtain ⟨y1, y2⟩ := shareN_small z (by omega)
    have hst := shareTo_step zs k z hz
    have HST := Lib.hid hst
    clear hc1 hz hst
    go_wp2_with (go_at_call 67; refine (l6Power_any _ _ (by omega) (by omega)).mono ?_; rintro e w1 ⟨rfl, rfl⟩; rw [show (3 : Int) - (3 - z) = z from by omega])
    go_round
    case rel => exact ⟨k + 1, x + shareN z, by omega, by go_num, by go_num, by unfold Hid; rw [HST.out, hx.out], by omega⟩
    case measure => simp [intOf]; omega
   ·
    obtain rfl : k = n := by omega
    go_wp2
    go_returns
    refine ⟨?_, rfl⟩
    have hf : shareR zs = (x : Int) := by simp [shareR, HO.out, HN.out, hx.out]
    rw [hf]
    rfl
theorem dig_cast (a : Nat) : ((UInt8.ofNat (48 + a % 4)).toNat : Int) = 48 + (a : Int) % 4 := by
 rw [UInt8.toNat_ofNat']; omega

/-- The last j digits of a number. -/
def lowD (v : Nat) : Nat → List UInt8
 | 0 => []
 | j + 1 => UInt8.ofNat (48 + v / 4 ^ j % 4) :: lowD v j
theorem lowD_len (v j : Nat) : (lowD v j).length = j := by
 induction j with
 | zero => rfl
 | succ j ih => simp [lowD, ih]
theorem lowD_num3 (x l : Nat) (h1 : 1 ≤ l) (h3 : l ≤ 3) : (⟨(lowD (x / 4 ^ (3 - l)) l).toArray⟩ : ByteArray) = num3 x l := by
 have : l = 1 ∨ l = 2 ∨ l = 3 := by omega
 unfold num3
 rcases this with rfl | rfl | rfl
 ·
  simp [lowD, three]
 ·
  simp [lowD, three, Nat.div_div_eq_div_mul]
 ·
  simp [lowD, three, Nat.div_div_eq_div_mul]

set_option maxRecDepth 100000 in
set_option maxHeartbeats 400000 in
theorem l6Text_any (v l : Nat) (w : World) (hv : v ≤ 1000000) (hl : l ≤ 8) :
  Calls Tryd.prog 68 #[.int .i64 v, .int .i64 l] w fun e w' => e = .returned (.string ⟨(lowD v l).toArray⟩) ∧ Below w.heap.size w w' := by
 go_enter Tryd.func68, Tryd.ntmps68
 go_wp2_with fail
 go_loopw [0, 5, 6] (fun vv s i wr => ∃ (j u : Nat), i = .int .i64 j ∧ vv = .int .i64 u ∧ Hid (u = v / 4 ^ j) ∧ u ≤ v ∧ s = .string ⟨(lowD v j).toArray⟩ ∧ j ≤ l ∧ Below w.heap.size w wr) (fun _ _ i _ => l - (intOf i).toNat)
 case atStart => exact ⟨0, v, rfl, rfl, by simp [Hid], by omega, rfl, by omega, Below.refl _ _⟩
 case round =>
  obtain ⟨j, u, rfl, rfl, hu, huv, rfl, hj, hbel⟩ := hrel
  have hz := hbel.size
  have hl8 : (lowD v j).length ≤ 8 := by rw [lowD_len]; omega
  by_cases hjl : j < l
  ·
   obtain ⟨c, hc⟩ : ∃ c, UInt8.ofNat (48 + u % 4) = c := ⟨_, rfl⟩
   have hcn : (c.toNat : Int) = 48 + (u : Int) % 4 := by rw [← hc]; exact dig_cast u
   have hcv : (convert 43 9 (.slice (some ⟨wr.heap.size, 0, none⟩) 1 1)).run Tryd.prog (wr.alloc (.cells #[.int .u8 (48 + (u : Int) % 4)] 5)) = .ok (.string ⟨#[c]⟩) (wr.alloc (.cells #[.int .u8 (48 + (u : Int) % 4)] 5)) :=
    run_convert_bytes_back _ _ _ 5 _ 1 [c] Tryd.underlying43 Tryd.underlying5 Tryd.underlying9 (by intro i hi; simp at hi; subst hi; rw [Addr.add_spot, World.cell?_alloc_at _ _ _ _ rfl]; simp [hcn])
   have HC := Lib.hid hc
   clear hc
   go_wp2
   go_roundw
   case rel =>
    refine ⟨j + 1, u / 4, by go_num, by go_num, ?_, by omega, ?_, by omega, by (exact grownA)⟩
    ·
     unfold Hid; rw [hu.out, Nat.div_div_eq_div_mul, Nat.pow_succ]
    ·
     have : (⟨#[c]⟩ : ByteArray) ++ ⟨(lowD v j).toArray⟩ = ⟨(lowD v (j + 1)).toArray⟩ := by
      apply bytes_ext; simp only [ByteArray.data_append, lowD]; rw [← hu.out, HC.out]; simp
     first | rw [this] | simp [this]
   case measure => simp [intOf]; omega
  ·
   obtain rfl : j = l := by omega
   go_wp2
   go_returns
   exact ⟨rfl, hbel⟩

theorem infoSz : (Tryd.prog.info? 9).map (fun i => (i.zero, i.size, i.bytes)) = some (some (.string ByteArray.empty), 1, 16) := by kernel_rfl
theorem strs_setz (ps : List ByteArray) (j : Nat) (s : ByteArray) : (strs ps).set j (.string s) = strs (ps.set j s) := by simp [strs, List.map_set]
theorem strs_zeroz (n : Nat) : (madeCells (Value.string ByteArray.empty).cells (n * 1)).toList = strs (List.replicate n ByteArray.empty) := by
 apply List.ext_getElem?
 intro i
 by_cases hi : i < n
 ·
  simp [madeCells, Value.cells, strs, hi, List.getElem?_replicate, Nat.mod_one]
 ·
  rw [List.getElem?_eq_none (by simp [madeCells]; omega), List.getElem?_eq_none (by simp [strs]; omega)]

def fitB (zs : List Int) : Bool := lensB zs && decide (shareR zs ≤ 64)
def planR (zs : List Int) : List ByteArray := if fitB zs = true then planFor zs else []
theorem fitB_sum {zs : List Int} (h : fitB zs = true) : lensB zs = true ∧ (zs.map shareN).sum ≤ 64 := by
 simp only [fitB, Bool.and_eq_true, decide_eq_true_eq] at h
 refine ⟨h.1, ?_⟩
 have h2 := h.2
 rw [shareR, if_pos h.1, share_all] at h2
 omega
theorem nextAt_small {zs : List Int} (h : fitB zs = true) (l : Int) (k : Nat) (hl : l ≤ 4) (hk : k ≤ zs.length) (hlk : l < 4 ∨ k = 0) : nextAt zs l k ≤ 64 := by
 obtain ⟨h1, h2⟩ := fitB_sum h
 have := nextAt_lex zs (l := l) (m := 4) (k := k) (j := 0) hk (by omega)
 rw [nextAt_last (fun y hy => (lensB_mem h1 y hy).2)] at this
 omega
theorem wrap_div (x sh : Nat) (h : x ≤ 1000000) : wrap64 ((x : Int) / (sh : Int)) = ((x / sh : Nat) : Int) := by
 have h1 := Nat.div_le_self x sh
 rw [show ((x : Int) / (sh : Int)) = ((x / sh : Nat) : Int) from by simp]
 obtain ⟨y, hy⟩ : ∃ y, x / sh = y := ⟨_, rfl⟩
 rw [hy] at h1 ⊢
 exact IntWalk.wrap64_in _ (by omega)
theorem l6Text_int (z : Int) (v l : Nat) (w : World) (hz : z = (v : Nat)) (hv : v ≤ 1000000) (hl : l ≤ 8) :
  Calls Tryd.prog 68 #[.int .i64 z, .int .i64 l] w fun e w' => e = .returned (.string ⟨(lowD v l).toArray⟩) ∧ Below w.heap.size w w' := by
 subst hz; exact l6Text_any v l w hv hl

/-- A plan made anew, and whether there is one. -/
def PlanOut (zs : List Int) (w : World) (e : Ending) (w' : World) : Prop :=
 ∃ v, e = .returned (.tuple #[v, .bool (fitB zs)]) ∧ w'.ownsRow w.heap.size 9 1 v (planR zs).length (strs (planR zs)) ∧ Below w.heap.size w w'

set_option maxRecDepth 100000 in
set_option maxHeartbeats 1000000 in
theorem sPlanFor_any (v : Value) (zs : List Int) (w : World) (hv : Rds w v zs.length 1 (ints zs)) :
  Calls Tryd.prog 56 #[v] w (PlanOut zs w) := by
 obtain ⟨i0, hi, hz0, hz1, hz2⟩ := info_parts infoSz
 obtain ⟨a, ca, rfl, hl1, hm1, hn1, hc1⟩ := hv.open1
 unfold maxLen at hm1
 obtain ⟨n, hn⟩ : ∃ n, zs.length = n := ⟨_, rfl⟩
 have HN := Lib.hid hn
 have HV2 : Hid (Rds w (.slice a n ca) zs.length 1 (ints zs)) := by rw [hn] at hv ⊢; exact hv
 rw [hn] at hm1 hn1 hc1 ⊢
 clear hn hl1 hv
 have hnew : (w.alloc (.cells #[] 9)).ownsRow w.heap.size 9 1 (.slice (some ⟨w.heap.size, 0, none⟩) 0 0) 0 (strs []) :=
  World.ownsRow_lit (base := w.heap.size) (e := 9) (size := 1) w #[] 0 (Nat.le_refl _) (by unfold maxLen; omega) rfl
 go_enter Tryd.func56, Tryd.ntmps56
 go_wp2_with fail
 refine (sLengthsValid_any _ zs _ HV2.out).mono ?_
 rintro e w1 ⟨rfl, rfl⟩
 obtain ⟨d, hd⟩ : ∃ d, lensB zs = d := ⟨_, rfl⟩
 have HD := Lib.hid hd
 rw [hd]
 clear hd
 cases d
 ·
  have HF : Hid (fitB zs = false) := by simp [Hid, fitB, HD.out]
  have HR : Hid (planR zs = []) := by simp [Hid, planR, HF.out]
  go_wp2
  go_returns
  exact ⟨_, by rw [HF.out]; rfl, by rw [HR.out]; exact hnew, by (exact grownA)⟩
 ·
  go_wp2_with fail
  refine (sShareSum_any _ zs _ HV2.out).mono ?_
  rintro e w1 ⟨rfl, rfl⟩
  obtain ⟨x, hx⟩ : ∃ x, shareR zs = x := ⟨_, rfl⟩
  have hxb := shareR_bd zs
  rw [hx] at hxb ⊢
  obtain ⟨hxb1, hxb2⟩ := hxb
  have HX := Lib.hid hx
  clear hx
  go_wp2_with fail
  refine (l6Power_any _ _ (by omega) (by omega)).mono ?_
  rintro e w1 ⟨rfl, rfl⟩
  rw [show ((shareN (3 - 3) : Nat) : Int) = 64 from rfl]
  by_cases hx64 : x ≤ 64
  ·
   have HF : Hid (fitB zs = true) := by simp [Hid, fitB, HD.out, HX.out, hx64]
   have HR : Hid (planR zs = planFor zs) := by simp [Hid, planR, HF.out]
   have h10 := lensB_len HD.out
   rw [HN.out] at h10
   have hM := lensB_mem HD.out
   have HM := Lib.hid hM
   have hd64 : decide ((64 : Int) < x) = false := by simp; omega
   clear hM hnew
   go_wp2_with (refine wpList_make_full _ rfl _ _ 50 rfl w.heap.size 9 i0 _ 1 Tryd.underlying50 hi hz0 hz1 .i64 .i64 _ _ n rfl rfl rfl rfl (by rw [hz2]; omega) (by unfold maxLen; omega) (Nat.le_refl _) ?_; intro w1 hown hgr)
   rw [strs_zeroz] at hown
   obtain ⟨hO, -⟩ := Own.of hown
   have hB : Below w.heap.size w w1 := (Below.refl w.heap.size w).grown hgr (Nat.le_refl _) (by intro k hk; cases hk)
   clear hown hgr
   go_wp2_with fail
   go_loopw [5, 6] (fun nx li wr => ∃ (l x : Nat), 1 ≤ l ∧ l ≤ 4 ∧ li = .int .i64 l ∧ nx = .int .i64 x ∧ Hid (x = nextAt zs l 0) ∧ Own wr w.heap.size n n 9 1 (strs (planTo zs l 0)) ∧ Below w.heap.size w wr) (fun _ li _ => 4 - (intOf li).toNat)
   case atStart => exact ⟨1, 0, by omega, by omega, rfl, rfl, (nextAt_first (fun z hz => (HM.out z hz).1)).symm, by rw [show ((1 : Nat) : Int) = 1 from rfl, planTo_first (fun z hz => (HM.out z hz).1), HN.out]; exact hO, hB⟩
   case round =>
    obtain ⟨l, x0, hl1, hl4, rfl, rfl, hx0, hown, hbel⟩ := hrel
    obtain ⟨wo, rfl⟩ : ∃ wo : World, wo = wr := ⟨_, rfl⟩
    have hxs0 := nextAt_small HF.out l 0 (by omega) (by omega) (.inr rfl)
    rw [← hx0.out] at hxs0
    by_cases hl3 : l ≤ 3
    ·
     have hdl : decide ((l : Int) ≤ 3) = true := by simp; omega
     go_wp2_with fail
     go_loopw [5, 7] (fun nx ki wi => ∃ (k x : Nat), k ≤ n ∧ ki = .int .i64 k ∧ nx = .int .i64 x ∧ x ≤ 64 ∧ Hid (x = nextAt zs l k) ∧ Own wi w.heap.size n n 9 1 (strs (planTo zs l k)) ∧ Below w.heap.size w wi) (fun _ ki _ => n - (intOf ki).toNat)
     case atStart => exact ⟨0, x0, by omega, rfl, rfl, hxs0, hx0, hown, hbel⟩
     case round =>
      clear hown hbel
      obtain ⟨k, x, hk, rfl, rfl, hxs, hx, hown, hbel⟩ := hrel
      have hz := hbel.size
      by_cases hkn : k < n
      ·
       rcases hc1 with hc1 | ⟨b, off, rfl, hb, hc1⟩
       ·
        omega
       obtain ⟨z, hzk⟩ : ∃ z, zs[k]? = some z := ⟨_, List.getElem?_eq_getElem (by rw [HN.out]; omega)⟩
       have c1 : wr.cell? ⟨b, off + k, none⟩ = some (.int .i64 z) := by rw [hbel.cell (p := ⟨b, off + k, none⟩) hb, hc1 _ (by omega), ints_at _ _ _ hzk]
       have HST := Lib.hid (nextAt_step zs l k z hzk)
       have HPT := Lib.hid (planTo_step zs l k z hzk)
       have hzb := HM.out z (List.mem_of_getElem? hzk)
       have HZK := Lib.hid hzk
       clear hc1 hzk
       by_cases hzl : z = (l : Int)
       ·
        have hbq : (z == (l : Int)) = true := by simp [hzl]
        have hroom := nextAt_room (fun y hy => HM.out y hy) (fitB_sum HF.out).2 HZK.out
        rw [hzl, ← hx.out] at hroom
        have hsh := shareN_small (l : Int) (by omega)
        obtain ⟨hsh1, hsh2⟩ := hsh
        have HZL := Lib.hid hzl
        have HPOW : Hid (shareN (l : Int) = 4 ^ (3 - l)) := by unfold Hid shareN; congr 1; omega
        clear hzl
        go_wp2_with fail
        refine (l6Power_any _ _ (by omega) (by omega)).mono ?_
        rintro e w2 ⟨rfl, rfl⟩
        rw [show (3 : Int) - (3 - (l : Int)) = l from by omega]
        obtain ⟨sh, hshe⟩ : ∃ sh, shareN (l : Int) = sh := ⟨_, rfl⟩
        have HSH := Lib.hid hshe
        rw [hshe] at hroom hsh1 hsh2 ⊢
        clear hshe
        go_wp2_with fail
        refine (l6Text_int _ (x / sh) l _ (wrap_div x sh (by omega)) (by have := Nat.div_le_self x sh; omega) (by omega)).mono ?_
        rintro e w2 ⟨rfl, hb2⟩
        have HCUT : Hid ((⟨(lowD (x / sh) l).toArray⟩ : ByteArray) = num3 x l) := by unfold Hid; rw [← HSH.out, HPOW.out]; exact lowD_num3 x l hl1 hl3
        obtain ⟨t, ht⟩ : ∃ t : ByteArray, ⟨(lowD (x / sh) l).toArray⟩ = t := ⟨_, rfl⟩
        rw [ht] at HCUT ⊢
        clear ht
        have hlt := hown.lt
        have hown2 := hown.below hb2 hlt
        have hlt2 := hown2.lt
        obtain ⟨y, hy⟩ : ∃ y, (planTo zs l k)[k]? = some y := ⟨_, List.getElem?_eq_getElem (by rw [planTo_len, HN.out]; omega)⟩
        have d1 := hown2.cell k (by omega)
        rw [strs_at _ _ _ hy] at d1
        have f1 := hown2.free k
        clear hown hy
        go_wp2_with fail
        refine (l6Power_any _ _ (by omega) (by omega)).mono ?_
        rintro e w3 ⟨rfl, rfl⟩
        rw [show (3 : Int) - (3 - (l : Int)) = l from by omega, HSH.out]
        go_wp2_with fail
        go_roundw
        case rel =>
         refine ⟨k + 1, x + sh, by omega, by go_num, by go_num, by omega, ?_, ?_, by (exact grownA)⟩
         ·
          unfold Hid; rw [HST.out, if_pos HZL.out, HZL.out, ← hx.out, HSH.out]
         ·
          rw [HPT.out, if_pos HZL.out, ← hx.out, show ((l : Int)).toNat = l from rfl, ← HCUT.out, ← strs_setz]
          (exact ownA)
        case measure => simp [intOf]; omega
       ·
        have hbq : (z == (l : Int)) = false := by simpa using hzl
        have HZL := Lib.hid hzl
        clear hzl
        go_wp2_with fail
        go_roundw
        case rel => exact ⟨k + 1, x, by omega, by go_num, rfl, hxs, by unfold Hid; rw [HST.out, if_neg HZL.out, ← hx.out]; rfl, by rw [HPT.out, if_neg HZL.out]; exact hown, hbel⟩
        case measure => simp [intOf]; omega
      ·
       obtain rfl : k = n := by omega
       go_wp2_with fail
       go_roundw
       case rel =>
        refine ⟨l + 1, x, by omega, by omega, by go_num, rfl, ?_, ?_, hbel⟩
        ·
         unfold Hid; rw [hx.out]; rw [show (((l + 1 : Nat)) : Int) = (l : Int) + 1 from by omega, nextAt_next, HN.out]
        ·
         rw [show (((l + 1 : Nat)) : Int) = (l : Int) + 1 from by omega, planTo_next, HN.out]; exact hown
       case measure => simp [intOf]; omega
    ·
     obtain rfl : l = 4 := by omega
     go_wp2
     go_returns
     refine ⟨_, by rw [HF.out]; rfl, ?_, hbel⟩
     rw [show ((4 : Nat) : Int) = 4 from rfl, planTo_last (fun z hz => (HM.out z hz).2)] at hown
     rw [HR.out, planFor_len, HN.out]
     exact hown.back (Nat.le_refl _)
  ·
   have HF : Hid (fitB zs = false) := by simp [Hid, fitB, HX.out, hx64]
   have HR : Hid (planR zs = []) := by simp [Hid, planR, HF.out]
   go_wp2
   go_returns
   exact ⟨_, by rw [HF.out]; rfl, by rw [HR.out]; exact hnew, by (exact grownA)⟩

/-- An owned row of at least one element begins at a block's head. -/
theorem own_head {w : World} {base n : Nat} {E : TypeId} {size : Nat} {v : Value} {xs : List Value} (h : w.ownsRow base E size v n xs) (hn : 0 < n) : ∃ g cap, v = .slice (some ⟨g, 0, none⟩) n cap ∧ base ≤ g ∧ Own w g n cap E size xs := by
 rcases h.2 with ⟨_, h2⟩ | ⟨g, cap, cur, rfl, hb, r⟩
 ·
  omega
 ·
  exact ⟨g, cap, rfl, hb, (Own.of h).1⟩
/-- Short texts. -/
def StSmall (ps : List ByteArray) : Prop := ∀ s ∈ ps, s.size ≤ 8
theorem StSmall.len {ps : List ByteArray} (h : StSmall ps) : StLen ps := fun k s hs => by have := h s (List.mem_of_getElem? hs); unfold maxLen; omega
theorem StSmall.snoc {ps : List ByteArray} {s : ByteArray} (h : StSmall ps) (h1 : s.size ≤ 8) : StSmall (ps ++ [s]) := by
 intro t ht
 rcases List.mem_append.1 ht with ht | ht
 ·
  exact h t ht
 ·
  simp at ht; subst ht; exact h1
theorem planR_small (zs : List Int) : StSmall (planR zs) ∧ (planR zs).length ≤ 10 := by
 unfold planR
 split
 ·
  rename_i h
  refine ⟨fun s hs => ?_, by rw [planFor_len]; exact lensB_len (fitB_sum h).1⟩
  obtain ⟨p, _, rfl⟩ := List.mem_map.1 hs
  show ((three _).take _).toArray.size ≤ 8
  simp [three]; omega
 ·
  exact ⟨fun s hs => by simp at hs, by simp⟩


end Go.Proofs.YtedadhoneebfnaaDoor

/- The reader of a code from which inputs are drawn: l20Open, pick, odd. Of what is drawn only its range is said. -/
namespace Go.Proofs.YtedadhoneebfnaaDoor
open Go.RowKit

/-- The bytes of a code, where they lie: nil or empty, or below block B. -/
def CodeAt (w : World) (B : Nat) (a : Option Addr) (len : Nat) (zs : List Int) : Prop :=
 len = 0 ∨ ∃ b off, a = some ⟨b, off, none⟩ ∧ b < B ∧ (∀ i, i < len → w.cell? ⟨b, off + i, none⟩ = some (.int .u8 (zs.getD i 0))) ∧ ∀ i, 0 ≤ zs.getD i 0 ∧ zs.getD i 0 ≤ 255

/-- Block rb is a reader that has been asked p times. -/
def Rdr (w : World) (rb p : Nat) : Prop :=
 ∃ a len cap zs, Blk w rb #[.slice a len cap, .int .i64 p] 84 ∧ len ≤ 2000 ∧ CodeAt w rb a len zs

theorem CodeAt.gb {w w' : World} {B : Nat} {a : Option Addr} {len : Nat} {zs : List Int} {r : Nat} (hg : w.grownBy w' (some r)) (hB : B ≤ r) (hBw : B ≤ w.heap.size) (h : CodeAt w B a len zs) : CodeAt w' B a len zs := by
 rcases h with h | ⟨b, off, h1, h2, h3, h4⟩
 ·
  exact .inl h
 ·
  exact .inr ⟨b, off, h1, h2, fun i hi => (World.cell?_of_block (a := ⟨b, off + i, none⟩) (hg.block b (by omega) (by simp; omega))).trans (h3 i hi), h4⟩
theorem Rdr.lt {w : World} {rb p : Nat} (h : Rdr w rb p) : rb < w.heap.size := by obtain ⟨a, len, cap, zs, hb, _⟩ := h; exact hb.lt
/-- Where only another block has been written the reader stands as it was. -/
theorem Rdr.gb {w w' : World} {rb p g : Nat} (hg : w.grownBy w' (some g)) (hne : rb < g) (h : Rdr w rb p) : Rdr w' rb p := by
 have hlt := h.lt
 obtain ⟨a, len, cap, zs, hb, hl, hc⟩ := h
 exact ⟨a, len, cap, zs, Blk.gb hg (by omega) hb, hl, hc.gb hg (by omega) (by omega)⟩
theorem Rdr.below {w w' : World} {rb p B : Nat} (hb : Below B w w') (hB : rb < B) (h : Rdr w rb p) : Rdr w' rb p := by
 have hlt := h.lt
 obtain ⟨a, len, cap, zs, hb', hl, hc⟩ := h
 refine ⟨a, len, cap, zs, Blk.below hb hB hb', hl, ?_⟩
 rcases hc with h | ⟨b, off, h1, h2, h3, h4⟩
 ·
  exact .inl h
 ·
  exact .inr ⟨b, off, h1, h2, fun i hi => (hb.cell (p := ⟨b, off + i, none⟩) (by simp; omega)).trans (h3 i hi), h4⟩
theorem Rdr.alloc {w : World} {rb p : Nat} {o : Obj} (h : Rdr w rb p) : Rdr (w.alloc o) rb p := h.below ((Below.refl w.heap.size w).alloc (Nat.le_refl _) o) h.lt
theorem Rdr.other {w : World} {rb p : Nat} {a : Addr} {u : Value} (ha : rb < a.block) (h : Rdr w rb p) : Rdr (w.setCell a u) rb p :=
 h.below (B := rb + 1) ((Below.refl _ _).setCell (by omega) u) (by omega)
theorem Rdr.drewN {w : World} {rb p n : Nat} (h : Rdr w rb p) : Rdr (w.drewN n) rb p := h
theorem Rdr.drew {w : World} {rb p : Nat} (h : Rdr w rb p) : Rdr w.drew rb p := h
/-- The reader is asked once more. -/
theorem Rdr.step {w : World} {rb p n : Nat} {a : Option Addr} {len cap : Nat} {zs : List Int} (hb : Blk w rb #[.slice a len cap, .int .i64 p] 84) (hl : len ≤ 2000) (hc : CodeAt w rb a len zs) :
  Rdr ((w.setCell ⟨rb, 1, none⟩ (.int .i64 (p + 1))).drewN n) rb (p + 1) := by
 refine ⟨a, len, cap, zs, Blk.drewN (hb.set (by simp)) n, hl, ?_⟩
 exact hc.gb (w' := (w.setCell ⟨rb, 1, none⟩ (.int .i64 (p + 1))).drewN n) (r := rb) (gb_drewN (gb_set (World.grownBy.refl _ _))) (Nat.le_refl _) (Nat.le_of_lt hb.lt)

theorem xor_i64_nonneg (a b : Int) (ha : 0 ≤ a) (hb : 0 ≤ b) (ha' : a < 4611686018427387904) (hb' : b < 4611686018427387904) : 0 ≤ bits .xor .i64 a b := by
 obtain ⟨a, rfl⟩ := Int.eq_ofNat_of_zero_le ha
 obtain ⟨b, rfl⟩ := Int.eq_ofNat_of_zero_le hb
 have hx : a ^^^ b < 2 ^ 62 := Nat.xor_lt_two_pow (by omega) (by omega)
 have h1 : (BitVec.ofInt 64 (a : Int)).toNat = a := by
  rw [BitVec.ofInt_natCast, BitVec.toNat_ofNat]; exact Nat.mod_eq_of_lt (by omega)
 have h2 : (BitVec.ofInt 64 (b : Int)).toNat = b := by
  rw [BitVec.ofInt_natCast, BitVec.toNat_ofNat]; exact Nat.mod_eq_of_lt (by omega)
 show 0 ≤ IntKind.i64.wrap ((BitVec.ofInt 64 (a : Int) ^^^ BitVec.ofInt 64 (b : Int)).toNat : Int)
 rw [BitVec.toNat_xor, h1, h2, IntWalk.i64_in _ (by omega)]
 omega

set_option maxHeartbeats 1000000 in
theorem pick_any (rb p : Nat) (n : Int) (w : World) (h : Rdr w rb p) (hp : p ≤ 1000000000) (hn : n ≤ 1000000000) :
  Calls Tryd.prog 48 #[.pointer (some ⟨rb, 0, none⟩), .int .i64 n] w fun e w' => ∃ k : Int, e = .returned (.int .i64 k) ∧ 0 ≤ k ∧ (k < n ∨ k = 0) ∧ Rdr w' rb (p + 1) ∧ w.grownBy w' (some rb) := by
 obtain ⟨a, len, cap, zs, hb, hl, hc⟩ := h
 obtain ⟨c0, c1, f0, f1, l1⟩ := hb.two
 by_cases hn1 : n < 1
 ·
  go_enter Tryd.func48, Tryd.ntmps48
  go_wp2
  go_returns
  exact ⟨0, rfl, by omega, .inr rfl, Rdr.step (n := 0) hb hl hc, by (exact gbA)⟩
 ·
  by_cases hlen : len = 0
  ·
   subst hlen
   go_enter Tryd.func48, Tryd.ntmps48
   go_wp2
   go_returns
   exact ⟨0, rfl, by omega, .inr rfl, Rdr.step (n := 0) hb hl hc, by (exact gbA)⟩
  ·
   have hc' := hc
   rcases hc' with hc' | ⟨b, off, rfl, hbB, hcell, hz⟩
   ·
    omega
   have hne : ((len : Int) == 0) = false := by simp; omega
   have hne2 : (n == 0) = false := by simp; omega
   by_cases hpl : p < len
   ·
    have g0 := hcell p hpl
    obtain ⟨z1, z2⟩ := hz p
    obtain ⟨z, hzz⟩ : ∃ z, zs.getD p 0 = z := ⟨_, rfl⟩
    rw [hzz] at g0 z1 z2
    clear hz hcell hzz
    go_enter Tryd.func48, Tryd.ntmps48
    go_wp2
    go_returns
    refine ⟨_, rfl, Int.emod_nonneg _ (by omega), .inl (Int.emod_lt_of_pos _ (by omega)), Rdr.step (n := 0) hb hl hc, by (exact gbA)⟩
   ·
    have g0 := hcell (p % len) (Nat.mod_lt _ (by omega))
    have g1 := hcell ((p * 7 + 3) % len) (Nat.mod_lt _ (by omega))
    obtain ⟨z1, z2⟩ := hz (p % len)
    obtain ⟨y1, y2⟩ := hz ((p * 7 + 3) % len)
    obtain ⟨z, hzz⟩ : ∃ z, zs.getD (p % len) 0 = z := ⟨_, rfl⟩
    obtain ⟨y, hyy⟩ : ∃ y, zs.getD ((p * 7 + 3) % len) 0 = y := ⟨_, rfl⟩
    rw [hzz] at g0 z1 z2
    rw [hyy] at g1 y1 y2
    clear hz hcell hzz hyy
    have i1 : (p : Int) % len < len := Int.emod_lt_of_pos _ (by omega)
    have i2 : ((p : Int) * 7 + 3) % len < len := Int.emod_lt_of_pos _ (by omega)
    have i3 : 0 ≤ (p : Int) % len := Int.emod_nonneg _ (by omega)
    have i4 : 0 ≤ ((p : Int) * 7 + 3) % len := Int.emod_nonneg _ (by omega)
    have i5 : 0 ≤ (p : Int) / len := Int.ediv_nonneg (by omega) (by omega)
    have i6 : (p : Int) / len ≤ p := Int.ediv_le_self _ (by omega)
    go_enter Tryd.func48, Tryd.ntmps48
    go_wp2_with fail
    go_quiet (fail)
    go_wp2
    go_returns
    have hx := xor_i64_nonneg (z * 131 + y * 1117 + (p : Int) * 29 + (p : Int) / len * 53) ((z * 131 + y * 1117 + (p : Int) * 29 + (p : Int) / len * 53) / 64) (by omega) (by omega) (by omega) (by omega)
    refine ⟨_, rfl, ?_, ?_, ?_, ?_⟩
    ·
     rw [Int.tmod_eq_emod_of_nonneg hx]; exact Int.emod_nonneg _ (by omega)
    ·
     left; rw [Int.tmod_eq_emod_of_nonneg hx]; exact Int.emod_lt_of_pos _ (by omega)
    ·
     exact Rdr.step hb hl hc
    ·
     (exact gbA)

/-- What odd leaves. -/
def OddPost (rb p : Nat) (n : Int) (w : World) (e : Ending) (w' : World) : Prop :=
 ∃ (b : Bool) (q : Nat), e = .returned (.bool b) ∧ (n ≤ 0 → b = false) ∧ p ≤ q ∧ q ≤ p + 1 ∧ Rdr w' rb q ∧ w.grownBy w' (some rb)

set_option maxHeartbeats 400000 in
theorem odd_any (rb p : Nat) (n : Int) (w : World) (h : Rdr w rb p) (hp : p ≤ 1000000000) (hn : n ≤ 1000000000) :
  Calls Tryd.prog 47 #[.pointer (some ⟨rb, 0, none⟩), .int .i64 n] w (OddPost rb p n w) := by
 by_cases h0 : 0 < n
 ·
  go_enter Tryd.func47, Tryd.ntmps47
  go_wp2_with fail
  refine (pick_any rb p _ _ h hp hn).mono ?_
  rintro e w1 ⟨k, rfl, hk0, hk1, hr, hg⟩
  go_wp2
  go_returns
  exact ⟨_, p + 1, rfl, fun h => absurd h (by omega), by omega, by omega, hr, hg⟩
 ·
  go_enter Tryd.func47, Tryd.ntmps47
  go_wp2
  go_returns
  exact ⟨_, p, rfl, fun _ => rfl, by omega, by omega, h, World.grownBy.refl _ _⟩

/-- What came in, as a code. -/
def IsRow (k : IntKind) (w : World) (a : Option Addr) (len cap : Nat) (zs : List Int) : Prop :=
 (a = none ∧ len = 0 ∧ cap = 0 ∧ zs = []) ∨
 ∃ x, a = some x ∧ len ≤ cap ∧ cap ≤ maxLen ∧ zs.length = cap ∧ (∀ i, i < zs.length → w.cell? (x.add i) = some (.int k (zs.getD i 0))) ∧ ∀ n ∈ zs, (Lit.int k n).wf = true

/-- A code that came in, as the draws want it. -/
def Code (w : World) (a : Option Addr) (len cap : Nat) (zs : List Int) : Prop := len ≤ cap ∧ cap ≤ 9223372036854775807 ∧ CodeAt w w.heap.size a len zs

theorem IsRow.code {w : World} {a : Option Addr} {len cap : Nat} {zs : List Int} (h : IsRow .u8 w a len cap zs) : Code w a len cap zs := by
 rcases h with ⟨rfl, rfl, rfl, rfl⟩ | ⟨x, rfl, h1, h2, h3, h4, h5⟩
 ·
  exact ⟨by omega, by omega, .inl rfl⟩
 ·
  refine ⟨h1, h2, ?_⟩
  by_cases hl : len = 0
  ·
   exact .inl hl
  ·
   right
   have hc := h4 0 (by omega)
   obtain ⟨b, off, spot⟩ := x
   have hspot : spot = none := by simpa [Addr.add] using World.cell?_spot hc
   subst hspot
   refine ⟨b, off, rfl, ?_, fun i hi => by have h7 := h4 i (by omega); by_cases hi0 : i = 0 <;> simpa [Addr.add, hi0] using h7, fun i => ?_⟩
   ·
    have hc' : w.cell? ⟨b, off, none⟩ = some (.int .u8 (zs.getD 0 0)) := by simpa [Addr.add] using hc
    unfold World.cell? at hc'
    split at hc'
    ·
     rename_i h'; exact lt_of_block h'
    ·
     cases hc'
   ·
    by_cases hi : i < zs.length
    ·
     have := h5 (zs.getD i 0) (by simp [List.getD_eq_getElem?_getD, hi])
     exact bounds_u8 this
    ·
     simp [List.getD_eq_getElem?_getD, List.getElem?_eq_none (show zs.length ≤ i by omega)]
theorem CodeAt.below {w w' : World} {B B' : Nat} {a : Option Addr} {len : Nat} {zs : List Int} (hb : Below B' w w') (hB : B ≤ B') (h : CodeAt w B a len zs) : CodeAt w' B a len zs := by
 rcases h with h | ⟨b, off, h1, h2, h3, h4⟩
 ·
  exact .inl h
 ·
  exact .inr ⟨b, off, h1, h2, fun i hi => (hb.cell (p := ⟨b, off + i, none⟩) (by simp; omega)).trans (h3 i hi), h4⟩
theorem CodeAt.mono {w : World} {B B' : Nat} {a : Option Addr} {len : Nat} {zs : List Int} (hB : B ≤ B') (h : CodeAt w B a len zs) : CodeAt w B' a len zs := by
 rcases h with h | ⟨b, off, h1, h2, r⟩
 ·
  exact .inl h
 ·
  exact .inr ⟨b, off, h1, by omega, r⟩
theorem CodeAt.cut {w : World} {B : Nat} {a : Option Addr} {len m : Nat} {zs : List Int} (hm : m ≤ len) (h : CodeAt w B a len zs) : CodeAt w B a m zs := by
 rcases h with h | ⟨b, off, h1, h2, h3, h4⟩
 ·
  exact .inl (by omega)
 ·
  exact .inr ⟨b, off, h1, h2, fun i hi => h3 i (by omega), h4⟩
theorem Code.below {w w' : World} {a : Option Addr} {len cap : Nat} {zs : List Int} (hb : Below w.heap.size w w') (h : Code w a len cap zs) : Code w' a len cap zs :=
 ⟨h.1, h.2.1, (h.2.2.below hb (Nat.le_refl _)).mono hb.size⟩
theorem Code.bd {w : World} {a : Option Addr} {len cap : Nat} {zs : List Int} (h : Code w a len cap zs) : len ≤ 9223372036854775807 := by have h1 := h.1; have h2 := h.2.1; omega

set_option maxHeartbeats 400000 in
theorem open_any (a : Option Addr) (len cap : Nat) (zs : List Int) (w : World) (h : Code w a len cap zs) :
  Calls Tryd.prog 44 #[.slice a len cap] w fun e w' => ∃ rb, e = .returned (.pointer (some ⟨rb, 0, none⟩)) ∧ w.heap.size ≤ rb ∧ Rdr w' rb 0 ∧ Below w.heap.size w w' := by
 obtain ⟨h1, h2, h3⟩ := h
 by_cases hl : len ≤ 2000
 ·
  go_enter Tryd.func44, Tryd.ntmps44
  go_wp2
  go_returns
  exact ⟨_, rfl, Nat.le_refl _, ⟨a, len, cap, zs, Blk.new rfl, hl, h3.below (Below.alloc (Below.refl _ _) (Nat.le_refl _) _) (Nat.le_refl _)⟩, by (exact grownA)⟩
 ·
  rcases h3 with h3 | ⟨b, off, rfl, h4, h5, h6⟩
  ·
   omega
  go_enter Tryd.func44, Tryd.ntmps44
  go_wp2
  go_returns
  exact ⟨_, rfl, Nat.le_refl _, ⟨_, 2000, cap, zs, Blk.new rfl, Nat.le_refl _, (CodeAt.cut (by omega) (.inr ⟨b, off, rfl, h4, h5, h6⟩)).below (Below.alloc (Below.refl _ _) (Nat.le_refl _) _) (Nat.le_refl _)⟩, by (exact grownA)⟩

end Go.Proofs.YtedadhoneebfnaaDoor

/- An append under a guard, at a step of a region that draws its order. -/
namespace Go.Proofs.YtedadhoneebfnaaDoor
open Go.RowKit

variable {P : Program} {w : World}
end Go.Proofs.YtedadhoneebfnaaDoor

/- Append onto a row of the call's own, from whatever reads, nil or not. No program in sight. -/
namespace Go.Proofs.YtedadhoneebfnaaDoor
open Go.RowKit

section
variable {P : Program} (w : World)
theorem run_append_void (base : Nat) (t ty e : TypeId) (i : TypeInfo) (size : Nat) (ht : P.underlying t = some (.slice e)) (hi : P.info? e = some i)
  (v : Value) (n : Nat) (xs : List Value) (hown : w.ownsRow base e size v n xs) (c : Nat) : (Builtin.append_ #[t, t] ty #[v, .slice none 0 c]).run P w = .ok v w := by
 rcases hown.2 with ⟨rfl, rfl⟩ | ⟨g, cap, cur, rfl, _, _, hnc, _⟩
 ·
  simp [Builtin.append_, run_underlying ht, sizeOf, typeInfo, hi, Builtin.lenOf, Builtin.firstCells]
 ·
  simp [Builtin.append_, run_underlying ht, sizeOf, typeInfo, hi, Builtin.lenOf, Builtin.firstCells, hnc, storeCells]
theorem run_append_rds (base : Nat) (t ty e : TypeId) (i : TypeInfo) (z : Value) (size bytes : Nat) (ht : P.underlying t = some (.slice e)) (hi : P.info? e = some i) (hz : i.zero = some z)
  (hsize : i.size = size) (hby : i.bytes = bytes) (hzs : z.cells.size = size) (hsz : 0 < size)
  (v : Value) (n : Nat) (xs : List Value) (hown : w.ownsRow base e size v n xs)
  (u : Value) (m : Nat) (news : List Value) (hr : Rds w u m size news) (h1 : ∀ u ∈ news, u.oneCell' = true)
  (h63 : n + m ≤ maxLen) (hbytes : (n + m) * bytes ≤ 140737488355328) (hbase : base ≤ w.heap.size) :
  ∃ v' w', (Builtin.append_ #[t, t] ty #[v, u]).run P w = .ok v' w' ∧ w'.ownsRow base e size v' (n + m) (xs ++ news) ∧ w.grownBy w' v.ownBlock ∧
   (v'.ownBlock = v.ownBlock ∨ v'.ownBlock = some w.heap.size) := by
 obtain ⟨hl, hm, a, ca, rfl, hn, hc⟩ := hr
 rcases a with _ | ad
 ·
  have hm0 : m = 0 := by
   rcases hc with h | ⟨b, off, h, _⟩
   ·
    exact h
   ·
    cases h
  subst hm0
  have hnn : news = [] := List.eq_nil_of_length_eq_zero (by simpa using hl)
  subst hnn
  exact ⟨v, w, run_append_void w base t ty e i size ht hi v n xs hown ca, by simpa using hown, World.grownBy.refl w _, .inl rfl⟩
 ·
  have hcells : ∀ j u, news[j]? = some u → w.cell? (ad.add j) = some u := by
   intro j u hu
   have hj := (List.getElem?_eq_some_iff.1 hu).1
   rcases hc with h | ⟨b, off, h, hb, hc⟩
   ·
    subst h; simp at hl; subst hl; simp at hj
   ·
    cases h
    rw [Addr.add_spot, hc j (by omega)]; exact hu
  obtain ⟨v', w', hrun, h2, h3, _, h5⟩ := run_append_own_at (P := P) w base t ty e i z size bytes ht hi hz hsize hby hzs hsz v n xs hown ad m ca news hl hcells h1 h63 hbytes hbase
  exact ⟨v', w', hrun, h2, h3, h5⟩
theorem wp_append_rds {o : Oper} {a : Act} {K : Act → World → Prop} {Q : Exit → Act → World → Prop} (s x : Operand) (t : TypeId)
  (ho : o.op = .call { callee := .builtin .append, args := #[s, x], argTypes := #[t, t] })
  (base : Nat) (e : TypeId) (i : TypeInfo) (z : Value) (size bytes : Nat) (ht : P.underlying t = some (.slice e)) (hi : P.info? e = some i) (hz : i.zero = some z)
  (hsize : i.size = size) (hby : i.bytes = bytes) (hzs : z.cells.size = size) (hsz : 0 < size)
  (v : Value) (n : Nat) (xs : List Value) (hs : a.eval s = v) (hown : w.ownsRow base e size v n xs)
  (u : Value) (m : Nat) (news : List Value) (hx : a.eval x = u) (hr : Rds w u m size news) (h1 : ∀ u ∈ news, u.oneCell' = true)
  (h63 : n + m ≤ maxLen) (hbytes : (n + m) * bytes ≤ 140737488355328) (hbase : base ≤ w.heap.size)
  (h : ∀ v' w', w'.ownsRow base e size v' (n + m) (xs ++ news) → w.grownBy w' v.ownBlock → (v'.ownBlock = v.ownBlock ∨ v'.ownBlock = some w.heap.size) → K (a.put o.dst v') w') : o.wp P a w K Q := by
 obtain ⟨v', w', hrun, h2, h3, h4⟩ := run_append_rds (P := P) w base t o.type e i z size bytes ht hi hz hsize hby hzs hsz v n xs hown u m news hr h1 h63 hbytes hbase
 unfold Oper.wp execOp
 simp only [ho, resolve, invoke, builtin, Sem.run_bind, Sem.run_pure, Result.andThen_ok, List.map_toArray, List.map_cons, List.map_nil, hs, hx, hrun]
 exact h v' w' h2 h3 h4
theorem wpList_append_rds {ops : Array Oper} {rest : List Oper} {o : Oper} {a : Act} {Q : Exit → Act → World → Prop} (hgd : o.guard = none) (s x : Operand) (t : TypeId)
  (ho : o.op = .call { callee := .builtin .append, args := #[s, x], argTypes := #[t, t] })
  (base : Nat) (e : TypeId) (i : TypeInfo) (z : Value) (size bytes : Nat) (ht : P.underlying t = some (.slice e)) (hi : P.info? e = some i) (hz : i.zero = some z)
  (hsize : i.size = size) (hby : i.bytes = bytes) (hzs : z.cells.size = size) (hsz : 0 < size)
  (v : Value) (n : Nat) (xs : List Value) (hs : a.eval s = v) (hown : w.ownsRow base e size v n xs)
  (u : Value) (m : Nat) (news : List Value) (hx : a.eval x = u) (hr : Rds w u m size news) (h1 : ∀ u ∈ news, u.oneCell' = true)
  (h63 : n + m ≤ maxLen) (hbytes : (n + m) * bytes ≤ 140737488355328) (hbase : base ≤ w.heap.size)
  (h : ∀ v' w', w'.ownsRow base e size v' (n + m) (xs ++ news) → w.grownBy w' v.ownBlock → (v'.ownBlock = v.ownBlock ∨ v'.ownBlock = some w.heap.size) → wpList P ops Q rest (a.put o.dst v') w') : wpList P ops Q (o :: rest) a w :=
 wpList_plain hgd fun _ hK => wp_append_rds w s x t ho base e i z size bytes ht hi hz hsize hby hzs hsz v n xs hs hown u m news hx hr h1 h63 hbytes hbase fun v' w' h2 h3 h4 => hK _ _ (h v' w' h2 h3 h4)
theorem step_append_rds {ops : Array Oper} {o : Oper} {a : Act} {K : Act → World → Prop} {Q : Exit → Act → World → Prop} {E : Prop} (hw : Region.wanted o (yielded ops a.tmps) = true) (s x : Operand) (t : TypeId)
  (ho : o.op = .call { callee := .builtin .append, args := #[s, x], argTypes := #[t, t] })
  (base : Nat) (e : TypeId) (i : TypeInfo) (z : Value) (size bytes : Nat) (ht : P.underlying t = some (.slice e)) (hi : P.info? e = some i) (hz : i.zero = some z)
  (hsize : i.size = size) (hby : i.bytes = bytes) (hzs : z.cells.size = size) (hsz : 0 < size)
  (v : Value) (n : Nat) (xs : List Value) (hs : a.eval s = v) (hown : w.ownsRow base e size v n xs)
  (u : Value) (m : Nat) (news : List Value) (hx : a.eval x = u) (hr : Rds w u m size news) (h1 : ∀ u ∈ news, u.oneCell' = true)
  (h63 : n + m ≤ maxLen) (hbytes : (n + m) * bytes ≤ 140737488355328) (hbase : base ≤ w.heap.size)
  (h : ∀ v' w', w'.ownsRow base e size v' (n + m) (xs ++ news) → w.grownBy w' v.ownBlock → (v'.ownBlock = v.ownBlock ∨ v'.ownBlock = some w.heap.size) → K (a.put o.dst v') w') :
  if Region.wanted o (yielded ops a.tmps) = true then Oper.wp P o a w K Q else E := by
 rw [if_pos hw]
 exact wp_append_rds w s x t ho base e i z size bytes ht hi hz hsize hby hzs hsz v n xs hs hown u m news hx hr h1 h63 hbytes hbase h
theorem run_append_head (base : Nat) (t ty e : TypeId) (i : TypeInfo) (z : Value) (size bytes : Nat) (ht : P.underlying t = some (.slice e)) (hi : P.info? e = some i) (hz : i.zero = some z)
  (hsize : i.size = size) (hby : i.bytes = bytes) (hzs : z.cells.size = size) (hsz : 0 < size)
  (g0 n c0 : Nat) (xs : List Value) (hown : w.ownsRow base e size (.slice (some ⟨g0, 0, none⟩) n c0) n xs)
  (u : Value) (m : Nat) (news : List Value) (hr : Rds w u m size news) (h1 : ∀ u ∈ news, u.oneCell' = true)
  (h63 : n + m ≤ maxLen) (hbytes : (n + m) * bytes ≤ 140737488355328) (hbase : base ≤ w.heap.size) :
  ∃ g cap w', (Builtin.append_ #[t, t] ty #[.slice (some ⟨g0, 0, none⟩) n c0, u]).run P w = .ok (.slice (some ⟨g, 0, none⟩) (n + m) cap) w' ∧ w'.ownsRow base e size (.slice (some ⟨g, 0, none⟩) (n + m) cap) (n + m) (xs ++ news) ∧ w.grownBy w' (some g0) := by
 obtain ⟨hl, hm, a, ca, rfl, hn, hc⟩ := hr
 rcases a with _ | ad
 ·
  have hm0 : m = 0 := by
   rcases hc with h | ⟨b, off, h, _⟩
   ·
    exact h
   ·
    cases h
  subst hm0
  have hnn : news = [] := List.eq_nil_of_length_eq_zero (by simpa using hl)
  subst hnn
  exact ⟨g0, c0, w, run_append_void w base t ty e i size ht hi _ n xs hown ca, by simpa using hown, World.grownBy.refl w _⟩
 ·
  have hcells : ∀ j u, news[j]? = some u → w.cell? (ad.add j) = some u := by
   intro j u hu
   have hj := (List.getElem?_eq_some_iff.1 hu).1
   rcases hc with h | ⟨b, off, h, hb, hc⟩
   ·
    subst h; simp at hl; subst hl; simp at hj
   ·
    cases h
    rw [Addr.add_spot, hc j (by omega)]; exact hu
  obtain ⟨v', w', hrun, h2, h3, h4, h5⟩ := run_append_own_at (P := P) w base t ty e i z size bytes ht hi hz hsize hby hzs hsz _ n xs hown ad m ca news hl hcells h1 h63 hbytes hbase
  have hnn : v' ≠ .slice none 0 0 := fun e => by have := (h4.1 e).1; cases this
  rcases h2.2 with ⟨h6, _⟩ | ⟨g, cap, cur, rfl, hb, r⟩
  ·
   exact absurd h6 hnn
  ·
   exact ⟨g, cap, w', hrun, h2, h3⟩
theorem wpList_append_head {ops : Array Oper} {rest : List Oper} {o : Oper} {a : Act} {Q : Exit → Act → World → Prop} (hgd : o.guard = none) (s x : Operand) (t : TypeId)
  (ho : o.op = .call { callee := .builtin .append, args := #[s, x], argTypes := #[t, t] })
  (base : Nat) (e : TypeId) (i : TypeInfo) (z : Value) (size bytes : Nat) (ht : P.underlying t = some (.slice e)) (hi : P.info? e = some i) (hz : i.zero = some z)
  (hsize : i.size = size) (hby : i.bytes = bytes) (hzs : z.cells.size = size) (hsz : 0 < size)
  (g0 n c0 : Nat) (xs : List Value) (hs : a.eval s = .slice (some ⟨g0, 0, none⟩) n c0) (hown : w.ownsRow base e size (.slice (some ⟨g0, 0, none⟩) n c0) n xs)
  (u : Value) (m : Nat) (news : List Value) (hx : a.eval x = u) (hr : Rds w u m size news) (h1 : ∀ u ∈ news, u.oneCell' = true)
  (h63 : n + m ≤ maxLen) (hbytes : (n + m) * bytes ≤ 140737488355328) (hbase : base ≤ w.heap.size)
  (h : ∀ g cap w', w'.ownsRow base e size (.slice (some ⟨g, 0, none⟩) (n + m) cap) (n + m) (xs ++ news) → w.grownBy w' (some g0) → wpList P ops Q rest (a.put o.dst (.slice (some ⟨g, 0, none⟩) (n + m) cap)) w') : wpList P ops Q (o :: rest) a w := by
 refine wpList_plain hgd fun K hK => ?_
 obtain ⟨g, cap, w', hrun, h2, h3⟩ := run_append_head (P := P) w base t o.type e i z size bytes ht hi hz hsize hby hzs hsz g0 n c0 xs hown u m news hr h1 h63 hbytes hbase
 unfold Oper.wp execOp
 simp only [ho, resolve, invoke, builtin, Sem.run_bind, Sem.run_pure, Result.andThen_ok, List.map_toArray, List.map_cons, List.map_nil, hs, hx, hrun]
 exact hK _ _ (h g cap w' h2 h3)
end
end Go.Proofs.YtedadhoneebfnaaDoor

/- The draw of a permutation: l20Perm. Of what is drawn only the length and the range are said. -/
namespace Go.Proofs.YtedadhoneebfnaaDoor
open Go.RowKit

theorem infoIz : (Tryd.prog.info? 3).map (fun i => (i.zero, i.size, i.bytes)) = some (some (.int .i64 0), 1, 8) := by kernel_rfl
theorem ints_one (zs : List Int) : ∀ u ∈ ints zs, u.oneCell' = true := by
 intro u hu
 obtain ⟨s, _, rfl⟩ := List.mem_map.1 hu
 rfl
/-- The first n of an owned row, with all the room. -/
theorem Own.first {w : World} {g n cap m : Nat} {E : TypeId} {xs : List Value} (h : Own w g n cap E 1 xs) (hm : m ≤ n) : Own w g m cap E 1 (xs.take m) := by
 obtain ⟨cur, hb, h1, h2, h3, h4⟩ := h.blk
 have hl := h.len
 refine Own.ofBlk (by rw [List.length_take]; omega) hb (by omega) h2 h3 ?_
 rw [← h4, List.take_take]; congr 1; omega
theorem keep_newz {w : World} {cs : Array Value} {T : TypeId} {b i : Nat} {u : Value} (hb : b = w.heap.size) (hu : cs[i]? = some u) : (w.alloc (.cells cs T)).cell? ⟨b, 0 + i, none⟩ = some u := by
 rw [Nat.zero_add, (Blk.new hb).at i]; exact hu
theorem gb_low {w w1 w2 : World} {rb : Nat} {r : Option Nat} (h : w.grownBy w1 (some rb)) (hg : w1.grownBy w2 r) (hr : ∀ b, r = some b → w.heap.size ≤ b) : w.grownBy w2 (some rb) :=
 ⟨hg.os.trans h.os, hg.tape.trans h.tape, hg.output.trans h.output, Nat.le_trans h.size hg.size, fun k hk hk2 => (hg.block k (Nat.lt_of_lt_of_le hk h.size) (fun e => by have := hr k e.symm; omega)).trans (h.block k hk hk2)⟩
theorem Rdr.kept {w w' : World} {rb p : Nat} {r : Option Nat} (h : Rdr w rb p) (hg : w.grownBy w' r) (hr : ∀ b, r = some b → rb < b) : Rdr w' rb p :=
 h.below (B := rb + 1) ((Below.refl _ _).grown hg h.lt (fun k hk => hr k hk)) (Nat.lt_succ_self _)
/-- What l20Perm leaves. -/
def PermPost (rb p m : Nat) (w : World) (e : Ending) (w' : World) : Prop :=
 ∃ (g cap : Nat) (zs : List Int), e = .returned (.slice (some ⟨g, 0, none⟩) m cap) ∧ zs.length = m ∧ (∀ z ∈ zs, 0 ≤ z ∧ z < m) ∧ w.heap.size ≤ g ∧ Own w' g m cap 3 1 (ints zs) ∧ Rdr w' rb (p + m) ∧ w.grownBy w' (some rb)

set_option maxRecDepth 100000 in
set_option maxHeartbeats 2000000 in
theorem l20Perm_any (rb p m : Nat) (w : World) (h : Rdr w rb p) (hp : p ≤ 1000000) (hm : m ≤ 100) :
  Calls Tryd.prog 57 #[.pointer (some ⟨rb, 0, none⟩), .int .i64 m] w (PermPost rb p m w) := by
 obtain ⟨i0, hi, hz0, hz1, hz2⟩ := info_parts infoIz
 have hlt := h.lt
 have hO0 : Own (w.alloc (.cells #[] 3)) w.heap.size 0 0 3 1 (ints []) := (Own.of (World.ownsRow_lit (base := w.heap.size) (e := 3) (size := 1) w #[] 0 (Nat.le_refl _) (by unfold maxLen; omega) rfl)).1
 go_enter Tryd.func57, Tryd.ntmps57
 go_wp2_with fail
 go_loopw [5, 6] (fun v i wr => ∃ (k g cap : Nat) (zs : List Int), i = .int .i64 k ∧ k ≤ m ∧ v = .slice (some ⟨g, 0, none⟩) k cap ∧ Hid (zs.length = k) ∧ Hid (∀ z ∈ zs, 0 ≤ z ∧ z < m) ∧ w.heap.size ≤ g ∧ Own wr g k cap 3 1 (ints zs) ∧ Rdr wr rb (p + k) ∧ w.grownBy wr (some rb)) (fun _ i _ => m - (intOf i).toNat)
 case atStart => exact ⟨0, w.heap.size, 0, [], rfl, Nat.zero_le _, rfl, rfl, (fun z hz => by cases hz), Nat.le_refl _, hO0, h.alloc, by (exact gbA)⟩
 case round =>
  clear hO0 h
  obtain ⟨k, g, cap, zs, rfl, hk, rfl, HZ, HZB, hg, hO, hr, hgb⟩ := hrel
  have hrlt := hr.lt
  by_cases hkm : k < m
  ·
   go_wp2_with fail
   refine (pick_any rb (p + k) _ _ hr (by omega) (by omega)).mono ?_
   rintro e w1 ⟨y, rfl, hy0, hy1, hr1, hgb1⟩
   have hO1 := hO.gb hgb1 (by omega)
   have hgA := gb_trans hgb hgb1
   have hyk : y ≤ k := by omega
   obtain ⟨t, rfl⟩ := Int.eq_ofNat_of_zero_le hy0
   have htk : t ≤ k := by omega
   have hcaps := hO1.caps
   have hcl := hcaps.2
   unfold maxLen at hcl
   have hO1lt := hO1.lt
   have hsz1 := hgA.size
   have hO2 : (w1.alloc (.cells #[] 3)).ownsRow w1.heap.size 3 1 (.slice (some ⟨w1.heap.size, 0, none⟩) 0 0) 0 [] := World.ownsRow_lit (base := w1.heap.size) (e := 3) (size := 1) w1 #[] 0 (Nat.le_refl _) (by unfold maxLen; omega) rfl
   have hOa := hO1.alloc (o := .cells #[] 3)
   have HRD : ∀ a', (t < k → a' = some ⟨g, t, none⟩) → Rds (w1.alloc (.cells #[] 3)) (.slice a' (k - t) (cap - t)) (k - t) 1 ((ints zs).drop t) := fun a' ha => by
    have := Rds.drop (Rds.ofOwn hOa) htk (show k - t ≤ cap - t by omega) (a' := a') (by intro h; rw [ha h]; simp)
    simpa using this
   have HRDH := Lib.hid HRD
   clear HRD hy1 hyk hO hr hgb hgb1 hy0
   have hn1 : ∀ u ∈ (ints zs).drop t, u.oneCell' = true := fun u hu => ints_one zs u (List.mem_of_mem_drop hu)
   have HN1 := Lib.hid hn1
   clear hn1
   have i1 : (0 : Int) ≤ (t : Int) := by omega
   have i2 : (t : Int) ≤ (k : Int) := by omega
   obtain ⟨o2, hoo, hot⟩ : ∃ o2, (if cap = t then some (⟨g, 0, none⟩ : Addr) else some ⟨g, t, none⟩) = some ⟨g, o2, none⟩ ∧ (t < k → o2 = t) := by
    by_cases hct : cap = t
    ·
     exact ⟨0, by rw [if_pos hct], fun h => by omega⟩
    ·
     exact ⟨t, by rw [if_neg hct], fun _ => rfl⟩
   have HOT := Lib.hid hot
   clear hot
   ·
    go_wp2_with (first
     | (at_builtin; refine wpList_append_rds _ rfl _ _ 79 rfl w1.heap.size 3 i0 _ 1 8 Tryd.underlying79 hi hz0 hz1 hz2 rfl (by decide) (.slice (some ⟨w1.heap.size, 0, none⟩) 0 0) 0 [] rfl hO2 _ (k - t) ((ints zs).drop t) rfl (HRDH.out (some ⟨g, o2, none⟩) (by intro h; rw [HOT.out h])) HN1.out (by unfold maxLen; omega) (by omega) (by simp) ?_; intro v2 w2 ho2 hgr2 hv2; (have hgr2' : World.grownBy _ w2 (some w1.heap.size) := hgr2); (have h21 := Own.gb hgr2' (by omega) hOa); (have hT := ((h21.first htk).alloc (o := .cells #[.int .i64 (k : Nat)] 3)).back hg); (have hsz2 := hgr2'.size); (rw [World.size_alloc] at hsz2); (have HV2 : Hid (∀ b, v2.ownBlock = some b → w1.heap.size ≤ b) := own_ge ho2); (have ho2a := World.ownsRow.alloc ho2 (.cells #[.int .i64 (k : Nat)] 3)); clear hgr2 h21)
     | (at_builtin; refine wpList_append_own _ rfl _ _ 79 rfl w.heap.size 3 i0 _ 1 8 Tryd.underlying79 hi hz0 hz1 hz2 rfl (by decide) (.slice (some ⟨g, 0, none⟩) t cap) t ((ints zs).take t) rfl hT ⟨w2.heap.size, 0, none⟩ 1 1 [.int .i64 (k : Nat)] rfl rfl (by intro j u hj; rw [Addr.add_spot]; exact keep_newz (by simp) (by simpa using hj)) (by intro u hu; simp at hu; subst hu; rfl) (by unfold maxLen; omega) (by omega) (by simp; omega) ?_; intro v3 w3 ho3 hgr3 _; (have hgr3' : World.grownBy _ w3 (some g) := hgr3); (have ho23 := ho2a.kept hgr3' (Or.inr (fun e => by have := HV2.out _ e; omega) : v2.ownBlock = none ∨ v2.ownBlock ≠ some g)); (have hsz3 := hgr3'.size); (rw [World.size_alloc] at hsz3); clear hgr3 hT ho2a)
     | (at_builtin; refine wpList_append_rds _ rfl _ _ 79 rfl w.heap.size 3 i0 _ 1 8 Tryd.underlying79 hi hz0 hz1 hz2 rfl (by decide) v3 (t + 1) _ rfl ho3 v2 (0 + (k - t)) _ rfl (Rds.ofOwns ho23) (by simpa using HN1.out) (by unfold maxLen; omega) (by omega) (by omega) ?_; intro v4 w4 ho4 hgr4 _))
    have hge3 : ∀ b, v3.ownBlock = some b → w.heap.size ≤ b := own_ge ho3
    have hG2 := gb_low (gb_alloc hgA) hgr2' (fun b e => by cases e; exact hsz1)
    have hG3 := gb_low (gb_alloc hG2) hgr3' (fun b e => by cases e; exact hg)
    have hG4 := gb_low hG3 hgr4 hge3
    have hR2 := (hr1.alloc).kept hgr2' (fun b e => by cases e; exact hr1.lt)
    have hR3 := (hR2.alloc).kept hgr3' (fun b e => by cases e; omega)
    have hR4 := hR3.kept hgr4 (fun b e => by have := hge3 b e; omega)
    rw [show t + 1 + (0 + (k - t)) = k + 1 by omega] at ho4
    obtain ⟨g4, c4, rfl, hg4, hO4⟩ := own_head ho4 (Nat.succ_pos k)
    clear hG2 hG3 hR2 hR3 ho4 ho3 ho23 hgr2' hgr3' hgr4 hge3 hOa hO1 hO2 hr1 hgA
    go_roundw
    case rel =>
     refine ⟨k + 1, g4, c4, zs.take t ++ [(k : Int)] ++ zs.drop t, by go_num, by omega, by first | rfl | (rw [show t + 1 + (0 + (k - t)) = k + 1 by omega]), ?_, ?_, hg4, ?_, hR4, hG4⟩
     ·
      unfold Hid; have := HZ.out; simp; omega
     ·
      intro z hz
      simp only [List.mem_append, List.mem_singleton] at hz
      rcases hz with (hz | rfl) | hz
      ·
       exact HZB.out z (List.mem_of_mem_take hz)
      ·
       omega
      ·
       exact HZB.out z (List.mem_of_mem_drop hz)
     ·
      have e : ints (zs.take t ++ [(k : Int)] ++ zs.drop t) = (ints zs).take t ++ [.int .i64 (k : Nat)] ++ ([] ++ (ints zs).drop t) := by simp [ints, List.map_take, List.map_drop]
      rw [e]; exact hO4
    case measure => simp [intOf]; omega
  ·
   obtain rfl : k = m := by omega
   go_wp2
   go_returns
   exact ⟨g, cap, zs, rfl, HZ.out, HZB.out, hg, hO, hr, hgb⟩

end Go.Proofs.YtedadhoneebfnaaDoor
