/- Joined texts: Pv, Bc, Ev. -/
import Derived.Test.YtedadhoneebfnaaGreatDoorJ4
import Derived.Test.YtedadhoneebfnaaGreatDoorJ2
import Derived.Test.YtedadhoneebfnaaGreatDoorJ5
import Derived.Handy
import Derived.Deep.QuietTactic
import Derived.BigQuiet
import Derived.Test.YtedadhoneebfnaaGreatDoorLib
import Derived.Test.YtedadhoneebfnaaGreatDoorRows
import Derived.Test.YtedadhoneebfnaaGreatDoorJ1
import Derived.Deep.RegionHeld3
set_option linter.unusedSimpArgs false
set_option linter.unusedVariables false
/- Contracts of PlanValid (program and reference). -/
namespace Go.Proofs.YtedadhoneebfnaaGreatDoor
open Go.RowKit

/-- The first k numbers are in order, and begin with none of all others. -/
def SpOk (ps : List ByteArray) (k : Nat) : Prop := ∀ i s, i < k → ps[i]? = some s → numB s = true ∧ ∀ j t, j ≠ i → ps[j]? = some t → preB s t = false
theorem SpOk.plan {ps : List ByteArray} (h : SpOk ps ps.length) (h10 : ps.length ≤ 10) : planB ps = true :=
 (planB_iff ps).2 ⟨h10, fun j s hj hs => (h j s hj hs).1, fun i j s t hij hj hs ht => ⟨(h j t hj ht).2 i s (by omega) hs, (h i s (by omega) hs).2 j t (by omega) ht⟩⟩

set_option maxHeartbeats 1000000 in
theorem iPlanValid_any (v : Value) (ps : List ByteArray) (w : World) (hv : Rds w v ps.length 1 (strs ps)) (hL : StLen ps) :
  Calls Tryz.prog 85 #[v] w fun e w' => e = .returned (.bool (planB ps)) ∧ w = w' := by
 obtain ⟨a, ca, rfl, hl1, hm1, hn1, hc1⟩ := hv.open1
 unfold maxLen at hm1
 obtain ⟨n, hn⟩ : ∃ n, ps.length = n := ⟨_, rfl⟩
 rw [hn] at hm1 hn1 hc1 ⊢
 have HN := Lib.hid hn
 have HL := Lib.hid hL
 clear hn hl1 hL hv
 by_cases h10 : n ≤ 10
 ·
  go_enter Tryz.func85, Tryz.ntmps85
  go_wp2_with fail
  go_loop [12] (fun i => ∃ k : Nat, k ≤ n ∧ i = .int .i64 k ∧ Hid (PlOk ps k)) (fun i => n - (intOf i).toNat)
  case atStart => exact ⟨0, by omega, rfl, PlOk.zero ps⟩
  case round =>
   obtain ⟨k, hk, rfl, hok⟩ := hrel
   by_cases hkn : k < n
   ·
    rcases hc1 with hc1 | ⟨b, off, rfl, hb, hc1⟩
    ·
     omega
    obtain ⟨s, hs⟩ : ∃ s, ps[k]? = some s := ⟨_, List.getElem?_eq_getElem (by rw [HN.out]; omega)⟩
    have c1 := hc1 k hkn
    rw [strs_at ps k s hs] at c1
    have hsl' := HL.out k s hs
    have hsl := hsl'
    unfold maxLen at hsl
    have HS := Lib.hid hs
    have HC := Lib.hid hc1
    clear hc1 hs
    by_cases h1 : 1 ≤ s.size
    ·
     by_cases h3 : s.size ≤ 3
     ·
      go_wp2_with fail
      refine (iDigitsOk_any s _ hsl').mono ?_
      rintro e w1 ⟨rfl, rfl⟩
      obtain ⟨d, hd⟩ : ∃ d, digsB s = d := ⟨_, rfl⟩
      have HD := Lib.hid hd
      rw [hd]
      clear hd
      cases d
      ·
       have HF := Lib.hid (plan_no_at HS.out (by simp [numB, HD.out]))
       go_wp2
       go_returns
       exact ⟨by rw [HF.out]; rfl, rfl⟩
      ·
       have HT : Hid (numB s = true) := by simp [Hid, numB, h1, h3, HD.out]
       go_wp2_with fail
       clear c1
       go_loop [34] (fun j => ∃ m : Nat, m ≤ k ∧ j = .int .i64 m ∧ Hid (∀ i t, i < m → ps[i]? = some t → preB s t = false ∧ preB t s = false)) (fun j => k - (intOf j).toNat)
       case atStart => exact ⟨0, by omega, rfl, fun i t hi => absurd hi (by omega)⟩
       case round =>
        obtain ⟨m, hm, rfl, hne⟩ := hrel
        by_cases hmk : m < k
        ·
         obtain ⟨t, ht⟩ : ∃ t, ps[m]? = some t := ⟨_, List.getElem?_eq_getElem (by rw [HN.out]; omega)⟩
         have c2 := HC.out m (by omega)
         rw [strs_at ps m t ht] at c2
         have htl := HL.out m t ht
         have HT2 := Lib.hid ht
         clear ht
         go_wp2_with fail
         refine (hasPrefix_any s t _ hsl' htl).mono ?_
         rintro e w1 ⟨rfl, rfl⟩
         obtain ⟨d, hd⟩ : ∃ d, preB s t = d := ⟨_, rfl⟩
         have HP := Lib.hid hd
         rw [hd]
         clear hd
         cases d
         ·
          go_wp2_with fail
          refine (hasPrefix_any t s _ htl hsl').mono ?_
          rintro e w1 ⟨rfl, rfl⟩
          obtain ⟨d, hd⟩ : ∃ d, preB t s = d := ⟨_, rfl⟩
          have HQ := Lib.hid hd
          rw [hd]
          clear hd
          cases d
          ·
           go_wp2_with fail
           go_round
           case rel =>
            refine ⟨m + 1, by omega, by go_num, ?_⟩
            intro i u hi hu
            by_cases e : i = m
            ·
             subst e; have := HT2.out; rw [hu] at this; cases this; exact ⟨HP.out, HQ.out⟩
            ·
             exact hne.out i u (by omega) hu
           case measure => simp [intOf]; omega
          ·
           have HF := Lib.hid (plan_no_pair (show k ≠ m by omega) HS.out HT2.out HQ.out)
           go_wp2
           go_returns
           exact ⟨by rw [HF.out]; rfl, rfl⟩
         ·
          have HF := Lib.hid (plan_no_pair (show m ≠ k by omega) HT2.out HS.out HP.out)
          go_wp2
          go_returns
          exact ⟨by rw [HF.out]; rfl, rfl⟩
        ·
         obtain rfl : m = k := by omega
         go_wp2_with fail
         go_round
         case rel => exact ⟨m + 1, by omega, by go_num, hok.out.succ HS.out HT.out hne.out⟩
         case measure => simp [intOf]; omega
     ·
      have HF := Lib.hid (plan_no_at HS.out (by simp [numB, h3]))
      go_wp2
      go_returns
      exact ⟨by rw [HF.out]; rfl, rfl⟩
    ·
     have HF := Lib.hid (plan_no_at HS.out (by simp [numB, h1]))
     go_wp2
     go_returns
     exact ⟨by rw [HF.out]; rfl, rfl⟩
   ·
    obtain rfl : k = n := by omega
    have HF : Hid (planB ps = true) := (planB_iff ps).2 ⟨by rw [HN.out]; exact h10, by rw [HN.out]; exact hok.out⟩
    go_wp2
    go_returns
    exact ⟨by rw [HF.out]; rfl, rfl⟩
 ·
  have HF : Hid (planB ps = false) := planB_no (fun ok => h10 (by have := ok.1; rw [HN.out] at this; exact this))
  go_enter Tryz.func85, Tryz.ntmps85
  go_wp2
  go_returns
  exact ⟨by rw [HF.out]; rfl, rfl⟩

set_option maxHeartbeats 1000000 in
theorem sPlanValid_any (v : Value) (ps : List ByteArray) (w : World) (hv : Rds w v ps.length 1 (strs ps)) (hL : StLen ps) :
  Calls Tryz.prog 59 #[v] w fun e w' => e = .returned (.bool (planB ps)) ∧ ∃ q, w' = w.drewN q := by
 obtain ⟨a, ca, rfl, hl1, hm1, hn1, hc1⟩ := hv.open1
 unfold maxLen at hm1
 obtain ⟨n, hn⟩ : ∃ n, ps.length = n := ⟨_, rfl⟩
 rw [hn] at hm1 hn1 hc1 ⊢
 have HN := Lib.hid hn
 have HL := Lib.hid hL
 clear hn hl1 hL hv
 go_enter Tryz.func59, Tryz.ntmps59
 go_wp2_with fail
 go_loopw [3] (fun i wr => ∃ k q : Nat, k ≤ n ∧ i = .int .i64 k ∧ Hid (SpOk ps k) ∧ wr = w.drewN q) (fun i _ => n - (intOf i).toNat)
 case atStart => exact ⟨0, 0, by omega, rfl, fun i s h => absurd h (by omega), rfl⟩
 case round =>
  obtain ⟨k, q, hk, rfl, hok, rfl⟩ := hrel
  by_cases hkn : k < n
  ·
   rcases hc1 with hc1 | ⟨b, off, rfl, hb, hc1⟩
   ·
    omega
   obtain ⟨s, hs⟩ : ∃ s, ps[k]? = some s := ⟨_, List.getElem?_eq_getElem (by rw [HN.out]; omega)⟩
   have c1 := hc1 k hkn
   rw [strs_at ps k s hs] at c1
   have hsl' := HL.out k s hs
   have hsl := hsl'
   unfold maxLen at hsl
   have HS := Lib.hid hs
   have HC := Lib.hid hc1
   clear hc1 hs
   go_wp2_with fail
   refine (sDigitsOk_any s _ hsl').mono ?_
   rintro e w1 ⟨rfl, rfl⟩
   obtain ⟨d, hd⟩ : ∃ d, digsB s = d := ⟨_, rfl⟩
   have HD := Lib.hid hd
   rw [hd]
   clear hd
   cases d
   ·
    have HF := Lib.hid (plan_no_at HS.out (by simp [numB, HD.out]))
    go_wp2
    go_returns
    exact ⟨by rw [HF.out]; rfl, _, rfl⟩
   ·
    go_wp2_with fail
    refine (sIn_any _ _ _ _).mono ?_
    rintro e w1 ⟨rfl, rfl⟩
    obtain ⟨d, hd⟩ : ∃ d, (decide ((1 : Int) ≤ (s.size : Int)) && decide ((s.size : Int) ≤ 3)) = d := ⟨_, rfl⟩
    have HO := Lib.hid hd
    rw [hd]
    clear hd
    cases d
    ·
     have HF := Lib.hid (plan_no_at HS.out (by
      have h := HO.out
      simp only [numB, HD.out, Bool.and_true, Bool.and_eq_false_iff, decide_eq_false_iff_not] at h ⊢
      omega))
     go_wp2
     go_returns
     exact ⟨by rw [HF.out]; rfl, _, rfl⟩
    ·
     have HT : Hid (numB s = true) := by
      have h := HO.out
      simp only [Hid, numB, HD.out, Bool.and_true, Bool.and_eq_true, decide_eq_true_eq] at h ⊢
      omega
     go_wp2_with fail
     go_loopw [4] (fun j wi => ∃ m q : Nat, m ≤ n ∧ j = .int .i64 m ∧ Hid (∀ i t, i < m → i ≠ k → ps[i]? = some t → preB s t = false) ∧ wi = w.drewN q) (fun j _ => n - (intOf j).toNat)
     case atStart => exact ⟨0, q, by omega, rfl, fun i t hi => absurd hi (by omega), rfl⟩
     case round =>
      obtain ⟨m, q2, hm, rfl, hne, rfl⟩ := hrel
      by_cases hmn : m < n
      ·
       obtain ⟨t, ht⟩ : ∃ t, ps[m]? = some t := ⟨_, List.getElem?_eq_getElem (by rw [HN.out]; omega)⟩
       have c2 := HC.out m (by omega)
       rw [strs_at ps m t ht] at c2
       have htl := HL.out m t ht
       have HT2 := Lib.hid ht
       clear ht
       by_cases hmk : m = k
       ·
        have hmb : ((m : Int) != (k : Int)) = false := by simp [hmk]
        go_wp2_with fail
        go_quiet (fail)
        go_wp2
        go_roundw
        case rel =>
         refine ⟨m + 1, _, by omega, by go_num, ?_, rfl⟩
         intro i u hi hik hu
         exact hne.out i u (by omega) hik hu
        case measure => simp [intOf]; omega
       ·
        have hmb : ((m : Int) != (k : Int)) = true := by simp; omega
        obtain ⟨d, hd⟩ : ∃ d, preB s t = d := ⟨_, rfl⟩
        have HP := Lib.hid hd
        clear hd
        have kc : Hid (∀ w : World, Calls Tryz.prog 101 #[.string s, .string t] w fun e w' => e = .returned (.bool d) ∧ w' = w) := fun w => (l6Begins_any s t w hsl' htl).mono (fun e w' h => ⟨by rw [h.1, HP.out], h.2.symm⟩)
        go_wp2_with fail
        go_quiet ((go_at_call 101; exact quiet_add_same (kc.out _)))
        cases d
        ·
         go_wp2
         go_roundw
         case rel =>
          refine ⟨m + 1, _, by omega, by go_num, ?_, rfl⟩
          intro i u hi hik hu
          by_cases e : i = m
          ·
           subst e; have := HT2.out; rw [hu] at this; cases this; exact HP.out
          ·
           exact hne.out i u (by omega) hik hu
         case measure => simp [intOf]; omega
        ·
         have HF := Lib.hid (plan_no_pair hmk HT2.out HS.out HP.out)
         go_wp2
         go_returns
         exact ⟨by rw [HF.out]; rfl, _, by rw [World.drewN_drewN]⟩
      ·
       obtain rfl : m = n := by omega
       go_wp2_with fail
       go_roundw
       case rel =>
        refine ⟨k + 1, _, by omega, by go_num, ?_, rfl⟩
        intro i u hi hu
        by_cases e : i = k
        ·
         subst e
         have := HS.out; rw [hu] at this; cases this
         exact ⟨HT.out, fun j t hj ht => hne.out j t (by have := (List.getElem?_eq_some_iff.1 ht).1; rw [HN.out] at this; exact this) hj ht⟩
        ·
         exact hok.out i u (by omega) hu
       case measure => simp [intOf]; omega
  ·
   obtain rfl : k = n := by omega
   by_cases h10 : k ≤ 10
   ·
    have HF : Hid (planB ps = true) := SpOk.plan (by rw [HN.out]; exact hok.out) (by rw [HN.out]; exact h10)
    have hd : decide ((k : Int) ≤ 10) = true := by simp; omega
    go_wp2
    go_returns
    exact ⟨by rw [HF.out]; rfl, _, rfl⟩
   ·
    have HF : Hid (planB ps = false) := planB_no (fun ok => h10 (by have := ok.1; rw [HN.out] at this; exact this))
    have hd : decide ((k : Int) ≤ 10) = false := by simp; omega
    go_wp2
    go_returns
    exact ⟨by rw [HF.out]; rfl, _, rfl⟩

end Go.Proofs.YtedadhoneebfnaaGreatDoor

/- Rows of truths: their cells. -/
namespace Go.Proofs.YtedadhoneebfnaaGreatDoor
open Go.RowKit

theorem infoB8 : (Tryz.prog.info? 4).map (fun i => (i.zero, i.size, i.bytes)) = some (some (.bool false), 1, 1) := by kernel_rfl
def bcells (n : Nat) (f : Int → Bool) : List Value := (List.range n).map fun i => Value.bool (f (i : Nat))
theorem bcells_len (n : Nat) (f : Int → Bool) : (bcells n f).length = n := by simp [bcells]
theorem bcells_at {n : Nat} (f : Int → Bool) {i : Nat} (h : i < n) : (bcells n f)[i]? = some (.bool (f (i : Nat))) := by simp [bcells, h]
theorem bcells_zero (n : Nat) : (madeCells (Value.bool false).cells (n * 1)).toList = bcells n fun _ => false := by
 apply List.ext_getElem?
 intro i
 by_cases hi : i < n
 ·
  simp [madeCells, Value.cells, bcells, hi, Nat.mod_one]
 ·
  rw [List.getElem?_eq_none (by simp [madeCells]; omega), List.getElem?_eq_none (by simp [bcells]; omega)]
theorem bcells_congr {n : Nat} {f g : Int → Bool} (h : ∀ i : Nat, i < n → f i = g i) : bcells n f = bcells n g := by
 apply List.map_congr_left
 intro i hi
 rw [h i (List.mem_range.1 hi)]
theorem bcells_set {n : Nat} (f : Int → Bool) {x : Nat} (h : x < n) : (bcells n f).set x (.bool true) = bcells n fun i => f i || decide ((x : Int) = i) := by
 apply List.ext_getElem?
 intro i
 by_cases hi : i < n
 ·
  rw [List.getElem?_set, bcells_len, bcells_at f hi, bcells_at _ hi]
  by_cases e : x = i
  ·
   subst e; simp [h]
  ·
   rw [if_neg e]
   have : ¬ (x : Int) = (i : Int) := by omega
   simp [this]
 ·
  rw [List.getElem?_eq_none (by simp [bcells]; omega), List.getElem?_eq_none (by simp [bcells]; omega)]

end Go.Proofs.YtedadhoneebfnaaGreatDoor

/- Contract of ExchangeValid of the program. -/
namespace Go.Proofs.YtedadhoneebfnaaGreatDoor
open Go.RowKit

theorem lines_wrap {O E M : Int} (h : ShapeOk O E M) : IntKind.i64.wrap (O * E) = O * E := by
 have h1 := lines_le h
 have h0 : 0 ≤ O * E := Int.mul_nonneg (by have := h.o; omega) (by have := h.e; omega)
 exact IntWalk.i64_in _ (by omega)
theorem enoughB_iff (O E M : Int) : enoughB O E M = true ↔ ShapeOk O E M ∧ E ≤ M := by
 unfold enoughB
 rw [Bool.and_eq_true, shapeB_iff, decide_eq_true_eq]
theorem ex_en {O E M : Int} {ps : List ByteArray} {cs : List Cl} (h : enoughB O E M = false) : exB O E M ps cs = false :=
 exB_no fun ok => by have := (enoughB_iff O E M).2 ⟨ok.calls.sh, ok.en⟩; rw [h] at this; cases this
theorem ex_plan {O E M : Int} {ps : List ByteArray} {cs : List Cl} (h : planB ps = false) : exB O E M ps cs = false :=
 exB_no fun ok => by have := (planB_iff ps).2 ok.plan; rw [h] at this; cases this
theorem ex_len {O E M : Int} {ps : List ByteArray} {cs : List Cl} (h : ¬ (ps.length : Int) = O * E) : exB O E M ps cs = false :=
 exB_no fun ok => h ok.len
theorem ex_calls {O E M : Int} {ps : List ByteArray} {cs : List Cl} (h : callsB O E M cs = false) : exB O E M ps cs = false :=
 exB_no fun ok => by have := (callsB_iff O E M cs).2 ok.calls; rw [h] at this; cases this

set_option maxRecDepth 100000 in
set_option maxHeartbeats 4000000 in
theorem iExchangeValid_any (O E M : Int) (vp vc : Value) (ps : List ByteArray) (cs : List Cl) (w : World) (hR : ExRd w vp vc ps cs) (hL : StLen ps) :
  Calls Tryz.prog 37 #[.agg #[.int .i64 O, .int .i64 E, .int .i64 M, vp, vc]] w fun e w' => e = .returned (.bool (exB O E M ps cs)) ∧ Below w.heap.size w w' := by
 obtain ⟨i0, hi, hz0, hz1, hz2⟩ := info_parts infoB8
 obtain ⟨a1, c1, rfl, hl1, hm1, hn1, hc1⟩ := hR.plan.open1
 obtain ⟨hl2, hm2, a2, c2, rfl, hn2, hc2⟩ := hR.calls
 unfold maxLen at hm1 hm2
 obtain ⟨n, hn⟩ : ∃ n, ps.length = n := ⟨_, rfl⟩
 obtain ⟨m, hm⟩ : ∃ m, cs.length = m := ⟨_, rfl⟩
 have hB := Blk.new (w := w) (cs := #[.int .i64 O, .int .i64 E, .int .i64 M, .slice a1 ps.length c1, .slice a2 cs.length c2]) (T := 33) rfl
 have hbel0 : Below w.heap.size w (w.alloc (.cells #[.int .i64 O, .int .i64 E, .int .i64 M, .slice a1 ps.length c1, .slice a2 cs.length c2] 33)) := by (exact grownA)
 have HR := Lib.hid hR
 have HL := Lib.hid hL
 rw [hn, hm] at hB hbel0 HR ⊢
 rw [hn] at hm1 hn1
 rw [hm] at hm2 hn2 hc2
 have HN := Lib.hid hn
 have HM := Lib.hid hm
 clear hn hm hl1 hl2 hR hL hc1
 obtain ⟨p0, p1, p2, p3, p4, _, _, _, _, _, plt⟩ := hB.five
 go_enter Tryz.func37, Tryz.ntmps37
 go_wp2_with fail
 refine (iEnough_any O E M _).mono ?_
 rintro e w1 ⟨rfl, hb⟩
 have hbel1 : Below w.heap.size w w1 := by (exact grownA)
 have hB1 := hB.belowAll hb
 clear hB hb hbel0 p0 p1 p2 p3 p4 plt
 obtain ⟨p0, p1, p2, p3, p4, _, _, _, _, _, plt⟩ := hB1.five
 obtain ⟨d1, hd1⟩ : ∃ d, enoughB O E M = d := ⟨_, rfl⟩
 have HD1 := Lib.hid hd1
 rw [hd1]
 clear hd1
 cases d1
 ·
  have HF := Lib.hid (ex_en (ps := ps) (cs := cs) HD1.out)
  go_wp2
  go_returns
  exact ⟨by rw [HF.out]; rfl, hbel1⟩
 ·
  have HSH := Lib.hid ((enoughB_iff O E M).1 HD1.out).1
  have hwL := lines_wrap HSH.out
  go_wp2_with fail
  refine (iPlanValid_any _ ps _ (by have := HR.out.plan.below hbel1; exact this) HL.out).mono ?_
  rintro e w2 ⟨rfl, rfl⟩
  obtain ⟨d2, hd2⟩ : ∃ d, planB ps = d := ⟨_, rfl⟩
  have HD2 := Lib.hid hd2
  rw [hd2]
  clear hd2
  cases d2
  ·
   have HF := Lib.hid (ex_plan (O := O) (E := E) (M := M) (cs := cs) HD2.out)
   go_wp2
   go_returns
   exact ⟨by rw [HF.out]; rfl, hbel1⟩
  ·
   by_cases hlen : (n : Int) = O * E
   ·
    have hq : ((n : Int) != O * E) = false := by simpa using hlen
    have HLEN := Lib.hid hlen
    clear hlen
    go_wp2_with fail
    refine (iCallsValid_any O E M _ cs _ (by have := HR.out.calls.below hbel1; exact this)).mono ?_
    rintro e w3 ⟨rfl, hb3⟩
    have hbel3 : Below w.heap.size w w3 := by (exact grownA)
    have hB3 := hB1.belowAll hb3
    clear hb3 hB1 p0 p1 p2 p3 p4 plt
    obtain ⟨p0, p1, p2, p3, p4, _, _, _, _, _, plt⟩ := hB3.five
    obtain ⟨d3, hd3⟩ : ∃ d, callsB O E M cs = d := ⟨_, rfl⟩
    have HD3 := Lib.hid hd3
    rw [hd3]
    clear hd3
    cases d3
    ·
     have HF := Lib.hid (ex_calls (ps := ps) HD3.out)
     go_wp2
     go_returns
     exact ⟨by rw [HF.out]; rfl, hbel3⟩
    ·
     have HOK := Lib.hid ((callsB_iff O E M cs).1 HD3.out)
     have hn12 : n ≤ 12 := by have h1 := lines_le HSH.out; have h2 := HLEN.out; omega
     clear hbel1
     go_wp2_with (refine wpList_make_full _ rfl _ _ 112 rfl w3.heap.size 4 i0 _ 1 Tryz.underlying112 hi hz0 hz1 .i64 .i64 _ _ n rfl rfl rfl rfl (by rw [hz2]; omega) (by unfold maxLen; omega) (Nat.le_refl _) ?_; intro w4 hown hgr; have hbel4 : Below w3.heap.size w3 w4 := (Below.refl w3.heap.size w3).grown hgr (Nat.le_refl _) (by intro k hk; cases hk); obtain ⟨r0, r1, r2, r3, r4, _, _, _, _, _, rlt⟩ := (hB3.belowAll hbel4).five)
     rw [bcells_zero] at hown
     obtain ⟨hO, -⟩ := Own.of hown
     clear hown hgr hB3 p0 p1 p2 p3 p4 plt r0 r1 r2 r3 r4 rlt
     obtain ⟨g, hg⟩ : ∃ g, w3.heap.size = g := ⟨_, rfl⟩
     have hbelA := hbel4
     have hgle : w.heap.size ≤ g := by have := hbel3.size; omega
     have hgl3 : w3.heap.size ≤ g := by omega
     rw [hg] at hO hbel4 ⊢
     clear hg
     go_wp2_with fail
     go_loopw [44] (fun i wr => ∃ k : Nat, k ≤ m ∧ i = .int .i64 k ∧ Hid (PartTo cs k) ∧ Own wr g n n 4 1 (bcells n (engB cs k)) ∧ Below g w3 wr) (fun i _ => m - (intOf i).toNat)
     case atStart => exact ⟨0, by omega, rfl, PartTo.zero cs, by rw [bcells_congr (g := fun _ => false) (fun i _ => engB_zero cs i)]; exact hO, hbel4⟩
     case round =>
      obtain ⟨k, hk, rfl, hpt, hown, hbel⟩ := hrel
      have hz := hbel.size
      by_cases hkn : k < m
      ·
       rcases hc2 with hc2 | ⟨b, off, rfl, hb, hc2⟩
       ·
        omega
       obtain ⟨c, hc⟩ : ∃ c, cs[k]? = some c := ⟨_, List.getElem?_eq_getElem (by rw [HM.out]; omega)⟩
       obtain ⟨g1, g2, g3⟩ := ccells_at cs k c hc
       have hbz : b < w3.heap.size := by have := hbel3.size; omega
       have hcw : ∀ i, wr.cell? ⟨b, off + i, none⟩ = w.cell? ⟨b, off + i, none⟩ := fun i => (hbel.cell (p := ⟨b, off + i, none⟩) (by show b < _; omega)).trans (hbel3.cell (p := ⟨b, off + i, none⟩) hb)
       have k1 : wr.cell? ⟨b, off + k * 3, none⟩ = some (.int .i64 c.1) := by rw [hcw, hc2 _ (by omega), g1]
       have k2 : wr.cell? ⟨b, off + k * 3 + 1, none⟩ = some (.int .i64 c.2.1) := by rw [Nat.add_assoc, hcw, hc2 _ (by omega), g2]
       have k3 : wr.cell? ⟨b, off + k * 3 + 2, none⟩ = some (.int .i64 c.2.2) := by rw [Nat.add_assoc, hcw, hc2 _ (by omega), g3]
       have HC := Lib.hid hc
       have hat := HOK.out.at' k c hc
       have hle := HLEN.out
       obtain ⟨x, y, v⟩ := c
       simp only at k1 k2 k3 hat
       obtain ⟨x, rfl⟩ := Int.eq_ofNat_of_zero_le hat.1.1
       obtain ⟨y, rfl⟩ := Int.eq_ofNat_of_zero_le hat.2.1.1
       have hxn : x < n := by omega
       have hyn : y < n := by omega
       have q1 := hown.cell x (by omega)
       rw [bcells_at _ hxn] at q1
       have q2 := hown.cell y (by omega)
       rw [bcells_at _ hyn] at q2
       have f1 := hown.free x
       have f2 := hown.free y
       have hglt := hown.lt
       obtain ⟨b1, hb1⟩ : ∃ b, engB cs k (x : Nat) = b := ⟨_, rfl⟩
       obtain ⟨b2, hb2⟩ : ∃ b, engB cs k (y : Nat) = b := ⟨_, rfl⟩
       rw [hb1] at q1
       rw [hb2] at q2
       have HB1 := Lib.hid hb1
       have HB2 := Lib.hid hb2
       have HA := Lib.hid hle
       clear hc g1 g2 g3 hcw hc2 hat hb1 hb2 hle
       have i1 : (0 : Int) ≤ (x : Int) := by omega
       have i2 : (x : Int) < (n : Int) := by omega
       have i3 : (0 : Int) ≤ (y : Int) := by omega
       have i4 : (y : Int) < (n : Int) := by omega
       have hbelF : Below w.heap.size w wr := hbel3.trans (Below.mono hbel hgle)
       have hzF := hbelF.size
       by_cases hxy : x = y
       ·
        have HF := Lib.hid (part_no (O := O) (E := E) (M := M) (ps := ps) (List.mem_of_getElem? HC.out) (List.mem_of_getElem? HC.out) (by simp only; rw [hxy]))
        subst hxy
        have hq2 : ((x : Int) == (x : Int)) = true := by simp
        go_wp2
        go_returns
        exact ⟨by rw [HF.out]; rfl, by (exact grownA)⟩
       ·
        have hq2 : ((x : Int) == (y : Int)) = false := by simp; omega
        cases b1
        ·
         cases b2
         ·
          have hHST : ∀ i : Nat, i < n → engB cs (k + 1) i = ((engB cs k i || decide ((x : Int) = i)) || decide ((y : Int) = i)) := by
           intro i _; rw [engB_succ HC.out]; simp [Bool.or_assoc]
          have HST := Lib.hid hHST
          have HPT := Lib.hid (hpt.out.step HC.out (by simp only; omega) HB1.out HB2.out)
          have hxy1 : ¬ (x : Int) = (y : Int) := by omega
          have hxy2 : ¬ y = x := by omega
          clear hHST
          have hcA := Blk.new (w := wr) (cs := #[.int .i64 (x : Nat), .int .i64 (y : Nat), .int .i64 v]) (T := 89) rfl
          obtain ⟨t1, t2, t3, _, _, _, tlt⟩ := hcA.three
          have hg2 : g ≠ wr.heap.size := by omega
          have q3 := keep_alloc (o := .cells #[.int .i64 (x : Nat), .int .i64 (y : Nat), .int .i64 v] 89) q1
          have q4 := keep_alloc (o := .cells #[.int .i64 (x : Nat), .int .i64 (y : Nat), .int .i64 v] 89) q2
          have hOA := hown.alloc (o := .cells #[.int .i64 (x : Nat), .int .i64 (y : Nat), .int .i64 v] 89)
          have f3 := hOA.free x
          have f4 := hOA.free y
          have hB2 : Below g w3 (wr.alloc (.cells #[.int .i64 (x : Nat), .int .i64 (y : Nat), .int .i64 v] 89)) := hbel.alloc (by omega) _
          go_wp2_with fail
          clear k1 k2 k3 hbelF
          refine wp_region_held_drew (S := fun w' => w'.cell? ⟨wr.heap.size, 0, none⟩ = some (.int .i64 (x : Nat)) ∧ w'.cell? ⟨wr.heap.size, 1, none⟩ = some (.int .i64 (y : Nat))) (by kernel_rfl) (by (try dsimp only); (exact keepA)) (fun hHeld => ?_)
          refine take_y 0 67 (v := ?_) rfl ?_ ?_; rotate_left; focus (intro w hSw; (try dsimp only at hSw); go_simp; (try rw [if_neg (by omega)]); (try with_reducible rfl))
          try simp only [Act.put, zp1, zp2, zp3]
          refine take_y 1 68 (v := ?_) rfl ?_ ?_; rotate_left; focus (intro w hSw; (try dsimp only at hSw); go_simp; (try rw [if_neg (by omega)]); (try with_reducible rfl))
          try simp only [Act.put, zp1, zp2, zp3]
          refine take_y 2 69 (v := ?_) rfl ?_ ?_; rotate_left; focus (intro w hSw; (try dsimp only at hSw); go_simp; (try rw [if_neg (by omega)]); (try with_reducible rfl))
          try simp only [Act.put, zp1, zp2, zp3]
          refine take_y 3 70 (v := ?_) rfl ?_ ?_; rotate_left; focus (intro w hSw; (try dsimp only at hSw); go_simp; (try rw [if_neg (by omega)]); (try with_reducible rfl))
          try simp only [Act.put, zp1, zp2, zp3]
          refine take_y 4 71 (v := ?_) rfl ?_ ?_; rotate_left; focus (intro w hSw; (try dsimp only at hSw); go_simp; (try rw [if_neg (by omega)]); (try with_reducible rfl))
          try simp only [Act.put, zp1, zp2, zp3]
          refine take_y 5 72 (v := ?_) rfl ?_ ?_; rotate_left; focus (intro w hSw; (try dsimp only at hSw); go_simp; (try rw [if_neg (by omega)]); (try with_reducible rfl))
          try simp only [Act.put, zp1, zp2, zp3]
          refine take_y 6 73 (v := ?_) rfl ?_ ?_; rotate_left; focus (intro w hSw; (try dsimp only at hSw); go_simp; (try rw [if_neg (by omega)]); (try with_reducible rfl))
          try simp only [Act.put, zp1, zp2, zp3]
          refine wpAnyH_ready (rs := [7]) (by kernel_rfl) (by simp) ?_
          refine AllReadyH.cons rfl (fun K hK => ?_) AllReadyH.nil
          go_simp
          refine hK.out _ _ againA (fun hHeld2 => ?_); clear hHeld hK K; have hHeld := hHeld2; clear hHeld2; (try simp only [Act.put, zp1, zp2, zp3])
          refine take_y 8 74 (v := ?_) rfl ?_ ?_; rotate_left; focus (intro w hSw; (try dsimp only at hSw); go_simp; (try rw [if_neg (by omega)]); (try with_reducible rfl))
          try simp only [Act.put, zp1, zp2, zp3]
          refine wpAnyH_ready (rs := [9]) (by kernel_rfl) (by simp) ?_
          refine AllReadyH.cons rfl (fun K hK => ?_) AllReadyH.nil
          go_simp
          refine hK.out _ _ againA (fun hHeld2 => ?_); clear hHeld hK K; have hHeld := hHeld2; clear hHeld2; (try simp only [Act.put, zp1, zp2, zp3])
          refine wpAnyH_done (by kernel_rfl) ?_ _
          clear hHeld
          go_wp2_with fail
          go_roundw
          case rel =>
           refine ⟨k + 1, by omega, by go_num, HPT.out, ?_, by (exact grownA)⟩
           rw [bcells_congr (g := fun i => (engB cs k i || decide ((x : Int) = i)) || decide ((y : Int) = i)) HST.out, ← bcells_set (fun i => engB cs k i || decide ((x : Int) = i)) hyn, ← bcells_set (engB cs k) hxn]
           (exact ownA)
          case measure => simp [intOf]; omega
         ·
          have HF := Lib.hid (eng_no (O := O) (E := E) (M := M) (ps := ps) HOK.out HC.out (.inr HB2.out))
          go_wp2
          go_returns
          exact ⟨by rw [HF.out]; rfl, by (exact grownA)⟩
        ·
         have HF := Lib.hid (eng_no (O := O) (E := E) (M := M) (ps := ps) HOK.out HC.out (.inl HB1.out))
         go_wp2
         go_returns
         exact ⟨by rw [HF.out]; rfl, by (exact grownA)⟩
      ·
       obtain rfl : k = m := by omega
       have HF : Hid (exB O E M ps cs = true) := (exB_iff _ _ _ _ _).2 ⟨HOK.out, ((enoughB_iff O E M).1 HD1.out).2, (planB_iff ps).1 HD2.out, by rw [HN.out]; exact HLEN.out, PartTo.all (by rw [HM.out]; exact hpt.out)⟩
       have hbelF : Below w.heap.size w wr := hbel3.trans (Below.mono hbel hgle)
       go_wp2
       go_returns
       exact ⟨by rw [HF.out]; rfl, hbelF⟩
   ·
    have HF := Lib.hid (ex_len (E := E) (O := O) (M := M) (ps := ps) (cs := cs) (by rw [HN.out]; exact hlen))
    have hq : ((n : Int) != O * E) = true := by simpa using hlen
    go_wp2
    go_returns
    exact ⟨by rw [HF.out]; rfl, hbel1⟩

end Go.Proofs.YtedadhoneebfnaaGreatDoor
