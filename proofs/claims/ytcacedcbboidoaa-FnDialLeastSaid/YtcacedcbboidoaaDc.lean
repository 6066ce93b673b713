/- Contracts of OftenValid, DialCost (program and reference), slices.Clone at ints; what DialLeast answers. -/
import Derived.Test.YtcacedcbboidoaaHuf
import Derived.Test.YtcacedcbboidoaaNum
import Derived.Test.YtcacedcbboidoaaDrLen
import Derived.Test.YtcacedcbboidoaaStep
import Derived.Lib.SliceRun
import Derived.IntWalk
set_option linter.unusedSimpArgs false
set_option linter.unusedVariables false
namespace Go.Proofs.Ytcacedcbboidoaa
open Go.RowKit

def ofB (z : Int) : Bool := decide (0 ≤ z) && decide (z ≤ 99)
theorem ofB_iff (z : Int) : ofB z = true ↔ 0 ≤ z ∧ z ≤ 99 := by simp [ofB]
def oftB (zs : List Int) : Bool := (decide (2 ≤ zs.length) && decide (zs.length ≤ 10)) && zs.all ofB
theorem oftB_mem {zs : List Int} (h : oftB zs = true) : 2 ≤ zs.length ∧ zs.length ≤ 10 ∧ ∀ z ∈ zs, 0 ≤ z ∧ z ≤ 99 := by
  simp only [oftB, Bool.and_eq_true, decide_eq_true_eq, List.all_eq_true] at h
  exact ⟨h.1.1, h.1.2, fun z hz => (ofB_iff z).1 (h.2 z hz)⟩
theorem oftB_at {zs : List Int} (h : oftB zs = true) {k : Nat} {z : Int} (hz : zs[k]? = some z) : 0 ≤ z ∧ z ≤ 99 := (oftB_mem h).2.2 z (List.mem_of_getElem? hz)

set_option maxHeartbeats 400000 in
theorem iOften_any (v : Value) (zs : List Int) (w : World) (hv : Rds w v zs.length 1 (ints zs)) :
    Calls Try.prog 99 #[v] w fun e w' => e = .returned (.bool (oftB zs)) ∧ w = w' := by
  obtain ⟨a, ca, rfl, hl1, hm1, hn1, hc1⟩ := hv.open1
  unfold maxLen at hm1
  clear hl1 hv
  obtain ⟨n, hn⟩ : ∃ n, zs.length = n := ⟨_, rfl⟩
  rw [hn] at hm1 hn1 hc1 ⊢
  have HN := Lib.hid hn
  clear hn
  by_cases h2 : 2 ≤ n
  · by_cases h10 : n ≤ 10
    · go_enter Try.func99, Try.ntmps99
      go_wp2_with fail
      go_loop [15] (fun i => ∃ k : Nat, k ≤ n ∧ i = .int .i64 k ∧ Hid ((zs.take k).all ofB = true)) (fun i => n - (intOf i).toNat)
      case atStart => exact ⟨0, by omega, rfl, rfl⟩
      case round =>
        obtain ⟨k, hk, rfl, hall⟩ := hrel
        by_cases hkn : k < n
        · rcases hc1 with hc1 | ⟨b1, o1, rfl, hb1, hc1⟩
          · omega
          obtain ⟨z, hz⟩ : ∃ z, zs[k]? = some z := ⟨_, List.getElem?_eq_getElem (by rw [HN.out]; omega)⟩
          have g1 := hc1 k hkn
          rw [ints_at _ _ _ hz] at g1
          have HZ := Lib.hid hz
          clear hc1 hz
          by_cases hb : 0 ≤ z ∧ z ≤ 99
          · obtain ⟨q1, q2⟩ := hb
            go_wp2_with fail
            go_round
            case rel => exact ⟨k + 1, by omega, by go_num, by unfold Hid; rw [all_step ofB zs k z HZ.out, hall.out, (ofB_iff z).2 ⟨q1, q2⟩]; rfl⟩
            case measure => simp [intOf]; omega
          · have hno : ofB z = false := by rw [Bool.eq_false_iff]; exact fun h => hb ((ofB_iff z).1 h)
            have HF : Hid (oftB zs = false) := by simp [Hid, oftB, all_no ofB zs k z HZ.out hno]
            clear hno
            by_cases q1 : 0 ≤ z
            · have q2 : ¬ z ≤ 99 := fun h => hb ⟨q1, h⟩
              clear hb
              go_wp2
              go_returns
              exact ⟨by rw [HF.out]; rfl, rfl⟩
            · clear hb
              go_wp2
              go_returns
              exact ⟨by rw [HF.out]; rfl, rfl⟩
        · obtain rfl : k = n := by omega
          have h1 := hall.out
          rw [List.take_of_length_le (by rw [HN.out]; omega)] at h1
          have HF : Hid (oftB zs = true) := by simp [Hid, oftB, HN.out, h1, h10, h2]
          clear h1
          go_wp2
          go_returns
          exact ⟨by rw [HF.out]; rfl, rfl⟩
    · have HF : Hid (oftB zs = false) := by simp [Hid, oftB, HN.out, h10]
      go_enter Try.func99, Try.ntmps99
      go_wp2
      go_returns
      exact ⟨by rw [HF.out]; rfl, rfl⟩
  · have HF : Hid (oftB zs = false) := by simp [Hid, oftB, HN.out, h2]
    go_enter Try.func99, Try.ntmps99
    go_wp2
    go_returns
    exact ⟨by rw [HF.out]; rfl, rfl⟩

set_option maxHeartbeats 400000 in
theorem sOften_any (v : Value) (zs : List Int) (w : World) (hv : Rds w v zs.length 1 (ints zs)) :
    Calls Try.prog 98 #[v] w fun e w' => e = .returned (.bool (oftB zs)) ∧ w = w' := by
  obtain ⟨a, ca, rfl, hl1, hm1, hn1, hc1⟩ := hv.open1
  unfold maxLen at hm1
  clear hl1 hv
  obtain ⟨n, hn⟩ : ∃ n, zs.length = n := ⟨_, rfl⟩
  rw [hn] at hm1 hn1 hc1 ⊢
  have HN := Lib.hid hn
  clear hn
  go_enter Try.func98, Try.ntmps98
  go_wp2_with fail
  go_loop [3] (fun i => ∃ k : Nat, k ≤ n ∧ i = .int .i64 k ∧ Hid ((zs.take k).all ofB = true)) (fun i => n - (intOf i).toNat)
  case atStart => exact ⟨0, by omega, rfl, rfl⟩
  case round =>
    obtain ⟨k, hk, rfl, hall⟩ := hrel
    by_cases hkn : k < n
    · rcases hc1 with hc1 | ⟨b1, o1, rfl, hb1, hc1⟩
      · omega
      obtain ⟨z, hz⟩ : ∃ z, zs[k]? = some z := ⟨_, List.getElem?_eq_getElem (by rw [HN.out]; omega)⟩
      have g1 := hc1 k hkn
      rw [ints_at _ _ _ hz] at g1
      have HZ := Lib.hid hz
      clear hc1 hz
      go_wp2_with fail
      refine (sIn_any _ _ _ _).mono ?_
      rintro e w1 ⟨rfl, rfl⟩
      rw [show (decide (0 ≤ z) && decide (z ≤ 99)) = ofB z from rfl]
      obtain ⟨o, ho⟩ : ∃ o, ofB z = o := ⟨_, rfl⟩
      have HO := Lib.hid ho
      rw [ho]
      clear ho
      cases o
      · have HF : Hid (oftB zs = false) := by simp [Hid, oftB, all_no ofB zs k z HZ.out HO.out]
        go_wp2
        go_returns
        exact ⟨by rw [HF.out]; rfl, rfl⟩
      · go_wp2_with fail
        go_round
        case rel => exact ⟨k + 1, by omega, by go_num, by unfold Hid; rw [all_step ofB zs k z HZ.out, hall.out, HO.out]; rfl⟩
        case measure => simp [intOf]; omega
    · obtain rfl : k = n := by omega
      have h1 := hall.out
      rw [List.take_of_length_le (by rw [HN.out]; omega)] at h1
      have HF : Hid (oftB zs = (decide ((2 : Int) ≤ (k : Int)) && decide ((k : Int) ≤ 10))) := by
        unfold Hid
        rw [oftB, h1, Bool.and_true, HN.out, Bool.eq_iff_iff]
        simp only [Bool.and_eq_true, decide_eq_true_eq]
        omega
      clear h1
      go_wp2_with fail
      refine (sIn_any _ _ _ _).mono ?_
      rintro e w1 ⟨rfl, rfl⟩
      rw [← HF.out]
      go_wp2
      go_returns
      exact ⟨rfl, rfl⟩

def costB (xs ls : List Int) : Bool := (oftB xs && lensB ls) && decide (xs.length = ls.length)
def costR (xs ls : List Int) : Int := if costB xs ls = true then costZ xs ls else -1
theorem costZ_step : ∀ (xs ls : List Int) (k : Nat) (x l : Int), xs[k]? = some x → ls[k]? = some l → costZ (xs.take (k + 1)) (ls.take (k + 1)) = costZ (xs.take k) (ls.take k) + x * l := by
  intro xs
  induction xs with
  | nil => intro ls k x l h; simp at h
  | cons y xs ih =>
    intro ls k x l hx hl
    cases ls with
    | nil => simp at hl
    | cons m ls =>
      cases k with
      | zero => simp at hx hl; subst hx hl; simp [costZ]
      | succ k =>
        have := ih ls k x l (by simpa using hx) (by simpa using hl)
        simp only [List.take_succ_cons, costZ, this]
        omega

set_option maxHeartbeats 1000000 in
theorem iDialCost_any (v u : Value) (xs ls : List Int) (w : World) (hv : Rds w v xs.length 1 (ints xs)) (hu : Rds w u ls.length 1 (ints ls)) :
    Calls Try.prog 73 #[v, u] w fun e w' => e = .returned (.int .i64 (costR xs ls)) ∧ ∃ q, w' = w.drewN q := by
  have HV := Lib.hid hv
  have HU := Lib.hid hu
  obtain ⟨a, ca, rfl, hl1, hm1, hn1, hc1⟩ := hv.open1
  obtain ⟨b, cb, rfl, hl2, hm2, hn2, hc2⟩ := hu.open1
  unfold maxLen at hm1 hm2
  clear hl1 hl2 hv hu
  go_enter Try.func73, Try.ntmps73
  go_wp2_with fail
  refine (iOften_any _ xs _ HV.out).mono ?_
  rintro e w1 ⟨rfl, rfl⟩
  obtain ⟨o, ho⟩ : ∃ o, oftB xs = o := ⟨_, rfl⟩
  have HO := Lib.hid ho
  rw [ho]
  clear ho
  cases o
  · have HR : Hid (costR xs ls = -1) := by simp [Hid, costR, costB, HO.out]
    go_wp2
    go_returns
    exact ⟨by rw [HR.out]; rfl, 0, rfl⟩
  · go_wp2_with fail
    refine (iLengthsValid_any _ ls _ HU.out).mono ?_
    rintro e w1 ⟨rfl, rfl⟩
    obtain ⟨o, ho⟩ : ∃ o, lensB ls = o := ⟨_, rfl⟩
    have HL := Lib.hid ho
    rw [ho]
    clear ho
    cases o
    · have HR : Hid (costR xs ls = -1) := by simp [Hid, costR, costB, HL.out]
      go_wp2
      go_returns
      exact ⟨by rw [HR.out]; rfl, 0, rfl⟩
    · obtain ⟨n, hn⟩ : ∃ n, xs.length = n := ⟨_, rfl⟩
      obtain ⟨m, hm⟩ : ∃ m, ls.length = m := ⟨_, rfl⟩
      have HN := Lib.hid hn
      have HM := Lib.hid hm
      have h10 := (oftB_mem HO.out).2.1
      rw [hn] at h10 hm1 hn1 hc1 ⊢
      rw [hm] at hm2 hn2 hc2 ⊢
      by_cases hnm : n = m
      · subst hnm
        have hne : ((n : Int) != (n : Int)) = false := by simp
        have HR : Hid (costR xs ls = costZ xs ls) := by simp [Hid, costR, costB, HO.out, HL.out, HN.out, HM.out]
        clear hn hm
        go_wp2_with fail
        go_loopw [5, 25] (fun s i wr => ∃ (k q : Nat) (x : Int), k ≤ n ∧ i = .int .i64 k ∧ s = .int .i64 x ∧ 0 ≤ x ∧ x ≤ 400 * k ∧ Hid (x = costZ (xs.take k) (ls.take k)) ∧ wr = w.drewN q) (fun _ i _ => n - (intOf i).toNat)
        case atStart => exact ⟨0, 0, 0, by omega, rfl, rfl, by omega, by omega, by simp [Hid, costZ], rfl⟩
        case round =>
          obtain ⟨k, q, x, hk, rfl, rfl, hx0, hx1, hx, rfl⟩ := hrel
          by_cases hkn : k < n
          · rcases hc1 with hc1 | ⟨b1, o1, rfl, hb1, hc1⟩
            · omega
            rcases hc2 with hc2 | ⟨b2, o2, rfl, hb2, hc2⟩
            · omega
            obtain ⟨y, hy⟩ : ∃ y, xs[k]? = some y := ⟨_, List.getElem?_eq_getElem (by rw [HN.out]; omega)⟩
            obtain ⟨l, hl⟩ : ∃ l, ls[k]? = some l := ⟨_, List.getElem?_eq_getElem (by rw [HM.out]; omega)⟩
            have g1 := hc1 k hkn
            have g2 := hc2 k hkn
            rw [ints_at _ _ _ hy] at g1
            rw [ints_at _ _ _ hl] at g2
            obtain ⟨y0, y1⟩ := oftB_at HO.out hy
            obtain ⟨l0, l1⟩ := lensB_at HL.out k l hl
            have HST := Lib.hid (costZ_step xs ls k y l hy hl)
            have hm0 : 0 ≤ y * l := Int.mul_nonneg y0 (by omega)
            have hm1 : y * l ≤ 99 * 3 := Int.le_trans (Int.mul_le_mul_of_nonneg_right y1 (by omega)) (Int.mul_le_mul_of_nonneg_left l1 (by omega))
            have hwm : IntKind.i64.wrap (y * l) = y * l := IntWalk.i64_in _ (by omega)
            have hwa : IntKind.i64.wrap (x + y * l) = x + y * l := IntWalk.i64_in _ (by omega)
            clear hc1 hc2 hy hl
            go_wp2_with fail
            go_roundw
            case rel => exact ⟨k + 1, _, x + y * l, by omega, by go_num, rfl, by omega, by omega, by unfold Hid; rw [HST.out, hx.out], rfl⟩
            case measure => simp [intOf]; omega
          · obtain rfl : k = n := by omega
            have hf := hx.out
            rw [List.take_of_length_le (by rw [HN.out]; omega), List.take_of_length_le (by rw [HM.out]; omega)] at hf
            have HF := Lib.hid hf
            clear hf
            go_wp2
            go_returns
            exact ⟨by rw [HR.out, ← HF.out]; rfl, _, rfl⟩
      · have hne : ((n : Int) != (m : Int)) = true := by simp; omega
        have HR : Hid (costR xs ls = -1) := by simp [Hid, costR, costB, HN.out, HM.out, hnm]
        clear hn hm hnm
        go_wp2
        go_returns
        exact ⟨by rw [HR.out]; rfl, 0, rfl⟩

set_option maxHeartbeats 1000000 in
theorem sDialCost_any (v u : Value) (xs ls : List Int) (w : World) (hv : Rds w v xs.length 1 (ints xs)) (hu : Rds w u ls.length 1 (ints ls)) :
    Calls Try.prog 74 #[v, u] w fun e w' => e = .returned (.int .i64 (costR xs ls)) ∧ ∃ q, w' = w.drewN q := by
  have HV := Lib.hid hv
  have HU := Lib.hid hu
  obtain ⟨a, ca, rfl, hl1, hm1, hn1, hc1⟩ := hv.open1
  obtain ⟨b, cb, rfl, hl2, hm2, hn2, hc2⟩ := hu.open1
  unfold maxLen at hm1 hm2
  clear hl1 hl2 hv hu
  go_enter Try.func74, Try.ntmps74
  go_wp2_with fail
  refine (sOften_any _ xs _ HV.out).mono ?_
  rintro e w1 ⟨rfl, rfl⟩
  obtain ⟨o, ho⟩ : ∃ o, oftB xs = o := ⟨_, rfl⟩
  have HO := Lib.hid ho
  rw [ho]
  clear ho
  cases o
  · have HR : Hid (costR xs ls = -1) := by simp [Hid, costR, costB, HO.out]
    go_wp2
    go_returns
    exact ⟨by rw [HR.out]; rfl, 0, rfl⟩
  · go_wp2_with fail
    refine (sLengthsValid_any _ ls _ HU.out).mono ?_
    rintro e w1 ⟨rfl, rfl⟩
    obtain ⟨o, ho⟩ : ∃ o, lensB ls = o := ⟨_, rfl⟩
    have HL := Lib.hid ho
    rw [ho]
    clear ho
    cases o
    · have HR : Hid (costR xs ls = -1) := by simp [Hid, costR, costB, HL.out]
      go_wp2
      go_returns
      exact ⟨by rw [HR.out]; rfl, 0, rfl⟩
    · obtain ⟨n, hn⟩ : ∃ n, xs.length = n := ⟨_, rfl⟩
      obtain ⟨m, hm⟩ : ∃ m, ls.length = m := ⟨_, rfl⟩
      have HN := Lib.hid hn
      have HM := Lib.hid hm
      have h10 := (oftB_mem HO.out).2.1
      rw [hn] at h10 hm1 hn1 hc1 ⊢
      rw [hm] at hm2 hn2 hc2 ⊢
      by_cases hnm : n = m
      · subst hnm
        have hne : ((n : Int) != (n : Int)) = false := by simp
        have HR : Hid (costR xs ls = costZ xs ls) := by simp [Hid, costR, costB, HO.out, HL.out, HN.out, HM.out]
        clear hn hm
        go_wp2_with fail
        go_loopw [5, 6] (fun s i wr => ∃ (k q : Nat) (x : Int), k ≤ n ∧ i = .int .i64 k ∧ s = .int .i64 x ∧ 0 ≤ x ∧ x ≤ 400 * k ∧ Hid (x = costZ (xs.take k) (ls.take k)) ∧ wr = w.drewN q) (fun _ i _ => n - (intOf i).toNat)
        case atStart => exact ⟨0, 0, 0, by omega, rfl, rfl, by omega, by omega, by simp [Hid, costZ], rfl⟩
        case round =>
          obtain ⟨k, q, x, hk, rfl, rfl, hx0, hx1, hx, rfl⟩ := hrel
          by_cases hkn : k < n
          · rcases hc1 with hc1 | ⟨b1, o1, rfl, hb1, hc1⟩
            · omega
            rcases hc2 with hc2 | ⟨b2, o2, rfl, hb2, hc2⟩
            · omega
            obtain ⟨y, hy⟩ : ∃ y, xs[k]? = some y := ⟨_, List.getElem?_eq_getElem (by rw [HN.out]; omega)⟩
            obtain ⟨l, hl⟩ : ∃ l, ls[k]? = some l := ⟨_, List.getElem?_eq_getElem (by rw [HM.out]; omega)⟩
            have g1 := hc1 k hkn
            have g2 := hc2 k hkn
            rw [ints_at _ _ _ hy] at g1
            rw [ints_at _ _ _ hl] at g2
            obtain ⟨y0, y1⟩ := oftB_at HO.out hy
            obtain ⟨l0, l1⟩ := lensB_at HL.out k l hl
            have HST := Lib.hid (costZ_step xs ls k y l hy hl)
            have hm0 : 0 ≤ y * l := Int.mul_nonneg y0 (by omega)
            have hm1 : y * l ≤ 99 * 3 := Int.le_trans (Int.mul_le_mul_of_nonneg_right y1 (by omega)) (Int.mul_le_mul_of_nonneg_left l1 (by omega))
            have hwm : IntKind.i64.wrap (y * l) = y * l := IntWalk.i64_in _ (by omega)
            have hwa : IntKind.i64.wrap (x + y * l) = x + y * l := IntWalk.i64_in _ (by omega)
            clear hc1 hc2 hy hl
            go_wp2_with fail
            go_quiet (fail)
            go_wp2
            go_roundw
            case rel => exact ⟨k + 1, _, x + y * l, by omega, by go_num, rfl, by omega, by omega, by unfold Hid; rw [HST.out, hx.out], rfl⟩
            case measure => simp [intOf]; omega
          · obtain rfl : k = n := by omega
            have hf := hx.out
            rw [List.take_of_length_le (by rw [HN.out]; omega), List.take_of_length_le (by rw [HM.out]; omega)] at hf
            have HF := Lib.hid hf
            clear hf
            go_wp2
            go_returns
            exact ⟨by rw [HR.out, ← HF.out]; rfl, _, rfl⟩
      · have hne : ((m : Int) != (n : Int)) = true := by simp; omega
        have HR : Hid (costR xs ls = -1) := by simp [Hid, costR, costB, HN.out, HM.out, hnm]
        clear hn hm hnm
        go_wp2
        go_returns
        exact ⟨by rw [HR.out]; rfl, 0, rfl⟩

/-- What DialLeast answers. -/
def LeastV (zs : List Int) (t : Int) : Prop := (oftB zs = false → t = -1) ∧ (oftB zs = true → Huf zs t ∧ 0 ≤ t ∧ t ≤ 100000)
theorem LeastV.unique {zs : List Int} {t u : Int} (h : LeastV zs t) (h' : LeastV zs u) : t = u := by
  cases ho : oftB zs with
  | false => rw [h.1 ho, h'.1 ho]
  | true => exact Huf.unique (fun z hz => ((oftB_mem ho).2.2 z hz).1) (h.2 ho).1 (h'.2 ho).1
def LeastOut (zs : List Int) (w : World) (e : Ending) (w' : World) : Prop := ∃ t : Int, e = .returned (.int .i64 t) ∧ LeastV zs t ∧ Below w.heap.size w w'

/-- Four that are joined. -/
theorem hr_round {P zs four rest : List Int} {s : Int} (inv : ∀ t, HR zs t → HR P (s + t)) (hp : zs.Perm (four ++ rest)) (h4 : four.length = 4) (hm : ∀ x ∈ four, ∀ y ∈ rest, x ≤ y) : ∀ t, HR (rest ++ [isum four]) t → HR P (s + isum four + t) := by
  intro t ht
  have h1 : HR (isum four :: rest) t := ht.perm (List.perm_append_singleton _ _)
  have := inv _ (HR.step hp h4 hm h1)
  rw [Int.add_assoc]; exact this
theorem isum_nonneg {xs : List Int} (h : ∀ x ∈ xs, 0 ≤ x) : 0 ≤ isum xs := by
  induction xs with
  | nil => simp [isum]
  | cons x xs ih =>
    have h1 := h x (by simp)
    have h2 := ih (fun y hy => h y (by simp [hy]))
    simp only [isum]; omega
theorem isum_bound {xs : List Int} (h : ∀ x ∈ xs, 0 ≤ x ∧ x ≤ 99) : isum xs ≤ 99 * xs.length := by
  induction xs with
  | nil => simp [isum]
  | cons x xs ih =>
    have h1 := h x (by simp)
    have h2 := ih (fun y hy => h y (by simp [hy]))
    simp only [isum, List.length_cons]; omega
theorem isum_step (xs : List Int) (k : Nat) (x : Int) (h : xs[k]? = some x) : isum (xs.take (k + 1)) = isum (xs.take k) + x := by
  rw [List.take_add_one, h, isum_app]; simp [isum]

set_option maxRecDepth 100000 in
set_option maxHeartbeats 400000 in
theorem cloneInt_any (v : Value) (zs : List Int) (w : World) (hv : Rds w v zs.length 1 (ints zs)) (h0 : 0 < zs.length) (hl : zs.length ≤ 100000) :
    Calls Try.prog 100 #[v] w fun e w' => ∃ v', e = .returned v' ∧ w'.ownsRow w.heap.size 3 1 v' zs.length (ints zs) ∧ Below w.heap.size w w' := by
  obtain ⟨i0, hi, hz0, hz1, hz2⟩ := info_parts infoI
  have heq : ∀ (w : World) (a : Option Addr) (n c : Nat), (binOp .eql 23 (.slice a n c) (.slice none 0 0)).run Try.prog w = .ok (.bool a.isNone) w := fun w a n c => Lib.run_eql_slice_nil w _ 3 a n c 0 0 Try.underlying23
  obtain ⟨a, c, rfl, hl1, hm1, hn1, hc1⟩ := hv.open1
  obtain ⟨n, hn⟩ : ∃ n, zs.length = n := ⟨_, rfl⟩
  have HN := Lib.hid hn
  rw [hn] at hl h0 hm1 hn1 hc1 ⊢
  rcases hc1 with hc1 | ⟨b, off, rfl, hb, hc1⟩
  · omega
  have HC := Lib.hid hc1
  clear hl1 hc1 hn hv
  go_enter Try.func100, Try.ntmps100
  go_wp2_with (at_builtin; refine wpList_append_own _ rfl _ _ 23 rfl w.heap.size 3 i0 _ 1 8 Try.underlying23 hi hz0 hz1 hz2 rfl (by decide) _ 0 [] rfl (World.ownsRow_lit _ #[] 0 (Nat.le_refl _) (by unfold maxLen; omega) rfl) ⟨b, off, none⟩ n _ (ints zs) rfl (by rw [ints_len, HN.out, Nat.mul_one]) (by intro j u hu; rw [Addr.add_spot]; refine keep_alloc ?_; have hj := (List.getElem?_eq_some_iff.1 hu).1; rw [ints_len, HN.out] at hj; rw [HC.out j hj]; exact hu) (by intro u hu; obtain ⟨q, _, rfl⟩ := List.mem_map.1 hu; rfl) (by unfold maxLen; omega) (by omega) (by simp) ?_; intro v' w3 hown' hgrow _)
  simp only [Nat.zero_add, List.nil_append] at hown'
  have hB : Below w.heap.size w w3 := ((Below.refl w.heap.size w).alloc (Nat.le_refl _) _).grown hgrow (by simp) (by intro k hk; have e : w.heap.size = k := Option.some.inj hk; omega)
  clear hgrow
  go_returns
  exact ⟨_, rfl, hown', hB⟩

end Go.Proofs.Ytcacedcbboidoaa
