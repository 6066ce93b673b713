/- Contracts of readNumber (program) and l1Read (reference). -/
import Derived.Test.YtedadhoneebfnaaDoorCu
import Derived.Test.YtedadhoneebfnaaDoorIn
set_option linter.unusedSimpArgs false
set_option linter.unusedVariables false
namespace Go.Proofs.YtedadhoneebfnaaDoor
open Go.RowKit

theorem tl_at (s : ByteArray) (k : Nat) (h : k < s.size) : (tl s)[k]? = some s[k] := by
  rw [List.getElem?_eq_getElem (by simpa using h)]; rfl
/-- What is read of the first k digits. -/
def valTo (l : List UInt8) (k : Nat) : Int := valL (l.take k)
theorem valTo_step {l : List UInt8} {k : Nat} {c : UInt8} (h : l[k]? = some c) : valTo l (k + 1) = 10 * valTo l k + ((c.toNat : Int) - 48) := by
  obtain ⟨hk, rfl⟩ := List.getElem?_eq_some_iff.1 h
  unfold valTo valL
  rw [List.take_succ_eq_append_getElem hk, List.foldl_append]; rfl
theorem valTo_bd {l : List UInt8} {k : Nat} (hk : k ≤ 4) (h : (l.take k).all dgB = true) : 0 ≤ valTo l k ∧ valTo l k ≤ 9999 := by
  have key : ∀ k, k ≤ 4 → (l.take k).all dgB = true → 0 ≤ valTo l k ∧ valTo l k < 10 ^ k := by
    intro k
    induction k with
    | zero => intro _ _; simp [valTo, valL]
    | succ k ih =>
      intro hk h
      by_cases hl : k < l.length
      · have hc : l[k]? = some l[k] := List.getElem?_eq_getElem hl
        rw [List.take_succ_eq_append_getElem hl, List.all_append] at h
        simp only [Bool.and_eq_true, List.all_cons, List.all_nil, Bool.and_true] at h
        obtain ⟨h1, h2⟩ := ih (by omega) h.1
        have hd := h.2
        simp only [dgB, Bool.and_eq_true, decide_eq_true_eq] at hd
        rw [valTo_step hc, Int.pow_succ]
        omega
      · have : l.take (k + 1) = l.take k := by rw [List.take_of_length_le (by omega), List.take_of_length_le (by omega)]
        have h2 := ih (by omega) (by rw [← this]; exact h)
        have e : valTo l (k + 1) = valTo l k := by unfold valTo; rw [this]
        rw [e, Int.pow_succ]
        have : (0 : Int) < 10 ^ k := Int.pow_pos (by omega)
        omega
  obtain ⟨h1, h2⟩ := key k hk h
  refine ⟨h1, ?_⟩
  have : k = 0 ∨ k = 1 ∨ k = 2 ∨ k = 3 ∨ k = 4 := by omega
  rcases this with rfl | rfl | rfl | rfl | rfl <;> simp at h2 <;> omega
theorem read_len {l : List UInt8} {m : Nat} (h : l.length < 1 ∨ m < l.length) : readL m l = none := by
  unfold readL; rw [if_pos]; rcases h with h | h; exact .inl h; exact .inr (.inl h)
theorem read_zero {l : List UInt8} {m : Nat} (h : 1 < l.length) (h0 : l[0]? = some 48) : readL m l = none := by
  unfold readL; rw [if_pos]; exact .inr (.inr ⟨h, h0⟩)
theorem read_bad {l : List UInt8} {m k : Nat} {c : UInt8} (hc : l[k]? = some c) (h : dgB c = false) : readL m l = none := by
  unfold readL
  split
  · rfl
  · rw [if_neg]
    intro ha
    have := List.all_eq_true.1 ha c (List.mem_of_getElem? hc)
    rw [h] at this; cases this
theorem read_good {l : List UInt8} {m : Nat} (h1 : 1 ≤ l.length) (h2 : l.length ≤ m) (h3 : ¬ (1 < l.length ∧ l[0]? = some 48)) (h : l.all dgB = true) : readL m l = some (valL l) := by
  unfold readL
  rw [if_neg (by simp only [not_or]; exact ⟨by omega, by omega, h3⟩), if_pos h]
theorem all_snoc {l : List UInt8} {k : Nat} {c : UInt8} (hc : l[k]? = some c) (h : (l.take k).all dgB = true) (hd : dgB c = true) : (l.take (k + 1)).all dgB = true := by
  obtain ⟨hk, rfl⟩ := List.getElem?_eq_some_iff.1 hc
  rw [List.take_succ_eq_append_getElem hk, List.all_append, h]; simp [hd]

def RnPost (m : Nat) (s : ByteArray) (w : World) (e : Ending) (w' : World) : Prop := e = .returned (.tuple #[.int .i64 ((readL m (tl s)).getD 0), .bool (readL m (tl s)).isSome]) ∧ w = w'
theorem rn_none {m : Nat} {s : ByteArray} (h : readL m (tl s) = none) (w : World) : RnPost m s w (.returned (.tuple #[.int .i64 0, .bool false])) w := by
  unfold RnPost; rw [h]; exact ⟨rfl, rfl⟩

set_option maxRecDepth 100000 in
set_option maxHeartbeats 2000000 in
theorem readNumber_any (s : ByteArray) (m : Nat) (hm : m ≤ 4) (w : World) (hs : s.size ≤ maxLen) :
    Calls Tryd.prog 42 #[.string s, .int .i64 m] w (RnPost m s w) := by
  have HZ := Lib.hid (tl_size s)
  unfold maxLen at hs
  by_cases h0 : s.size < 1
  · have HF := Lib.hid (read_len (m := m) (l := tl s) (.inl (by rw [HZ.out]; exact h0)))
    have hd1 : decide ((s.size : Int) < 1) = true := by simp; omega
    have hd4 : decide ((1 : Int) ≤ (s.size : Int)) = false := by simp; omega
    go_enter Tryd.func42, Tryd.ntmps42
    go_wp2
    go_returns
    exact rn_none HF.out _
  by_cases h1 : m < s.size
  · have HF := Lib.hid (read_len (m := m) (l := tl s) (.inr (by rw [HZ.out]; exact h1)))
    have hd1 : decide ((s.size : Int) < 1) = false := by simp; omega
    have hd4 : decide ((1 : Int) ≤ (s.size : Int)) = true := by simp; omega
    go_enter Tryd.func42, Tryd.ntmps42
    go_wp2
    go_returns
    exact rn_none HF.out _
  have hd1 : decide ((s.size : Int) < 1) = false := by simp; omega
  have hd4 : decide ((1 : Int) ≤ (s.size : Int)) = true := by simp; omega
  have hc0 := tl_at s 0 (by omega)
  by_cases h2 : 1 < s.size ∧ s[0] = 48
  · have HF := Lib.hid (read_zero (m := m) (l := tl s) (by rw [HZ.out]; exact h2.1) (by rw [hc0, h2.2]))
    obtain ⟨h3, h4⟩ := h2
    have h5 : (((s[0]'(by omega)).toNat : Int) == 48) = true := by rw [h4]; rfl
    have h6 : (1 : Int) < (s.size : Int) := by omega
    clear hc0 h4
    go_enter Tryd.func42, Tryd.ntmps42
    go_wp2
    go_returns
    exact rn_none HF.out _
  have HNZ : Hid (¬ (1 < (tl s).length ∧ (tl s)[0]? = some 48)) := by
    rintro ⟨h3, h4⟩
    rw [hc0] at h4
    exact h2 ⟨by rw [← HZ.out]; exact h3, Option.some.inj h4⟩
  have hz1 : 1 < s.size → (((s[0]'(by omega)).toNat : Int) == 48) = false := by
    intro h3
    have h4 : ¬ s[0]'(by omega) = 48 := fun e => h2 ⟨h3, e⟩
    simp only [beq_eq_false_iff_ne, ne_eq]
    intro e
    exact h4 (UInt8.toNat_inj.1 (by show _ = 48; omega))
  clear hc0 h2
  have hsz : s.size = 1 ∨ 1 < s.size := by omega
  rcases hsz with hsz | hsz
  · have hz2 : ¬ (1 : Int) < (s.size : Int) := by omega
    have hz9 : decide ((1 : Int) < (s.size : Int)) = false := by simpa using hz2
    clear hz1 hsz
    go_enter Tryd.func42, Tryd.ntmps42
    go_wp2_with fail
    go_loop [6, 29] (fun nu i => ∃ k : Nat, k ≤ s.size ∧ i = .int .i64 k ∧ nu = .int .i64 (valTo (tl s) k) ∧ Hid (((tl s).take k).all dgB = true)) (fun _ i => s.size - (intOf i).toNat)
    case atStart => exact ⟨0, by omega, rfl, rfl, rfl⟩
    case round =>
      obtain ⟨k, hk, rfl, rfl, hall⟩ := hrel
      by_cases hkn : k < s.size
      · have HC := Lib.hid (tl_at s k hkn)
        have hbd := valTo_bd (l := tl s) (k := k) (by omega) hall.out
        obtain ⟨x, hx⟩ : ∃ x, valTo (tl s) k = x := ⟨_, rfl⟩
        rw [hx] at hbd ⊢
        have HX := Lib.hid hx
        obtain ⟨hx0, hx1⟩ := hbd
        clear hx
        by_cases hb : 48 ≤ (s[k].toNat : Int) ∧ (s[k].toNat : Int) ≤ 57
        · obtain ⟨q1, q2⟩ := hb
          have q3 : (s[k].toNat : Int) < 58 := by omega
          have hd : dgB s[k] = true := by simp only [dgB, q1, q2, decide_true, Bool.and_self]
          have HST := Lib.hid (all_snoc HC.out hall.out hd)
          have HVS := Lib.hid (valTo_step HC.out)
          have hs5 : IntKind.u8.wrap ((s[k].toNat : Int) - 48) = (s[k].toNat : Int) - 48 := by
            rw [show ((s[k].toNat : Int) - 48) = (((s[k].toNat - 48 : Nat)) : Int) by omega]; exact IntWalk.u8_in _ (by omega)
          clear hd
          go_wp2_with fail
          go_round
          case rel => exact ⟨k + 1, by omega, by go_num, by rw [HVS.out, HX.out], HST.out⟩
          case measure => simp [intOf]; omega
        · have hno : dgB s[k] = false := by simp only [dgB, Bool.and_eq_false_iff, decide_eq_false_iff_not]; omega
          have HF := Lib.hid (read_bad (m := m) HC.out hno)
          clear hno
          by_cases q1 : 48 ≤ (s[k].toNat : Int)
          · have q2 : 58 ≤ (s[k].toNat : Int) := by omega
            clear hb
            go_wp2
            go_returns
            exact rn_none HF.out _
          · clear hb
            go_wp2
            go_returns
            exact rn_none HF.out _
      · obtain rfl : k = s.size := by omega
        have h9 := hall.out
        have HV : Hid (valTo (tl s) s.size = valL (tl s)) := by unfold Hid valTo; rw [List.take_of_length_le (by rw [HZ.out]; omega)]
        rw [List.take_of_length_le (by rw [HZ.out]; omega)] at h9
        have HG := Lib.hid (read_good (m := m) (by rw [HZ.out]; omega) (by rw [HZ.out]; omega) HNZ.out h9)
        clear h9 hall
        rw [HV.out]
        go_wp2
        go_returns
        unfold RnPost; rw [HG.out]; exact ⟨rfl, rfl⟩
  · have hz2 : (1 : Int) < (s.size : Int) := by omega
    have hz9 : decide ((1 : Int) < (s.size : Int)) = true := by simpa using hz2
    have hz3 := hz1 hsz
    clear hz1
    go_enter Tryd.func42, Tryd.ntmps42
    go_wp2_with fail
    go_loop [6, 29] (fun nu i => ∃ k : Nat, k ≤ s.size ∧ i = .int .i64 k ∧ nu = .int .i64 (valTo (tl s) k) ∧ Hid (((tl s).take k).all dgB = true)) (fun _ i => s.size - (intOf i).toNat)
    case atStart => exact ⟨0, by omega, rfl, rfl, rfl⟩
    case round =>
      obtain ⟨k, hk, rfl, rfl, hall⟩ := hrel
      by_cases hkn : k < s.size
      · have HC := Lib.hid (tl_at s k hkn)
        have hbd := valTo_bd (l := tl s) (k := k) (by omega) hall.out
        obtain ⟨x, hx⟩ : ∃ x, valTo (tl s) k = x := ⟨_, rfl⟩
        rw [hx] at hbd ⊢
        have HX := Lib.hid hx
        obtain ⟨hx0, hx1⟩ := hbd
        clear hx
        by_cases hb : 48 ≤ (s[k].toNat : Int) ∧ (s[k].toNat : Int) ≤ 57
        · obtain ⟨q1, q2⟩ := hb
          have q3 : (s[k].toNat : Int) < 58 := by omega
          have hd : dgB s[k] = true := by simp only [dgB, q1, q2, decide_true, Bool.and_self]
          have HST := Lib.hid (all_snoc HC.out hall.out hd)
          have HVS := Lib.hid (valTo_step HC.out)
          have hs5 : IntKind.u8.wrap ((s[k].toNat : Int) - 48) = (s[k].toNat : Int) - 48 := by
            rw [show ((s[k].toNat : Int) - 48) = (((s[k].toNat - 48 : Nat)) : Int) by omega]; exact IntWalk.u8_in _ (by omega)
          clear hd
          go_wp2_with fail
          go_round
          case rel => exact ⟨k + 1, by omega, by go_num, by rw [HVS.out, HX.out], HST.out⟩
          case measure => simp [intOf]; omega
        · have hno : dgB s[k] = false := by simp only [dgB, Bool.and_eq_false_iff, decide_eq_false_iff_not]; omega
          have HF := Lib.hid (read_bad (m := m) HC.out hno)
          clear hno
          by_cases q1 : 48 ≤ (s[k].toNat : Int)
          · have q2 : 58 ≤ (s[k].toNat : Int) := by omega
            clear hb
            go_wp2
            go_returns
            exact rn_none HF.out _
          · clear hb
            go_wp2
            go_returns
            exact rn_none HF.out _
      · obtain rfl : k = s.size := by omega
        have h9 := hall.out
        have HV : Hid (valTo (tl s) s.size = valL (tl s)) := by unfold Hid valTo; rw [List.take_of_length_le (by rw [HZ.out]; omega)]
        rw [List.take_of_length_le (by rw [HZ.out]; omega)] at h9
        have HG := Lib.hid (read_good (m := m) (by rw [HZ.out]; omega) (by rw [HZ.out]; omega) HNZ.out h9)
        clear h9 hall
        rw [HV.out]
        go_wp2
        go_returns
        unfold RnPost; rw [HG.out]; exact ⟨rfl, rfl⟩

set_option maxRecDepth 100000 in
set_option maxHeartbeats 2000000 in
theorem l1Read_any (s : ByteArray) (w : World) (hs : s.size ≤ maxLen) :
    Calls Tryd.prog 40 #[.string s] w (fun e w' => e = .returned (.int .i64 ((readL 4 (tl s)).getD (-1))) ∧ w = w') := by
  have HZ := Lib.hid (tl_size s)
  unfold maxLen at hs
  by_cases h0 : s.size < 1
  · have HF := Lib.hid (read_len (m := 4) (l := tl s) (.inl (by rw [HZ.out]; exact h0)))
    have hd1 : decide ((s.size : Int) < 1) = true := by simp; omega
    have hd4 : decide ((1 : Int) ≤ (s.size : Int)) = false := by simp; omega
    go_enter Tryd.func40, Tryd.ntmps40
    go_wp2_with fail
    refine (sIn_any _ _ _ _).mono ?_
    rintro e w1 ⟨rfl, rfl⟩
    have hd5 : (decide ((1 : Int) ≤ (s.size : Int)) && decide ((s.size : Int) ≤ 4)) = false := by simp; omega
    rw [hd5]
    clear hd5
    go_wp2
    go_returns
    exact ⟨by rw [HF.out]; rfl, rfl⟩
  by_cases h1 : 4 < s.size
  · have HF := Lib.hid (read_len (m := 4) (l := tl s) (.inr (by rw [HZ.out]; exact h1)))
    have hd1 : decide ((s.size : Int) < 1) = false := by simp; omega
    have hd4 : decide ((1 : Int) ≤ (s.size : Int)) = true := by simp; omega
    go_enter Tryd.func40, Tryd.ntmps40
    go_wp2_with fail
    refine (sIn_any _ _ _ _).mono ?_
    rintro e w1 ⟨rfl, rfl⟩
    have hd5 : (decide ((1 : Int) ≤ (s.size : Int)) && decide ((s.size : Int) ≤ 4)) = false := by simp; omega
    rw [hd5]
    clear hd5
    go_wp2
    go_returns
    exact ⟨by rw [HF.out]; rfl, rfl⟩
  have hd1 : decide ((s.size : Int) < 1) = false := by simp; omega
  have hd4 : decide ((1 : Int) ≤ (s.size : Int)) = true := by simp; omega
  have hc0 := tl_at s 0 (by omega)
  by_cases h2 : 1 < s.size ∧ s[0] = 48
  · have HF := Lib.hid (read_zero (m := 4) (l := tl s) (by rw [HZ.out]; exact h2.1) (by rw [hc0, h2.2]))
    obtain ⟨h3, h4⟩ := h2
    have h5 : (((s[0]'(by omega)).toNat : Int) == 48) = true := by rw [h4]; rfl
    have h6 : (1 : Int) < (s.size : Int) := by omega
    clear hc0 h4
    go_enter Tryd.func40, Tryd.ntmps40
    go_wp2_with fail
    refine (sIn_any _ _ _ _).mono ?_
    rintro e w1 ⟨rfl, rfl⟩
    have hd5 : (decide ((1 : Int) ≤ (s.size : Int)) && decide ((s.size : Int) ≤ 4)) = true := by simp; omega
    rw [hd5]
    clear hd5
    go_wp2
    go_returns
    exact ⟨by rw [HF.out]; rfl, rfl⟩
  have HNZ : Hid (¬ (1 < (tl s).length ∧ (tl s)[0]? = some 48)) := by
    rintro ⟨h3, h4⟩
    rw [hc0] at h4
    exact h2 ⟨by rw [← HZ.out]; exact h3, Option.some.inj h4⟩
  have hz1 : 1 < s.size → (((s[0]'(by omega)).toNat : Int) == 48) = false := by
    intro h3
    have h4 : ¬ s[0]'(by omega) = 48 := fun e => h2 ⟨h3, e⟩
    simp only [beq_eq_false_iff_ne, ne_eq]
    intro e
    exact h4 (UInt8.toNat_inj.1 (by show _ = 48; omega))
  clear hc0 h2
  have hsz : s.size = 1 ∨ 1 < s.size := by omega
  rcases hsz with hsz | hsz
  · have hz2 : ¬ (1 : Int) < (s.size : Int) := by omega
    have hz9 : decide ((1 : Int) < (s.size : Int)) = false := by simpa using hz2
    clear hz1 hsz
    go_enter Tryd.func40, Tryd.ntmps40
    go_wp2_with fail
    refine (sIn_any _ _ _ _).mono ?_
    rintro e w1 ⟨rfl, rfl⟩
    have hd5 : (decide ((1 : Int) ≤ (s.size : Int)) && decide ((s.size : Int) ≤ 4)) = true := by simp; omega
    rw [hd5]
    clear hd5
    go_wp2_with fail
    go_loop [3, 4] (fun nu i => ∃ k : Nat, k ≤ s.size ∧ i = .int .i64 k ∧ nu = .int .i64 (valTo (tl s) k) ∧ Hid (((tl s).take k).all dgB = true)) (fun _ i => s.size - (intOf i).toNat)
    case atStart => exact ⟨0, by omega, rfl, rfl, rfl⟩
    case round =>
      obtain ⟨k, hk, rfl, rfl, hall⟩ := hrel
      by_cases hkn : k < s.size
      · have HC := Lib.hid (tl_at s k hkn)
        have hbd := valTo_bd (l := tl s) (k := k) (by omega) hall.out
        obtain ⟨x, hx⟩ : ∃ x, valTo (tl s) k = x := ⟨_, rfl⟩
        rw [hx] at hbd ⊢
        have HX := Lib.hid hx
        obtain ⟨hx0, hx1⟩ := hbd
        clear hx
        by_cases hb : 48 ≤ (s[k].toNat : Int) ∧ (s[k].toNat : Int) ≤ 57
        · obtain ⟨q1, q2⟩ := hb
          have q3 : (s[k].toNat : Int) < 58 := by omega
          have hd : dgB s[k] = true := by simp only [dgB, q1, q2, decide_true, Bool.and_self]
          have HST := Lib.hid (all_snoc HC.out hall.out hd)
          have HVS := Lib.hid (valTo_step HC.out)
          have hs5 : IntKind.u8.wrap ((s[k].toNat : Int) - 48) = (s[k].toNat : Int) - 48 := by
            rw [show ((s[k].toNat : Int) - 48) = (((s[k].toNat - 48 : Nat)) : Int) by omega]; exact IntWalk.u8_in _ (by omega)
          clear hd
          go_wp2_with fail
          go_round
          case rel => exact ⟨k + 1, by omega, by go_num, by rw [HVS.out, HX.out], HST.out⟩
          case measure => simp [intOf]; omega
        · have hno : dgB s[k] = false := by simp only [dgB, Bool.and_eq_false_iff, decide_eq_false_iff_not]; omega
          have HF := Lib.hid (read_bad (m := 4) HC.out hno)
          clear hno
          by_cases q1 : 48 ≤ (s[k].toNat : Int)
          · have q2 : 58 ≤ (s[k].toNat : Int) := by omega
            clear hb
            go_wp2
            go_returns
            exact ⟨by rw [HF.out]; rfl, rfl⟩
          · clear hb
            go_wp2
            go_returns
            exact ⟨by rw [HF.out]; rfl, rfl⟩
      · obtain rfl : k = s.size := by omega
        have h9 := hall.out
        have HV : Hid (valTo (tl s) s.size = valL (tl s)) := by unfold Hid valTo; rw [List.take_of_length_le (by rw [HZ.out]; omega)]
        rw [List.take_of_length_le (by rw [HZ.out]; omega)] at h9
        have HG := Lib.hid (read_good (m := 4) (by rw [HZ.out]; omega) (by rw [HZ.out]; omega) HNZ.out h9)
        clear h9 hall
        rw [HV.out]
        go_wp2
        go_returns
        exact ⟨by rw [HG.out]; rfl, rfl⟩
  · have hz2 : (1 : Int) < (s.size : Int) := by omega
    have hz9 : decide ((1 : Int) < (s.size : Int)) = true := by simpa using hz2
    have hz3 := hz1 hsz
    clear hz1
    go_enter Tryd.func40, Tryd.ntmps40
    go_wp2_with fail
    refine (sIn_any _ _ _ _).mono ?_
    rintro e w1 ⟨rfl, rfl⟩
    have hd5 : (decide ((1 : Int) ≤ (s.size : Int)) && decide ((s.size : Int) ≤ 4)) = true := by simp; omega
    rw [hd5]
    clear hd5
    go_wp2_with fail
    go_loop [3, 4] (fun nu i => ∃ k : Nat, k ≤ s.size ∧ i = .int .i64 k ∧ nu = .int .i64 (valTo (tl s) k) ∧ Hid (((tl s).take k).all dgB = true)) (fun _ i => s.size - (intOf i).toNat)
    case atStart => exact ⟨0, by omega, rfl, rfl, rfl⟩
    case round =>
      obtain ⟨k, hk, rfl, rfl, hall⟩ := hrel
      by_cases hkn : k < s.size
      · have HC := Lib.hid (tl_at s k hkn)
        have hbd := valTo_bd (l := tl s) (k := k) (by omega) hall.out
        obtain ⟨x, hx⟩ : ∃ x, valTo (tl s) k = x := ⟨_, rfl⟩
        rw [hx] at hbd ⊢
        have HX := Lib.hid hx
        obtain ⟨hx0, hx1⟩ := hbd
        clear hx
        by_cases hb : 48 ≤ (s[k].toNat : Int) ∧ (s[k].toNat : Int) ≤ 57
        · obtain ⟨q1, q2⟩ := hb
          have q3 : (s[k].toNat : Int) < 58 := by omega
          have hd : dgB s[k] = true := by simp only [dgB, q1, q2, decide_true, Bool.and_self]
          have HST := Lib.hid (all_snoc HC.out hall.out hd)
          have HVS := Lib.hid (valTo_step HC.out)
          have hs5 : IntKind.u8.wrap ((s[k].toNat : Int) - 48) = (s[k].toNat : Int) - 48 := by
            rw [show ((s[k].toNat : Int) - 48) = (((s[k].toNat - 48 : Nat)) : Int) by omega]; exact IntWalk.u8_in _ (by omega)
          clear hd
          go_wp2_with fail
          go_round
          case rel => exact ⟨k + 1, by omega, by go_num, by rw [HVS.out, HX.out], HST.out⟩
          case measure => simp [intOf]; omega
        · have hno : dgB s[k] = false := by simp only [dgB, Bool.and_eq_false_iff, decide_eq_false_iff_not]; omega
          have HF := Lib.hid (read_bad (m := 4) HC.out hno)
          clear hno
          by_cases q1 : 48 ≤ (s[k].toNat : Int)
          · have q2 : 58 ≤ (s[k].toNat : Int) := by omega
            clear hb
            go_wp2
            go_returns
            exact ⟨by rw [HF.out]; rfl, rfl⟩
          · clear hb
            go_wp2
            go_returns
            exact ⟨by rw [HF.out]; rfl, rfl⟩
      · obtain rfl : k = s.size := by omega
        have h9 := hall.out
        have HV : Hid (valTo (tl s) s.size = valL (tl s)) := by unfold Hid valTo; rw [List.take_of_length_le (by rw [HZ.out]; omega)]
        rw [List.take_of_length_le (by rw [HZ.out]; omega)] at h9
        have HG := Lib.hid (read_good (m := 4) (by rw [HZ.out]; omega) (by rw [HZ.out]; omega) HNZ.out h9)
        clear h9 hall
        rw [HV.out]
        go_wp2
        go_returns
        exact ⟨by rw [HG.out]; rfl, rfl⟩


end Go.Proofs.YtedadhoneebfnaaDoor
