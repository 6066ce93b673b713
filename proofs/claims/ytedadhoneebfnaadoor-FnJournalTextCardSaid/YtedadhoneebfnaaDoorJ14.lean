/- Joined texts: Rn, Ct, Ri. -/
import Derived.Test.YtedadhoneebfnaaDoorJ13
import Derived.Test.YtedadhoneebfnaaDoorJ1
set_option linter.unusedSimpArgs false
set_option linter.unusedVariables false
/- Contracts of readNumber (program) and l1Read (reference). -/
namespace Go.Proofs.YtedadhoneebfnaaDoor
open Go.RowKit

theorem tl_at (s : ByteArray) (k : Nat) (h : k < s.size) : (tl s)[k]? = some s[k] := by
 rw [List.getElem?_eq_getElem (by simpa using h)]; rfl
/-- What is read of the first k digits. -/
def valTo (l : List UInt8) (k : Nat) : Int := valL (l.take k)
theorem valTo_step {l : List UInt8} {k : Nat} {c : UInt8} (h : l[k]? = some c) : valTo l (k + 1) = 10 * valTo l k + ((c.toNat : Int) - 48) := by
 obtain ⟨hk, rfl⟩ := List.getElem?_eq_some_iff.1 h
 unfold valTo valL
 rw [List.take_succ_eq_append_getElem hk, List.foldl_append]; rfl
theorem valTo_bd {l : List UInt8} {k : Nat} (hk : k ≤ 4) (h : (l.take k).all dgB = true) : 0 ≤ valTo l k ∧ valTo l k ≤ 9999 := by
 have key : ∀ k, k ≤ 4 → (l.take k).all dgB = true → 0 ≤ valTo l k ∧ valTo l k < 10 ^ k := by
  intro k
  induction k with
  | zero => intro _ _; simp [valTo, valL]
  | succ k ih =>
   intro hk h
   by_cases hl : k < l.length
   ·
    have hc : l[k]? = some l[k] := List.getElem?_eq_getElem hl
    rw [List.take_succ_eq_append_getElem hl, List.all_append] at h
    simp only [Bool.and_eq_true, List.all_cons, List.all_nil, Bool.and_true] at h
    obtain ⟨h1, h2⟩ := ih (by omega) h.1
    have hd := h.2
    simp only [dgB, Bool.and_eq_true, decide_eq_true_eq] at hd
    rw [valTo_step hc, Int.pow_succ]
    omega
   ·
    have : l.take (k + 1) = l.take k := by rw [List.take_of_length_le (by omega), List.take_of_length_le (by omega)]
    have h2 := ih (by omega) (by rw [← this]; exact h)
    have e : valTo l (k + 1) = valTo l k := by unfold valTo; rw [this]
    rw [e, Int.pow_succ]
    have : (0 : Int) < 10 ^ k := Int.pow_pos (by omega)
    omega
 obtain ⟨h1, h2⟩ := key k hk h
 refine ⟨h1, ?_⟩
 have : k = 0 ∨ k = 1 ∨ k = 2 ∨ k = 3 ∨ k = 4 := by omega
 rcases this with rfl | rfl | rfl | rfl | rfl <;> simp at h2 <;> omega
theorem read_len {l : List UInt8} {m : Nat} (h : l.length < 1 ∨ m < l.length) : readL m l = none := by
 unfold readL; rw [if_pos]; rcases h with h | h; exact .inl h; exact .inr (.inl h)
theorem read_zero {l : List UInt8} {m : Nat} (h : 1 < l.length) (h0 : l[0]? = some 48) : readL m l = none := by
 unfold readL; rw [if_pos]; exact .inr (.inr ⟨h, h0⟩)
theorem read_bad {l : List UInt8} {m k : Nat} {c : UInt8} (hc : l[k]? = some c) (h : dgB c = false) : readL m l = none := by
 unfold readL
 split
 ·
  rfl
 ·
  rw [if_neg]
  intro ha
  have := List.all_eq_true.1 ha c (List.mem_of_getElem? hc)
  rw [h] at this; cases this
theorem read_good {l : List UInt8} {m : Nat} (h1 : 1 ≤ l.length) (h2 : l.length ≤ m) (h3 : ¬ (1 < l.length ∧ l[0]? = some 48)) (h : l.all dgB = true) : readL m l = some (valL l) := by
 unfold readL
 rw [if_neg (by simp only [not_or]; exact ⟨by omega, by omega, h3⟩), if_pos h]
theorem all_snoc {l : List UInt8} {k : Nat} {c : UInt8} (hc : l[k]? = some c) (h : (l.take k).all dgB = true) (hd : dgB c = true) : (l.take (k + 1)).all dgB = true := by
 obtain ⟨hk, rfl⟩ := List.getElem?_eq_some_iff.1 hc
 rw [List.take_succ_eq_append_getElem hk, List.all_append, h]; simp [hd]

def RnPost (m : Nat) (s : ByteArray) (w : World) (e : Ending) (w' : World) : Prop := e = .returned (.tuple #[.int .i64 ((readL m (tl s)).getD 0), .bool (readL m (tl s)).isSome]) ∧ w = w'
theorem rn_none {m : Nat} {s : ByteArray} (h : readL m (tl s) = none) (w : World) : RnPost m s w (.returned (.tuple #[.int .i64 0, .bool false])) w := by
 unfold RnPost; rw [h]; exact ⟨rfl, rfl⟩

set_option maxRecDepth 100000 in
set_option maxHeartbeats 2000000 in
theorem readNumber_any (s : ByteArray) (m : Nat) (hm : m ≤ 4) (w : World) (hs : s.size ≤ maxLen) :
  Calls Tryd.prog 42 #[.string s, .int .i64 m] w (RnPost m s w) := by
 have HZ := Lib.hid (tl_size s)
 unfold maxLen at hs
 by_cases h0 : s.size < 1
 ·
  have HF := Lib.hid (read_len (m := m) (l := tl s) (.inl (by rw [HZ.out]; exact h0)))
  have hd1 : decide ((s.size : Int) < 1) = true := by simp; omega
  have hd4 : decide ((1 : Int) ≤ (s.size : Int)) = false := by simp; omega
  go_enter Tryd.func42, Tryd.ntmps42
  go_wp2
  go_returns
  exact rn_none HF.out _
 by_cases h1 : m < s.size
 ·
  have HF := Lib.hid (read_len (m := m) (l := tl s) (.inr (by rw [HZ.out]; exact h1)))
  have hd1 : decide ((s.size : Int) < 1) = false := by simp; omega
  have hd4 : decide ((1 : Int) ≤ (s.size : Int)) = true := by simp; omega
  go_enter Tryd.func42, Tryd.ntmps42
  go_wp2
  go_returns
  exact rn_none HF.out _
 have hd1 : decide ((s.size : Int) < 1) = false := by simp; omega
 have hd4 : decide ((1 : Int) ≤ (s.size : Int)) = true := by simp; omega
 have hc0 := tl_at s 0 (by omega)
 by_cases h2 : 1 < s.size ∧ s[0] = 48
 ·
  have HF := Lib.hid (read_zero (m := m) (l := tl s) (by rw [HZ.out]; exact h2.1) (by rw [hc0, h2.2]))
  obtain ⟨h3, h4⟩ := h2
  have h5 : (((s[0]'(by omega)).toNat : Int) == 48) = true := by rw [h4]; rfl
  have h6 : (1 : Int) < (s.size : Int) := by omega
  clear hc0 h4
  go_enter Tryd.func42, Tryd.ntmps42
  go_wp2
  go_returns
  exact rn_none HF.out _
 have HNZ : Hid (¬ (1 < (tl s).length ∧ (tl s)[0]? = some 48)) := by
  rintro ⟨h3, h4⟩
  rw [hc0] at h4
  exact h2 ⟨by rw [← HZ.out]; exact h3, Option.some.inj h4⟩
 have hz1 : 1 < s.size → (((s[0]'(by omega)).toNat : Int) == 48) = false := by
  intro h3
  have h4 : ¬ s[0]'(by omega) = 48 := fun e => h2 ⟨h3, e⟩
  simp only [beq_eq_false_iff_ne, ne_eq]
  intro e
  exact h4 (UInt8.toNat_inj.1 (by show _ = 48; omega))
 clear hc0 h2
 have hsz : s.size = 1 ∨ 1 < s.size := by omega
 rcases hsz with hsz | hsz
 ·
  have hz2 : ¬ (1 : Int) < (s.size : Int) := by omega
  have hz9 : decide ((1 : Int) < (s.size : Int)) = false := by simpa using hz2
  clear hz1 hsz
  go_enter Tryd.func42, Tryd.ntmps42
  go_wp2_with fail
  go_loop [6, 29] (fun nu i => ∃ k : Nat, k ≤ s.size ∧ i = .int .i64 k ∧ nu = .int .i64 (valTo (tl s) k) ∧ Hid (((tl s).take k).all dgB = true)) (fun _ i => s.size - (intOf i).toNat)
  case atStart => exact ⟨0, by omega, rfl, rfl, rfl⟩
  case round =>
   obtain ⟨k, hk, rfl, rfl, hall⟩ := hrel
   by_cases hkn : k < s.size
   ·
    have HC := Lib.hid (tl_at s k hkn)
    have hbd := valTo_bd (l := tl s) (k := k) (by omega) hall.out
    obtain ⟨x, hx⟩ : ∃ x, valTo (tl s) k = x := ⟨_, rfl⟩
    rw [hx] at hbd ⊢
    have HX := Lib.hid hx
    obtain ⟨hx0, hx1⟩ := hbd
    clear hx
    by_cases hb : 48 ≤ (s[k].toNat : Int) ∧ (s[k].toNat : Int) ≤ 57
    ·
     obtain ⟨q1, q2⟩ := hb
     have q3 : (s[k].toNat : Int) < 58 := by omega
     have hd : dgB s[k] = true := by simp only [dgB, q1, q2, decide_true, Bool.and_self]
     have HST := Lib.hid (all_snoc HC.out hall.out hd)
     have HVS := Lib.hid (valTo_step HC.out)
     have hs5 : IntKind.u8.wrap ((s[k].toNat : Int) - 48) = (s[k].toNat : Int) - 48 := by
      rw [show ((s[k].toNat : Int) - 48) = (((s[k].toNat - 48 : Nat)) : Int) by omega]; exact IntWalk.u8_in _ (by omega)
     clear hd
     go_wp2_with fail
     go_round
     case rel => exact ⟨k + 1, by omega, by go_num, by rw [HVS.out, HX.out], HST.out⟩
     case measure => simp [intOf]; omega
    ·
     have hno : dgB s[k] = false := by simp only [dgB, Bool.and_eq_false_iff, decide_eq_false_iff_not]; omega
     have HF := Lib.hid (read_bad (m := m) HC.out hno)
     clear hno
     by_cases q1 : 48 ≤ (s[k].toNat : Int)
     ·
      have q2 : 58 ≤ (s[k].toNat : Int) := by omega
      clear hb
      go_wp2
      go_returns
      exact rn_none HF.out _
     ·
      clear hb
      go_wp2
      go_returns
      exact rn_none HF.out _
   ·
    obtain rfl : k = s.size := by omega
    have h9 := hall.out
    have HV : Hid (valTo (tl s) s.size = valL (tl s)) := by unfold Hid valTo; rw [List.take_of_length_le (by rw [HZ.out]; omega)]
    rw [List.take_of_length_le (by rw [HZ.out]; omega)] at h9
    have HG := Lib.hid (read_good (m := m) (by rw [HZ.out]; omega) (by rw [HZ.out]; omega) HNZ.out h9)
    clear h9 hall
    rw [HV.out]
    go_wp2
    go_returns
    unfold RnPost; rw [HG.out]; exact ⟨rfl, rfl⟩
 ·
  have hz2 : (1 : Int) < (s.size : Int) := by omega
  have hz9 : decide ((1 : Int) < (s.size : Int)) = true := by simpa using hz2
  have hz3 := hz1 hsz
  clear hz1
  go_enter Tryd.func42, Tryd.ntmps42
  go_wp2_with fail
  go_loop [6, 29] (fun nu i => ∃ k : Nat, k ≤ s.size ∧ i = .int .i64 k ∧ nu = .int .i64 (valTo (tl s) k) ∧ Hid (((tl s).take k).all dgB = true)) (fun _ i => s.size - (intOf i).toNat)
  case atStart => exact ⟨0, by omega, rfl, rfl, rfl⟩
  case round =>
   obtain ⟨k, hk, rfl, rfl, hall⟩ := hrel
   by_cases hkn : k < s.size
   ·
    have HC := Lib.hid (tl_at s k hkn)
    have hbd := valTo_bd (l := tl s) (k := k) (by omega) hall.out
    obtain ⟨x, hx⟩ : ∃ x, valTo (tl s) k = x := ⟨_, rfl⟩
    rw [hx] at hbd ⊢
    have HX := Lib.hid hx
    obtain ⟨hx0, hx1⟩ := hbd
    clear hx
    by_cases hb : 48 ≤ (s[k].toNat : Int) ∧ (s[k].toNat : Int) ≤ 57
    ·
     obtain ⟨q1, q2⟩ := hb
     have q3 : (s[k].toNat : Int) < 58 := by omega
     have hd : dgB s[k] = true := by simp only [dgB, q1, q2, decide_true, Bool.and_self]
     have HST := Lib.hid (all_snoc HC.out hall.out hd)
     have HVS := Lib.hid (valTo_step HC.out)
     have hs5 : IntKind.u8.wrap ((s[k].toNat : Int) - 48) = (s[k].toNat : Int) - 48 := by
      rw [show ((s[k].toNat : Int) - 48) = (((s[k].toNat - 48 : Nat)) : Int) by omega]; exact IntWalk.u8_in _ (by omega)
     clear hd
     go_wp2_with fail
     go_round
     case rel => exact ⟨k + 1, by omega, by go_num, by rw [HVS.out, HX.out], HST.out⟩
     case measure => simp [intOf]; omega
    ·
     have hno : dgB s[k] = false := by simp only [dgB, Bool.and_eq_false_iff, decide_eq_false_iff_not]; omega
     have HF := Lib.hid (read_bad (m := m) HC.out hno)
     clear hno
     by_cases q1 : 48 ≤ (s[k].toNat : Int)
     ·
      have q2 : 58 ≤ (s[k].toNat : Int) := by omega
      clear hb
      go_wp2
      go_returns
      exact rn_none HF.out _
     ·
      clear hb
      go_wp2
      go_returns
      exact rn_none HF.out _
   ·
    obtain rfl : k = s.size := by omega
    have h9 := hall.out
    have HV : Hid (valTo (tl s) s.size = valL (tl s)) := by unfold Hid valTo; rw [List.take_of_length_le (by rw [HZ.out]; omega)]
    rw [List.take_of_length_le (by rw [HZ.out]; omega)] at h9
    have HG := Lib.hid (read_good (m := m) (by rw [HZ.out]; omega) (by rw [HZ.out]; omega) HNZ.out h9)
    clear h9 hall
    rw [HV.out]
    go_wp2
    go_returns
    unfold RnPost; rw [HG.out]; exact ⟨rfl, rfl⟩

set_option maxRecDepth 100000 in
set_option maxHeartbeats 2000000 in
theorem l1Read_any (s : ByteArray) (w : World) (hs : s.size ≤ maxLen) :
  Calls Tryd.prog 40 #[.string s] w (fun e w' => e = .returned (.int .i64 ((readL 4 (tl s)).getD (-1))) ∧ w = w') := by
 have HZ := Lib.hid (tl_size s)
 unfold maxLen at hs
 by_cases h0 : s.size < 1
 ·
  have HF := Lib.hid (read_len (m := 4) (l := tl s) (.inl (by rw [HZ.out]; exact h0)))
  have hd1 : decide ((s.size : Int) < 1) = true := by simp; omega
  have hd4 : decide ((1 : Int) ≤ (s.size : Int)) = false := by simp; omega
  go_enter Tryd.func40, Tryd.ntmps40
  go_wp2_with fail
  refine (sIn_any _ _ _ _).mono ?_
  rintro e w1 ⟨rfl, rfl⟩
  have hd5 : (decide ((1 : Int) ≤ (s.size : Int)) && decide ((s.size : Int) ≤ 4)) = false := by simp; omega
  rw [hd5]
  clear hd5
  go_wp2
  go_returns
  exact ⟨by rw [HF.out]; rfl, rfl⟩
 by_cases h1 : 4 < s.size
 ·
  have HF := Lib.hid (read_len (m := 4) (l := tl s) (.inr (by rw [HZ.out]; exact h1)))
  have hd1 : decide ((s.size : Int) < 1) = false := by simp; omega
  have hd4 : decide ((1 : Int) ≤ (s.size : Int)) = true := by simp; omega
  go_enter Tryd.func40, Tryd.ntmps40
  go_wp2_with fail
  refine (sIn_any _ _ _ _).mono ?_
  rintro e w1 ⟨rfl, rfl⟩
  have hd5 : (decide ((1 : Int) ≤ (s.size : Int)) && decide ((s.size : Int) ≤ 4)) = false := by simp; omega
  rw [hd5]
  clear hd5
  go_wp2
  go_returns
  exact ⟨by rw [HF.out]; rfl, rfl⟩
 have hd1 : decide ((s.size : Int) < 1) = false := by simp; omega
 have hd4 : decide ((1 : Int) ≤ (s.size : Int)) = true := by simp; omega
 have hc0 := tl_at s 0 (by omega)
 by_cases h2 : 1 < s.size ∧ s[0] = 48
 ·
  have HF := Lib.hid (read_zero (m := 4) (l := tl s) (by rw [HZ.out]; exact h2.1) (by rw [hc0, h2.2]))
  obtain ⟨h3, h4⟩ := h2
  have h5 : (((s[0]'(by omega)).toNat : Int) == 48) = true := by rw [h4]; rfl
  have h6 : (1 : Int) < (s.size : Int) := by omega
  clear hc0 h4
  go_enter Tryd.func40, Tryd.ntmps40
  go_wp2_with fail
  refine (sIn_any _ _ _ _).mono ?_
  rintro e w1 ⟨rfl, rfl⟩
  have hd5 : (decide ((1 : Int) ≤ (s.size : Int)) && decide ((s.size : Int) ≤ 4)) = true := by simp; omega
  rw [hd5]
  clear hd5
  go_wp2
  go_returns
  exact ⟨by rw [HF.out]; rfl, rfl⟩
 have HNZ : Hid (¬ (1 < (tl s).length ∧ (tl s)[0]? = some 48)) := by
  rintro ⟨h3, h4⟩
  rw [hc0] at h4
  exact h2 ⟨by rw [← HZ.out]; exact h3, Option.some.inj h4⟩
 have hz1 : 1 < s.size → (((s[0]'(by omega)).toNat : Int) == 48) = false := by
  intro h3
  have h4 : ¬ s[0]'(by omega) = 48 := fun e => h2 ⟨h3, e⟩
  simp only [beq_eq_false_iff_ne, ne_eq]
  intro e
  exact h4 (UInt8.toNat_inj.1 (by show _ = 48; omega))
 clear hc0 h2
 have hsz : s.size = 1 ∨ 1 < s.size := by omega
 rcases hsz with hsz | hsz
 ·
  have hz2 : ¬ (1 : Int) < (s.size : Int) := by omega
  have hz9 : decide ((1 : Int) < (s.size : Int)) = false := by simpa using hz2
  clear hz1 hsz
  go_enter Tryd.func40, Tryd.ntmps40
  go_wp2_with fail
  refine (sIn_any _ _ _ _).mono ?_
  rintro e w1 ⟨rfl, rfl⟩
  have hd5 : (decide ((1 : Int) ≤ (s.size : Int)) && decide ((s.size : Int) ≤ 4)) = true := by simp; omega
  rw [hd5]
  clear hd5
  go_wp2_with fail
  go_loop [3, 4] (fun nu i => ∃ k : Nat, k ≤ s.size ∧ i = .int .i64 k ∧ nu = .int .i64 (valTo (tl s) k) ∧ Hid (((tl s).take k).all dgB = true)) (fun _ i => s.size - (intOf i).toNat)
  case atStart => exact ⟨0, by omega, rfl, rfl, rfl⟩
  case round =>
   obtain ⟨k, hk, rfl, rfl, hall⟩ := hrel
   by_cases hkn : k < s.size
   ·
    have HC := Lib.hid (tl_at s k hkn)
    have hbd := valTo_bd (l := tl s) (k := k) (by omega) hall.out
    obtain ⟨x, hx⟩ : ∃ x, valTo (tl s) k = x := ⟨_, rfl⟩
    rw [hx] at hbd ⊢
    have HX := Lib.hid hx
    obtain ⟨hx0, hx1⟩ := hbd
    clear hx
    by_cases hb : 48 ≤ (s[k].toNat : Int) ∧ (s[k].toNat : Int) ≤ 57
    ·
     obtain ⟨q1, q2⟩ := hb
     have q3 : (s[k].toNat : Int) < 58 := by omega
     have hd : dgB s[k] = true := by simp only [dgB, q1, q2, decide_true, Bool.and_self]
     have HST := Lib.hid (all_snoc HC.out hall.out hd)
     have HVS := Lib.hid (valTo_step HC.out)
     have hs5 : IntKind.u8.wrap ((s[k].toNat : Int) - 48) = (s[k].toNat : Int) - 48 := by
      rw [show ((s[k].toNat : Int) - 48) = (((s[k].toNat - 48 : Nat)) : Int) by omega]; exact IntWalk.u8_in _ (by omega)
     clear hd
     go_wp2_with fail
     go_round
     case rel => exact ⟨k + 1, by omega, by go_num, by rw [HVS.out, HX.out], HST.out⟩
     case measure => simp [intOf]; omega
    ·
     have hno : dgB s[k] = false := by simp only [dgB, Bool.and_eq_false_iff, decide_eq_false_iff_not]; omega
     have HF := Lib.hid (read_bad (m := 4) HC.out hno)
     clear hno
     by_cases q1 : 48 ≤ (s[k].toNat : Int)
     ·
      have q2 : 58 ≤ (s[k].toNat : Int) := by omega
      clear hb
      go_wp2
      go_returns
      exact ⟨by rw [HF.out]; rfl, rfl⟩
     ·
      clear hb
      go_wp2
      go_returns
      exact ⟨by rw [HF.out]; rfl, rfl⟩
   ·
    obtain rfl : k = s.size := by omega
    have h9 := hall.out
    have HV : Hid (valTo (tl s) s.size = valL (tl s)) := by unfold Hid valTo; rw [List.take_of_length_le (by rw [HZ.out]; omega)]
    rw [List.take_of_length_le (by rw [HZ.out]; omega)] at h9
    have HG := Lib.hid (read_good (m := 4) (by rw [HZ.out]; omega) (by rw [HZ.out]; omega) HNZ.out h9)
    clear h9 hall
    rw [HV.out]
    go_wp2
    go_returns
    exact ⟨by rw [HG.out]; rfl, rfl⟩
 ·
  have hz2 : (1 : Int) < (s.size : Int) := by omega
  have hz9 : decide ((1 : Int) < (s.size : Int)) = true := by simpa using hz2
  have hz3 := hz1 hsz
  clear hz1
  go_enter Tryd.func40, Tryd.ntmps40
  go_wp2_with fail
  refine (sIn_any _ _ _ _).mono ?_
  rintro e w1 ⟨rfl, rfl⟩
  have hd5 : (decide ((1 : Int) ≤ (s.size : Int)) && decide ((s.size : Int) ≤ 4)) = true := by simp; omega
  rw [hd5]
  clear hd5
  go_wp2_with fail
  go_loop [3, 4] (fun nu i => ∃ k : Nat, k ≤ s.size ∧ i = .int .i64 k ∧ nu = .int .i64 (valTo (tl s) k) ∧ Hid (((tl s).take k).all dgB = true)) (fun _ i => s.size - (intOf i).toNat)
  case atStart => exact ⟨0, by omega, rfl, rfl, rfl⟩
  case round =>
   obtain ⟨k, hk, rfl, rfl, hall⟩ := hrel
   by_cases hkn : k < s.size
   ·
    have HC := Lib.hid (tl_at s k hkn)
    have hbd := valTo_bd (l := tl s) (k := k) (by omega) hall.out
    obtain ⟨x, hx⟩ : ∃ x, valTo (tl s) k = x := ⟨_, rfl⟩
    rw [hx] at hbd ⊢
    have HX := Lib.hid hx
    obtain ⟨hx0, hx1⟩ := hbd
    clear hx
    by_cases hb : 48 ≤ (s[k].toNat : Int) ∧ (s[k].toNat : Int) ≤ 57
    ·
     obtain ⟨q1, q2⟩ := hb
     have q3 : (s[k].toNat : Int) < 58 := by omega
     have hd : dgB s[k] = true := by simp only [dgB, q1, q2, decide_true, Bool.and_self]
     have HST := Lib.hid (all_snoc HC.out hall.out hd)
     have HVS := Lib.hid (valTo_step HC.out)
     have hs5 : IntKind.u8.wrap ((s[k].toNat : Int) - 48) = (s[k].toNat : Int) - 48 := by
      rw [show ((s[k].toNat : Int) - 48) = (((s[k].toNat - 48 : Nat)) : Int) by omega]; exact IntWalk.u8_in _ (by omega)
     clear hd
     go_wp2_with fail
     go_round
     case rel => exact ⟨k + 1, by omega, by go_num, by rw [HVS.out, HX.out], HST.out⟩
     case measure => simp [intOf]; omega
    ·
     have hno : dgB s[k] = false := by simp only [dgB, Bool.and_eq_false_iff, decide_eq_false_iff_not]; omega
     have HF := Lib.hid (read_bad (m := 4) HC.out hno)
     clear hno
     by_cases q1 : 48 ≤ (s[k].toNat : Int)
     ·
      have q2 : 58 ≤ (s[k].toNat : Int) := by omega
      clear hb
      go_wp2
      go_returns
      exact ⟨by rw [HF.out]; rfl, rfl⟩
     ·
      clear hb
      go_wp2
      go_returns
      exact ⟨by rw [HF.out]; rfl, rfl⟩
   ·
    obtain rfl : k = s.size := by omega
    have h9 := hall.out
    have HV : Hid (valTo (tl s) s.size = valL (tl s)) := by unfold Hid valTo; rw [List.take_of_length_le (by rw [HZ.out]; omega)]
    rw [List.take_of_length_le (by rw [HZ.out]; omega)] at h9
    have HG := Lib.hid (read_good (m := 4) (by rw [HZ.out]; omega) (by rw [HZ.out]; omega) HNZ.out h9)
    clear h9 hall
    rw [HV.out]
    go_wp2
    go_returns
    exact ⟨by rw [HG.out]; rfl, rfl⟩


end Go.Proofs.YtedadhoneebfnaaDoor

/- Contract of l1Cut (reference). -/
namespace Go.Proofs.YtedadhoneebfnaaDoor
open Go.RowKit

def bas (ls : List (List UInt8)) : List ByteArray := ls.map ba
theorem bas_snoc (ls : List (List UInt8)) (l : List UInt8) : bas (ls ++ [l]) = bas ls ++ [ba l] := by simp [bas]
theorem strs_snocD (ps : List ByteArray) (s : ByteArray) : strs ps ++ [.string s] = strs (ps ++ [s]) := by simp [strs]
theorem infoSD : (Tryd.prog.info? 9).map (fun i => (i.zero, i.size, i.bytes)) = some (some (.string ByteArray.empty), 1, 16) := by kernel_rfl
theorem newS (w : World) (T : TypeId) (x0 : Value) (b : Nat) (hb : b = w.heap.size) : ∀ (j : Nat) (u : Value), [x0][j]? = some u → (w.alloc (.cells #[x0] T)).cell? ((⟨b, 0, none⟩ : Addr).add j) = some u := by
 subst hb
 intro j u hu
 match j with
 | 0 => simp at hu; subst hu; rw [Addr.add_spot, World.cell?_alloc_at _ _ _ _ rfl]; rfl
 | j + 1 => simp at hu
theorem oneS (s : ByteArray) : ∀ u ∈ [Value.string s], u.oneCell' = true := by intro u hu; simp at hu; subst hu; rfl
theorem split_count (c : UInt8) (l cur : List UInt8) : (splitL c l cur).length ≤ 1 + l.length := by
 rw [(split_head c l cur).2]; have := List.count_le_length (a := c) (l := l); omega
theorem cut_mid (s : ByteArray) (f k : Nat) : s.extract f k = ba (((tl s).take k).drop f) := by
 apply bytes_ext; simp [ba, tl, ByteArray.data_extract, List.drop_take]
theorem cut_end (s : ByteArray) (f : Nat) : s.extract f s.size = ba (((tl s).take s.size).drop f) := cut_mid s f s.size
/-- The pieces made anew. -/
def CtPost (c : UInt8) (s : ByteArray) (w : World) (e : Ending) (w' : World) : Prop := ∃ v, e = .returned v ∧ w'.ownsRow w.heap.size 9 1 v (splitL c (tl s) []).length (strs (bas (splitL c (tl s) []))) ∧ Below w.heap.size w w'
/-- Where the loop stands. -/
def CtAt (c : UInt8) (l : List UInt8) (k f : Nat) (out : List (List UInt8)) : Prop := f ≤ k ∧ out ++ splitL c (l.drop k) ((l.take k).drop f) = splitL c l []
theorem CtAt.start (c : UInt8) (l : List UInt8) : CtAt c l 0 0 [] := ⟨Nat.le_refl _, by simp⟩
theorem CtAt.len {c : UInt8} {l : List UInt8} {k f : Nat} {out : List (List UInt8)} (h : CtAt c l k f out) : out.length ≤ l.length + 1 := by
 have h1 := congrArg List.length h.2
 have h2 := split_count c l []
 rw [List.length_append] at h1
 omega
theorem CtAt.yes {c : UInt8} {l : List UInt8} {k f : Nat} {out : List (List UInt8)} (h : CtAt c l k f out) (hx : l[k]? = some c) : CtAt c l (k + 1) (k + 1) (out ++ [(l.take k).drop f]) := by
 refine ⟨Nat.le_refl _, ?_⟩
 rw [← h.2, split_step hx h.1, if_pos rfl]; simp
theorem CtAt.no {c x : UInt8} {l : List UInt8} {k f : Nat} {out : List (List UInt8)} (h : CtAt c l k f out) (hx : l[k]? = some x) (hn : x ≠ c) : CtAt c l (k + 1) f out := by
 refine ⟨by have := h.1; omega, ?_⟩
 rw [← h.2, split_step hx h.1, if_neg hn]
theorem CtAt.done {c : UInt8} {l : List UInt8} {f : Nat} {out : List (List UInt8)} (h : CtAt c l l.length f out) : out ++ [(l.take l.length).drop f] = splitL c l [] := by
 rw [← h.2, List.drop_length]; rfl

set_option maxRecDepth 100000 in
set_option maxHeartbeats 2000000 in
theorem l1Cut_any (s : ByteArray) (c : UInt8) (w : World) (hs : s.size ≤ 2000000) :
  Calls Tryd.prog 39 #[.string s, .int .u8 (c.toNat : Nat)] w (CtPost c s w) := by
 obtain ⟨i0, hi, hz0, hz1, hz2⟩ := info_parts infoSD
 have HZ := Lib.hid (tl_size s)
 go_enter Tryd.func39, Tryd.ntmps39
 go_wp2_with fail
 go_loopw [5, 6, 7] (fun v fr i wr => ∃ (k f : Nat) (out : List (List UInt8)), k ≤ s.size ∧ f ≤ k ∧ i = .int .i64 k ∧ fr = .int .i64 f ∧ Hid (CtAt c (tl s) k f out) ∧ wr.ownsRow w.heap.size 9 1 v out.length (strs (bas out)) ∧ Below w.heap.size w wr) (fun _ _ i _ => s.size - (intOf i).toNat)
 case atStart => exact ⟨0, 0, [], by omega, by omega, rfl, rfl, CtAt.start _ _, (by have := World.ownsRow_lit (base := w.heap.size) (e := 9) (size := 1) w #[] 0 (Nat.le_refl _) (by unfold maxLen; omega) rfl; simpa [strs, bas] using this), by (exact grownA)⟩
 case round =>
  obtain ⟨k, f, out, hk, hfk, rfl, rfl, hat, hown, hbel⟩ := hrel
  have hz := hbel.size
  have hol := hat.out.len
  rw [HZ.out] at hol
  by_cases hkn : k < s.size
  ·
   have hc := tl_at s k hkn
   by_cases hcc : s[k] = c
   ·
    have hcb : (((s[k].toNat : Nat) : Int) == ((c.toNat : Nat) : Int)) = true := by rw [hcc]; simp
    have HST := Lib.hid (hat.out.yes (by rw [hc, hcc]))
    have HX := Lib.hid (cut_mid s f k)
    clear hc hcc
    go_wp2_with (at_builtin; refine wpList_append_own _ rfl _ _ 50 rfl w.heap.size 9 i0 _ 1 16 Tryd.underlying50 hi hz0 hz1 hz2 rfl (by decide) _ _ _ rfl (hown.alloc _) ⟨wr.heap.size, 0, none⟩ 1 1 [.string (s.extract f k)] rfl rfl (newS _ _ _ _ (by first | rfl | simp)) (oneS _) (by unfold maxLen; omega) (by omega) (by simp; omega) ?_; intro v' w5 hown' hgrow _)
    have hbel5 : Below w.heap.size w w5 := Below.grown (by (exact grownA)) hgrow (by simp; omega) (own_ge hown)
    clear hgrow
    go_wp2_with fail
    go_roundw
    case rel => exact ⟨k + 1, k + 1, _, by omega, by omega, by go_num, by go_num, HST.out, by rw [List.length_append, bas_snoc, ← strs_snocD, ← HX.out]; exact hown', hbel5⟩
    case measure => simp [intOf]; omega
   ·
    have hcb : (((s[k].toNat : Nat) : Int) == ((c.toNat : Nat) : Int)) = false := by
     simp only [beq_eq_false_iff_ne, ne_eq]
     exact fun e => hcc (UInt8.toNat_inj.1 (by omega))
    have HST := Lib.hid (hat.out.no hc hcc)
    clear hc hcc
    go_wp2_with fail
    go_roundw
    case rel => exact ⟨k + 1, f, _, by omega, by omega, by go_num, rfl, HST.out, hown, hbel⟩
    case measure => simp [intOf]; omega
  ·
   obtain rfl : k = s.size := by omega
   have hd := hat.out
   rw [← HZ.out] at hd
   have hdd := hd.done
   rw [HZ.out] at hdd
   have HD := Lib.hid hdd
   have HX := Lib.hid (cut_end s f)
   clear hd hdd
   go_wp2_with (at_builtin; refine wpList_append_own _ rfl _ _ 50 rfl w.heap.size 9 i0 _ 1 16 Tryd.underlying50 hi hz0 hz1 hz2 rfl (by decide) _ _ _ rfl (hown.alloc _) ⟨wr.heap.size, 0, none⟩ 1 1 [.string (s.extract f s.size)] rfl rfl (newS _ _ _ _ (by first | rfl | simp)) (oneS _) (by unfold maxLen; omega) (by omega) (by simp; omega) ?_; intro v' w5 hown' hgrow _)
   have hbel5 : Below w.heap.size w w5 := Below.grown (by (exact grownA)) hgrow (by simp; omega) (own_ge hown)
   clear hgrow
   go_wp2
   go_returns
   refine ⟨_, rfl, ?_, hbel5⟩
   rw [← HD.out, List.length_append, bas_snoc, ← strs_snocD, ← HX.out]
   exact hown'

end Go.Proofs.YtedadhoneebfnaaDoor

/- Contract of ReadDeed (program). -/
namespace Go.Proofs.YtedadhoneebfnaaDoor
open Go.RowKit

def RdPost (s : ByteArray) (w : World) (e : Ending) (w' : World) : Prop :=
 e = .returned (.tuple #[.agg #[.int .i64 (rdeed s).1.1, .int .i64 (rdeed s).1.2.1, .string (rdeed s).1.2.2], .bool (rdeed s).2]) ∧ Below w.heap.size w w'
theorem rd_none {s : ByteArray} (h : rdeed s = ((0, 0, ⟨#[]⟩), false)) {w w' : World} (hb : Below w.heap.size w w') : RdPost s w (.returned (.tuple #[.agg #[.int .i64 0, .int .i64 0, .string ByteArray.empty], .bool false])) w' := by
 unfold RdPost; rw [h]; exact ⟨rfl, hb⟩
theorem rd_some {s : ByteArray} {k l : Int} {t : ByteArray} (h : rdeed s = ((k, l, t), true)) {w w' : World} (hb : Below w.heap.size w w') : RdPost s w (.returned (.tuple #[.agg #[.int .i64 k, .int .i64 l, .string t], .bool true])) w' := by
 unfold RdPost; rw [h]; exact ⟨rfl, hb⟩
theorem ba_size (l : List UInt8) : (ba l).size = l.length := by rw [← tl_size, tl_ba]
theorem ba_toList (l : List UInt8) : (ba l).toList = l := by rw [ByteArray.toList_eq]; simp [ba]
theorem word_ne {l m : List UInt8} (h : ¬ l = m) : ((ba l).toList == m) = false := by rw [ba_toList]; simpa using h
theorem word_eq {l m : List UInt8} (h : l = m) : ((ba l).toList == m) = true := by rw [ba_toList]; simpa using h
theorem bef_le (c : UInt8) (l : List UInt8) : (bef c l).length ≤ l.length := by unfold bef; rw [List.length_take]; omega
theorem aft_le (c : UInt8) (l : List UInt8) : (aft c l).length ≤ l.length := by unfold aft; rw [List.length_drop]; omega
theorem cut_word {s : ByteArray} {c : UInt8} {w : World} (hs : s.size ≤ maxLen) {l : List UInt8} (hl : s = ba l) :
  Calls Tryd.prog 41 #[.string s, .string ⟨#[c]⟩] w fun e w' => ∃ q, e = .returned (.tuple #[.string (ba (bef c l)), .string (ba (aft c l)), .bool (decide (ix c l < l.length))]) ∧ w' = w.drewN q := by
 refine (cut_any s c w hs).mono ?_
 rintro e w' ⟨q, rfl, rfl⟩
 subst hl
 refine ⟨q, ?_, rfl⟩
 rw [tl_ba, ba_size]
theorem read_word {s : ByteArray} {w : World} (hs : s.size ≤ maxLen) {l : List UInt8} (hl : s = ba l) :
  Calls Tryd.prog 42 #[.string s, .int .i64 2] w fun e w' => e = .returned (.tuple #[.int .i64 ((readL 2 l).getD 0), .bool (readL 2 l).isSome]) ∧ w = w' := by
 refine (readNumber_any s 2 (by omega) w hs).mono ?_
 rintro e w' ⟨rfl, rfl⟩
 subst hl
 rw [tl_ba]
 exact ⟨rfl, rfl⟩

set_option maxRecDepth 100000 in
set_option maxHeartbeats 2000000 in
theorem iReadDeed_any (s : ByteArray) (w : World) (hs : s.size ≤ maxLen) :
  Calls Tryd.prog 20 #[.string s] w (RdPost s w) := by
 have HS := Lib.hid hs
 have HZ := Lib.hid (tl_size s)
 have HSB := Lib.hid (ba_tl s)
 have HL1 : Hid ((ba (aft 32 (tl s))).size ≤ maxLen) := by unfold Hid; rw [ba_size]; have := aft_le 32 (tl s); rw [HZ.out] at this; omega
 have HL2 : Hid ((ba (bef 32 (aft 32 (tl s)))).size ≤ maxLen) := by unfold Hid; rw [ba_size]; have := aft_le 32 (tl s); have := bef_le 32 (aft 32 (tl s)); rw [HZ.out] at *; omega
 have HL3 : Hid ((ba (aft 32 (aft 32 (tl s)))).size ≤ maxLen) := by unfold Hid; rw [ba_size]; have := aft_le 32 (tl s); have := aft_le 32 (aft 32 (tl s)); rw [HZ.out] at *; omega
 have hR := Blk.new (w := w) (cs := #[.int .i64 0, .int .i64 0, .string ByteArray.empty]) (T := 26) rfl
 have hbel0 : Below w.heap.size w (w.alloc (.cells #[.int .i64 0, .int .i64 0, .string ByteArray.empty] 26)) := by (exact grownA)
 obtain ⟨p0, p1, p2, f0, f1, f2, plt⟩ := hR.three
 clear hs
 by_cases hw0 : bef 32 (tl s) = wcall
 ·
  have HNE : Hid (s.size ≠ 0) := by
   intro h0
   have h9 : tl s = [] := List.length_eq_zero_iff.1 (by rw [HZ.out]; exact h0)
   rw [h9] at hw0
   exact absurd hw0 (by decide)
  have HK : Hid (wordK (bef 32 (tl s)) = some 0) := by unfold Hid wordK; rw [if_pos hw0]
  have hn0 := word_eq (m := [99, 97, 108, 108]) hw0
  obtain ⟨wd, hwd⟩ : ∃ z, ba (bef 32 (tl s)) = z := ⟨_, rfl⟩
  rw [hwd] at hn0
  have HWD := Lib.hid hwd
  clear hwd hw0
  cases hr : readL 2 (bef 32 (aft 32 (tl s))) with
  | none =>
   have HF := Lib.hid (rdeed_pI (s := s) (by unfold pI; rw [HK.out, hr]))
   have HR := Lib.hid hr
   clear hr
   go_enter Tryd.func20, Tryd.ntmps20
   go_wp2_with fail
   refine (cut_any s 32 _ HS.out).mono ?_
   rintro e w1 ⟨q, rfl, rfl⟩
   rw [HWD.out]
   go_wp2_with fail
   refine (cut_word (l := aft 32 (tl s)) HL1.out rfl).mono ?_
   rintro e w2 ⟨q2, rfl, rfl⟩
   go_wp2_with fail
   refine (read_word (l := bef 32 (aft 32 (tl s))) HL2.out rfl).mono ?_
   rintro e w3 ⟨rfl, rfl⟩
   rw [HR.out]
   go_wp2
   refine bodyPost_ret (v := .tuple #[.agg #[.int .i64 0, .int .i64 0, .string ByteArray.empty], .bool false]) (by simp [results, Tryd.results20, go_sem, p0, p1, p2]; rfl) rfl ?_
   exact rd_none HF.out (by (exact grownA))
  | some n =>
   have HPI : Hid (pI (tl s) = some (0, n, ba (aft 32 (aft 32 (tl s))))) := by unfold Hid pI; rw [HK.out, hr]
   have HR := Lib.hid hr
   clear hr
   obtain ⟨num, hnum⟩ : ∃ z, ba (aft 32 (aft 32 (tl s))) = z := ⟨_, rfl⟩
   have HNUM := Lib.hid hnum
   rw [hnum] at HPI HL3
   clear hnum
   go_enter Tryd.func20, Tryd.ntmps20
   go_wp2_with fail
   refine (cut_any s 32 _ HS.out).mono ?_
   rintro e w1 ⟨q, rfl, rfl⟩
   rw [HWD.out]
   go_wp2_with fail
   refine (cut_word (l := aft 32 (tl s)) HL1.out rfl).mono ?_
   rintro e w2 ⟨q2, rfl, rfl⟩
   rw [HNUM.out]
   go_wp2_with fail
   refine (read_word (l := bef 32 (aft 32 (tl s))) HL2.out rfl).mono ?_
   rintro e w3 ⟨rfl, rfl⟩
   rw [HR.out]
   go_wp2_with fail
   refine (iDeedText_any 0 n num _ HL3.out).mono ?_
   rintro e w4 ⟨rfl, hb4⟩
   have hD0 := Blk.new (w := (w.alloc (.cells #[.int .i64 0, .int .i64 0, .string ByteArray.empty] 26)).drewN q) (cs := #[.int .i64 0, .int .i64 0, .string ByteArray.empty]) (T := 26) (b := w.heap.size + 1) (by simp)
   have hD4 := (((hD0.drewN q2).set (i := 1) (u := .int .i64 n) rfl).set (i := 2) (u := .string num) rfl).belowAll hb4
   have hR4 := (((((hR.drewN q).alloc (.cells #[.int .i64 0, .int .i64 0, .string ByteArray.empty] 26)).drewN q2).other (a := ⟨w.heap.size + 1, 1, none⟩) (u := .int .i64 n) (by simp)).other (a := ⟨w.heap.size + 1, 2, none⟩) (u := .string num) (by simp)).belowAll hb4
   have hbel4 : Below w.heap.size w w4 := by (exact grownA)
   clear hD0 hb4 p0 p1 p2 f0 f1 f2 plt
   obtain ⟨d0, d1, d2, _, _, _, dlt⟩ := hD4.three
   obtain ⟨p0, p1, p2, f0, f1, f2, plt⟩ := hR4.three
   obtain ⟨tx, htx⟩ : ∃ z, dtxt 0 n num = z := ⟨_, rfl⟩
   rw [htx]
   have HTX := Lib.hid htx
   clear htx
   by_cases hts : tx = s
   ·
    have hq := str_eq hts
    have hq2 : (tx.toList != s.toList) = false := by simp [bne, hq]
    have HF := Lib.hid (rdeed_some (d := (0, n, num)) HNE.out (by show dtxt 0 n num = s; rw [HTX.out, hts]))
    clear hts
    go_wp2
    refine bodyPost_ret (v := .tuple #[.agg #[.int .i64 0, .int .i64 n, .string num], .bool true]) (by simp [results, Tryd.results20, go_sem, p0, p1, p2, d0, d1, d2]) rfl ?_
    exact rd_some HF.out (by (exact grownA))
   ·
    have hq := str_ne hts
    have hq2 : (tx.toList != s.toList) = true := by simp [bne, hq]
    have HF := Lib.hid (rdeed_pI_ne HPI.out (by show ¬ dtxt 0 n num = s; rw [HTX.out]; exact hts))
    clear hts
    go_wp2
    refine bodyPost_ret (v := .tuple #[.agg #[.int .i64 0, .int .i64 0, .string ByteArray.empty], .bool false]) (by simp [results, Tryd.results20, go_sem, p0, p1, p2]; rfl) rfl ?_
    exact rd_none HF.out (by (exact grownA))
 by_cases hw1 : bef 32 (tl s) = wdrop
 ·
  have HNE : Hid (s.size ≠ 0) := by
   intro h0
   have h9 : tl s = [] := List.length_eq_zero_iff.1 (by rw [HZ.out]; exact h0)
   rw [h9] at hw1
   exact absurd hw1 (by decide)
  have HK : Hid (wordK (bef 32 (tl s)) = some 1) := by unfold Hid wordK; rw [if_neg hw0, if_pos hw1]
  have hn0 := word_ne (m := [99, 97, 108, 108]) hw0
  have hn1 := word_eq (m := [100, 114, 111, 112]) hw1
  obtain ⟨wd, hwd⟩ : ∃ z, ba (bef 32 (tl s)) = z := ⟨_, rfl⟩
  rw [hwd] at hn0 hn1
  have HWD := Lib.hid hwd
  clear hwd hw0 hw1
  cases hr : readL 2 (bef 32 (aft 32 (tl s))) with
  | none =>
   have HF := Lib.hid (rdeed_pI (s := s) (by unfold pI; rw [HK.out, hr]))
   have HR := Lib.hid hr
   clear hr
   go_enter Tryd.func20, Tryd.ntmps20
   go_wp2_with fail
   refine (cut_any s 32 _ HS.out).mono ?_
   rintro e w1 ⟨q, rfl, rfl⟩
   rw [HWD.out]
   go_wp2_with fail
   refine (cut_word (l := aft 32 (tl s)) HL1.out rfl).mono ?_
   rintro e w2 ⟨q2, rfl, rfl⟩
   go_wp2_with fail
   refine (read_word (l := bef 32 (aft 32 (tl s))) HL2.out rfl).mono ?_
   rintro e w3 ⟨rfl, rfl⟩
   rw [HR.out]
   go_wp2
   refine bodyPost_ret (v := .tuple #[.agg #[.int .i64 0, .int .i64 0, .string ByteArray.empty], .bool false]) (by simp [results, Tryd.results20, go_sem, p0, p1, p2]; rfl) rfl ?_
   exact rd_none HF.out (by (exact grownA))
  | some n =>
   have HPI : Hid (pI (tl s) = some (1, n, ba (aft 32 (aft 32 (tl s))))) := by unfold Hid pI; rw [HK.out, hr]
   have HR := Lib.hid hr
   clear hr
   obtain ⟨num, hnum⟩ : ∃ z, ba (aft 32 (aft 32 (tl s))) = z := ⟨_, rfl⟩
   have HNUM := Lib.hid hnum
   rw [hnum] at HPI HL3
   clear hnum
   go_enter Tryd.func20, Tryd.ntmps20
   go_wp2_with fail
   refine (cut_any s 32 _ HS.out).mono ?_
   rintro e w1 ⟨q, rfl, rfl⟩
   rw [HWD.out]
   go_wp2_with fail
   refine (cut_word (l := aft 32 (tl s)) HL1.out rfl).mono ?_
   rintro e w2 ⟨q2, rfl, rfl⟩
   rw [HNUM.out]
   go_wp2_with fail
   refine (read_word (l := bef 32 (aft 32 (tl s))) HL2.out rfl).mono ?_
   rintro e w3 ⟨rfl, rfl⟩
   rw [HR.out]
   go_wp2_with fail
   refine (iDeedText_any 1 n num _ HL3.out).mono ?_
   rintro e w4 ⟨rfl, hb4⟩
   have hD0 := Blk.new (w := (w.alloc (.cells #[.int .i64 0, .int .i64 0, .string ByteArray.empty] 26)).drewN q) (cs := #[.int .i64 1, .int .i64 0, .string ByteArray.empty]) (T := 26) (b := w.heap.size + 1) (by simp)
   have hD4 := (((hD0.drewN q2).set (i := 1) (u := .int .i64 n) rfl).set (i := 2) (u := .string num) rfl).belowAll hb4
   have hR4 := (((((hR.drewN q).alloc (.cells #[.int .i64 1, .int .i64 0, .string ByteArray.empty] 26)).drewN q2).other (a := ⟨w.heap.size + 1, 1, none⟩) (u := .int .i64 n) (by simp)).other (a := ⟨w.heap.size + 1, 2, none⟩) (u := .string num) (by simp)).belowAll hb4
   have hbel4 : Below w.heap.size w w4 := by (exact grownA)
   clear hD0 hb4 p0 p1 p2 f0 f1 f2 plt
   obtain ⟨d0, d1, d2, _, _, _, dlt⟩ := hD4.three
   obtain ⟨p0, p1, p2, f0, f1, f2, plt⟩ := hR4.three
   obtain ⟨tx, htx⟩ : ∃ z, dtxt 1 n num = z := ⟨_, rfl⟩
   rw [htx]
   have HTX := Lib.hid htx
   clear htx
   by_cases hts : tx = s
   ·
    have hq := str_eq hts
    have hq2 : (tx.toList != s.toList) = false := by simp [bne, hq]
    have HF := Lib.hid (rdeed_some (d := (1, n, num)) HNE.out (by show dtxt 1 n num = s; rw [HTX.out, hts]))
    clear hts
    go_wp2
    refine bodyPost_ret (v := .tuple #[.agg #[.int .i64 1, .int .i64 n, .string num], .bool true]) (by simp [results, Tryd.results20, go_sem, p0, p1, p2, d0, d1, d2]) rfl ?_
    exact rd_some HF.out (by (exact grownA))
   ·
    have hq := str_ne hts
    have hq2 : (tx.toList != s.toList) = true := by simp [bne, hq]
    have HF := Lib.hid (rdeed_pI_ne HPI.out (by show ¬ dtxt 1 n num = s; rw [HTX.out]; exact hts))
    clear hts
    go_wp2
    refine bodyPost_ret (v := .tuple #[.agg #[.int .i64 0, .int .i64 0, .string ByteArray.empty], .bool false]) (by simp [results, Tryd.results20, go_sem, p0, p1, p2]; rfl) rfl ?_
    exact rd_none HF.out (by (exact grownA))
 by_cases hw2 : bef 32 (tl s) = wnumber
 ·
  have HNE : Hid (s.size ≠ 0) := by
   intro h0
   have h9 : tl s = [] := List.length_eq_zero_iff.1 (by rw [HZ.out]; exact h0)
   rw [h9] at hw2
   exact absurd hw2 (by decide)
  have HK : Hid (wordK (bef 32 (tl s)) = some 2) := by unfold Hid wordK; rw [if_neg hw0, if_neg hw1, if_pos hw2]
  have hn0 := word_ne (m := [99, 97, 108, 108]) hw0
  have hn1 := word_ne (m := [100, 114, 111, 112]) hw1
  have hn2 := word_eq (m := [110, 117, 109, 98, 101, 114]) hw2
  obtain ⟨wd, hwd⟩ : ∃ z, ba (bef 32 (tl s)) = z := ⟨_, rfl⟩
  rw [hwd] at hn0 hn1 hn2
  have HWD := Lib.hid hwd
  clear hwd hw0 hw1 hw2
  cases hr : readL 2 (bef 32 (aft 32 (tl s))) with
  | none =>
   have HF := Lib.hid (rdeed_pI (s := s) (by unfold pI; rw [HK.out, hr]))
   have HR := Lib.hid hr
   clear hr
   go_enter Tryd.func20, Tryd.ntmps20
   go_wp2_with fail
   refine (cut_any s 32 _ HS.out).mono ?_
   rintro e w1 ⟨q, rfl, rfl⟩
   rw [HWD.out]
   go_wp2_with fail
   refine (cut_word (l := aft 32 (tl s)) HL1.out rfl).mono ?_
   rintro e w2 ⟨q2, rfl, rfl⟩
   go_wp2_with fail
   refine (read_word (l := bef 32 (aft 32 (tl s))) HL2.out rfl).mono ?_
   rintro e w3 ⟨rfl, rfl⟩
   rw [HR.out]
   go_wp2
   refine bodyPost_ret (v := .tuple #[.agg #[.int .i64 0, .int .i64 0, .string ByteArray.empty], .bool false]) (by simp [results, Tryd.results20, go_sem, p0, p1, p2]; rfl) rfl ?_
   exact rd_none HF.out (by (exact grownA))
  | some n =>
   have HPI : Hid (pI (tl s) = some (2, n, ba (aft 32 (aft 32 (tl s))))) := by unfold Hid pI; rw [HK.out, hr]
   have HR := Lib.hid hr
   clear hr
   obtain ⟨num, hnum⟩ : ∃ z, ba (aft 32 (aft 32 (tl s))) = z := ⟨_, rfl⟩
   have HNUM := Lib.hid hnum
   rw [hnum] at HPI HL3
   clear hnum
   go_enter Tryd.func20, Tryd.ntmps20
   go_wp2_with fail
   refine (cut_any s 32 _ HS.out).mono ?_
   rintro e w1 ⟨q, rfl, rfl⟩
   rw [HWD.out]
   go_wp2_with fail
   refine (cut_word (l := aft 32 (tl s)) HL1.out rfl).mono ?_
   rintro e w2 ⟨q2, rfl, rfl⟩
   rw [HNUM.out]
   go_wp2_with fail
   refine (read_word (l := bef 32 (aft 32 (tl s))) HL2.out rfl).mono ?_
   rintro e w3 ⟨rfl, rfl⟩
   rw [HR.out]
   go_wp2_with fail
   refine (iDeedText_any 2 n num _ HL3.out).mono ?_
   rintro e w4 ⟨rfl, hb4⟩
   have hD0 := Blk.new (w := (w.alloc (.cells #[.int .i64 0, .int .i64 0, .string ByteArray.empty] 26)).drewN q) (cs := #[.int .i64 2, .int .i64 0, .string ByteArray.empty]) (T := 26) (b := w.heap.size + 1) (by simp)
   have hD4 := (((hD0.drewN q2).set (i := 1) (u := .int .i64 n) rfl).set (i := 2) (u := .string num) rfl).belowAll hb4
   have hR4 := (((((hR.drewN q).alloc (.cells #[.int .i64 2, .int .i64 0, .string ByteArray.empty] 26)).drewN q2).other (a := ⟨w.heap.size + 1, 1, none⟩) (u := .int .i64 n) (by simp)).other (a := ⟨w.heap.size + 1, 2, none⟩) (u := .string num) (by simp)).belowAll hb4
   have hbel4 : Below w.heap.size w w4 := by (exact grownA)
   clear hD0 hb4 p0 p1 p2 f0 f1 f2 plt
   obtain ⟨d0, d1, d2, _, _, _, dlt⟩ := hD4.three
   obtain ⟨p0, p1, p2, f0, f1, f2, plt⟩ := hR4.three
   obtain ⟨tx, htx⟩ : ∃ z, dtxt 2 n num = z := ⟨_, rfl⟩
   rw [htx]
   have HTX := Lib.hid htx
   clear htx
   by_cases hts : tx = s
   ·
    have hq := str_eq hts
    have hq2 : (tx.toList != s.toList) = false := by simp [bne, hq]
    have HF := Lib.hid (rdeed_some (d := (2, n, num)) HNE.out (by show dtxt 2 n num = s; rw [HTX.out, hts]))
    clear hts
    go_wp2
    refine bodyPost_ret (v := .tuple #[.agg #[.int .i64 2, .int .i64 n, .string num], .bool true]) (by simp [results, Tryd.results20, go_sem, p0, p1, p2, d0, d1, d2]) rfl ?_
    exact rd_some HF.out (by (exact grownA))
   ·
    have hq := str_ne hts
    have hq2 : (tx.toList != s.toList) = true := by simp [bne, hq]
    have HF := Lib.hid (rdeed_pI_ne HPI.out (by show ¬ dtxt 2 n num = s; rw [HTX.out]; exact hts))
    clear hts
    go_wp2
    refine bodyPost_ret (v := .tuple #[.agg #[.int .i64 0, .int .i64 0, .string ByteArray.empty], .bool false]) (by simp [results, Tryd.results20, go_sem, p0, p1, p2]; rfl) rfl ?_
    exact rd_none HF.out (by (exact grownA))
 have hpi : pI (tl s) = none := by unfold pI; rw [show wordK (bef 32 (tl s)) = none by unfold wordK; rw [if_neg hw0, if_neg hw1, if_neg hw2]]
 have HF := Lib.hid (rdeed_pI hpi)
 clear hpi
 have hn0 := word_ne (m := [99, 97, 108, 108]) hw0
 have hn1 := word_ne (m := [100, 114, 111, 112]) hw1
 have hn2 := word_ne (m := [110, 117, 109, 98, 101, 114]) hw2
 obtain ⟨wd, hwd⟩ : ∃ z, ba (bef 32 (tl s)) = z := ⟨_, rfl⟩
 rw [hwd] at hn0 hn1 hn2
 have HWD := Lib.hid hwd
 clear hwd hw0 hw1 hw2
 go_enter Tryd.func20, Tryd.ntmps20
 go_wp2_with fail
 refine (cut_any s 32 _ HS.out).mono ?_
 rintro e w1 ⟨q, rfl, rfl⟩
 rw [HWD.out]
 go_wp2
 refine bodyPost_ret (v := .tuple #[.agg #[.int .i64 0, .int .i64 0, .string ByteArray.empty], .bool false]) (by simp [results, Tryd.results20, go_sem, p0, p1, p2]; rfl) rfl ?_
 exact rd_none HF.out (by (exact grownA))

end Go.Proofs.YtedadhoneebfnaaDoor
