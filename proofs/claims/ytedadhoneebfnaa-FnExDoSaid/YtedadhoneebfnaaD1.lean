/- Contracts of dialFirst and DialOne of the program. -/
import Derived.Test.YtedadhoneebfnaaJ2
import Derived.Test.YtedadhoneebfnaaJ1
import Derived.Lib.Hide
set_option linter.unusedSimpArgs false
set_option linter.unusedVariables false
namespace Go.Proofs.Ytedadhoneebfnaa
open Go.RowKit

theorem dialK_first {ps : List ByteArray} {s : ByteArray} {k : Nat} {p : ByteArray} (h : ∀ j t, j < k → ps[j]? = some t → preB s t = false) (hp : ps[k]? = some p) (h1 : preB s p = true) : dialK ps s.data.toList = some k := by
 obtain ⟨hk, e⟩ := List.getElem?_eq_some_iff.1 hp
 unfold dialK
 rw [List.findIdx?_eq_some_iff_getElem]
 refine ⟨hk, by rw [e]; exact h1, fun j hj => ?_⟩
 have := h j ps[j] hj (List.getElem?_eq_getElem (by omega))
 unfold preB at this
 simp [this]
theorem dialK_never {ps : List ByteArray} {s : ByteArray} (h : ∀ j t, j < ps.length → ps[j]? = some t → preB s t = false) : dialK ps s.data.toList = none := by
 unfold dialK
 rw [List.findIdx?_eq_none_iff]
 intro p hp
 obtain ⟨j, hj⟩ := List.mem_iff_getElem?.1 hp
 exact h j p (lt_of_some hj) hj

/-- What is answered: the place and the length, or that there is none. -/
def dialA (ps : List ByteArray) (o : Option Nat) : Int := match o with
 | none => -1
 | some k => k
def dialB (ps : List ByteArray) (o : Option Nat) : Int := match o with
 | none => 0
 | some k => sizeAt ps k

set_option maxHeartbeats 400000 in
theorem dialFirst_any (v : Value) (ps : List ByteArray) (s : ByteArray) (w : World) (hv : Rds w v ps.length 1 (strs ps)) (hL : StLen ps) (hs : s.size ≤ maxLen) :
  Calls Try.prog 87 #[v, .string s] w fun e w' => e = .returned (.tuple #[.int .i64 (dialA ps (dialK ps s.data.toList)), .int .i64 (dialB ps (dialK ps s.data.toList))]) ∧ w = w' := by
 obtain ⟨a, ca, rfl, hl1, hm1, hn1, hc1⟩ := hv.open1
 unfold maxLen at hm1
 obtain ⟨n, hn⟩ : ∃ n, ps.length = n := ⟨_, rfl⟩
 rw [hn] at hm1 hn1 hc1 ⊢
 have HN := Lib.hid hn
 have HL := Lib.hid hL
 clear hn hl1 hL hv
 go_enter Try.func87, Try.ntmps87
 go_wp2_with fail
 go_loop [10] (fun i => ∃ k : Nat, k ≤ n ∧ i = .int .i64 k ∧ Hid (∀ j t, j < k → ps[j]? = some t → preB s t = false)) (fun i => n - (intOf i).toNat)
 case atStart => exact ⟨0, by omega, rfl, fun j t h => absurd h (by omega)⟩
 case round =>
  obtain ⟨k, hk, rfl, hno⟩ := hrel
  by_cases hkn : k < n
  ·
   rcases hc1 with hc1 | ⟨b, off, rfl, hb, hc1⟩
   ·
    omega
   obtain ⟨p, hp⟩ : ∃ p, ps[k]? = some p := ⟨_, List.getElem?_eq_getElem (by rw [HN.out]; omega)⟩
   have c1 := hc1 k hkn
   rw [strs_at ps k p hp] at c1
   have hpl := HL.out k p hp
   have hpl' := hpl
   unfold maxLen at hpl'
   have HP := Lib.hid hp
   clear hc1 hp
   go_wp2_with fail
   refine (hasPrefix_any s p _ hs hpl).mono ?_
   rintro e w1 ⟨rfl, rfl⟩
   obtain ⟨d, hd⟩ : ∃ d, preB s p = d := ⟨_, rfl⟩
   have HD := Lib.hid hd
   rw [hd]
   clear hd
   cases d
   ·
    go_wp2_with fail
    go_round
    case rel =>
     refine ⟨k + 1, by omega, by go_num, fun j t hj ht => ?_⟩
     by_cases e : j = k
     ·
      subst e; have := HP.out; rw [ht] at this; cases this; exact HD.out
     ·
      exact hno.out j t (by omega) ht
    case measure => simp [intOf]; omega
   ·
    have HK := Lib.hid (dialK_first hno.out HP.out HD.out)
    have HA : Hid (dialA ps (dialK ps s.data.toList) = (k : Int)) := by unfold Hid; rw [HK.out]; rfl
    have HB : Hid (dialB ps (dialK ps s.data.toList) = (p.size : Int)) := by unfold Hid; rw [HK.out]; show ((sizeAt ps k : Nat) : Int) = _; rw [sizeAt_of HP.out]
    go_wp2
    go_returns
    exact ⟨by rw [HA.out, HB.out]; rfl, rfl⟩
  ·
   obtain rfl : k = n := by omega
   have HK := Lib.hid (dialK_never (ps := ps) (s := s) (by rw [HN.out]; exact hno.out))
   have HA : Hid (dialA ps (dialK ps s.data.toList) = -1) := by unfold Hid; rw [HK.out]; rfl
   have HB : Hid (dialB ps (dialK ps s.data.toList) = 0) := by unfold Hid; rw [HK.out]; rfl
   go_wp2
   go_returns
   exact ⟨by rw [HA.out, HB.out]; rfl, rfl⟩

/-- Which number is dialled; none where the plan or the text is not valid. -/
noncomputable def oneR (ps : List ByteArray) (s : ByteArray) : Option Nat := if (planB ps && digsB s) = true then dialK ps s.data.toList else none
theorem oneR_no {ps : List ByteArray} {s : ByteArray} (h : planB ps = false ∨ digsB s = false) : oneR ps s = none := by
 unfold oneR
 rw [if_neg]
 rcases h with h | h <;> simp [h]
theorem oneR_yes {ps : List ByteArray} {s : ByteArray} (h : planB ps = true) (h' : digsB s = true) : oneR ps s = dialK ps s.data.toList := by
 unfold oneR
 rw [if_pos (by rw [h, h']; rfl)]

set_option maxHeartbeats 400000 in
theorem iDialOne_any (v : Value) (ps : List ByteArray) (s : ByteArray) (w : World) (hv : Rds w v ps.length 1 (strs ps)) (hL : StLen ps) (hs : s.size ≤ maxLen) :
  Calls Try.prog 45 #[v, .string s] w fun e w' => e = .returned (.tuple #[.int .i64 (dialA ps (oneR ps s)), .int .i64 (dialB ps (oneR ps s))]) ∧ w = w' := by
 have HV := Lib.hid hv
 have HL := Lib.hid hL
 clear hv hL
 go_enter Try.func45, Try.ntmps45
 go_wp2_with fail
 refine (iPlanValid_any _ ps _ HV.out HL.out).mono ?_
 rintro e w1 ⟨rfl, rfl⟩
 obtain ⟨d, hd⟩ : ∃ d, planB ps = d := ⟨_, rfl⟩
 have HD := Lib.hid hd
 rw [hd]
 clear hd
 cases d
 ·
  have HK := Lib.hid (oneR_no (s := s) (.inl HD.out))
  go_wp2
  go_returns
  exact ⟨by rw [HK.out]; rfl, rfl⟩
 ·
  go_wp2_with fail
  refine (iDigitsOk_any s _ hs).mono ?_
  rintro e w1 ⟨rfl, rfl⟩
  obtain ⟨d, hd⟩ : ∃ d, digsB s = d := ⟨_, rfl⟩
  have HG := Lib.hid hd
  rw [hd]
  clear hd
  cases d
  ·
   have HK := Lib.hid (oneR_no (ps := ps) (.inr HG.out))
   go_wp2
   go_returns
   exact ⟨by rw [HK.out]; rfl, rfl⟩
  ·
   have HK := Lib.hid (oneR_yes HD.out HG.out)
   go_wp2_with fail
   refine (dialFirst_any _ ps s _ HV.out HL.out hs).mono ?_
   rintro e w1 ⟨rfl, rfl⟩
   go_wp2
   go_returns
   exact ⟨by rw [HK.out]; rfl, rfl⟩

end Go.Proofs.Ytedadhoneebfnaa
