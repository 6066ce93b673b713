/- Contracts of PlanValid (program and reference). -/
import Derived.Test.YtedadhoneebfnaaPlP
import Derived.Test.YtedadhoneebfnaaStr
import Derived.Test.YtedadhoneebfnaaQ
import Derived.Handy
import Derived.Deep.QuietTactic
import Derived.BigQuiet
set_option linter.unusedSimpArgs false
set_option linter.unusedVariables false
namespace Go.Proofs.Ytedadhoneebfnaa
open Go.RowKit

/-- The first k numbers are in order, and begin with none of all others. -/
def SpOk (ps : List ByteArray) (k : Nat) : Prop := ∀ i s, i < k → ps[i]? = some s → numB s = true ∧ ∀ j t, j ≠ i → ps[j]? = some t → preB s t = false
theorem SpOk.plan {ps : List ByteArray} (h : SpOk ps ps.length) (h10 : ps.length ≤ 10) : planB ps = true :=
  (planB_iff ps).2 ⟨h10, fun j s hj hs => (h j s hj hs).1, fun i j s t hij hj hs ht => ⟨(h j t hj ht).2 i s (by omega) hs, (h i s (by omega) hs).2 j t (by omega) ht⟩⟩

set_option maxHeartbeats 1000000 in
theorem iPlanValid_any (v : Value) (ps : List ByteArray) (w : World) (hv : Rds w v ps.length 1 (strs ps)) (hL : StLen ps) :
    Calls Try.prog 69 #[v] w fun e w' => e = .returned (.bool (planB ps)) ∧ w = w' := by
  obtain ⟨a, ca, rfl, hl1, hm1, hn1, hc1⟩ := hv.open1
  unfold maxLen at hm1
  obtain ⟨n, hn⟩ : ∃ n, ps.length = n := ⟨_, rfl⟩
  rw [hn] at hm1 hn1 hc1 ⊢
  have HN := Lib.hid hn
  have HL := Lib.hid hL
  clear hn hl1 hL hv
  by_cases h10 : n ≤ 10
  · go_enter Try.func69, Try.ntmps69
    go_wp2_with fail
    go_loop [12] (fun i => ∃ k : Nat, k ≤ n ∧ i = .int .i64 k ∧ Hid (PlOk ps k)) (fun i => n - (intOf i).toNat)
    case atStart => exact ⟨0, by omega, rfl, PlOk.zero ps⟩
    case round =>
      obtain ⟨k, hk, rfl, hok⟩ := hrel
      by_cases hkn : k < n
      · rcases hc1 with hc1 | ⟨b, off, rfl, hb, hc1⟩
        · omega
        obtain ⟨s, hs⟩ : ∃ s, ps[k]? = some s := ⟨_, List.getElem?_eq_getElem (by rw [HN.out]; omega)⟩
        have c1 := hc1 k hkn
        rw [strs_at ps k s hs] at c1
        have hsl' := HL.out k s hs
        have hsl := hsl'
        unfold maxLen at hsl
        have HS := Lib.hid hs
        have HC := Lib.hid hc1
        clear hc1 hs
        by_cases h1 : 1 ≤ s.size
        · by_cases h3 : s.size ≤ 3
          · go_wp2_with fail
            refine (iDigitsOk_any s _ hsl').mono ?_
            rintro e w1 ⟨rfl, rfl⟩
            obtain ⟨d, hd⟩ : ∃ d, digsB s = d := ⟨_, rfl⟩
            have HD := Lib.hid hd
            rw [hd]
            clear hd
            cases d
            · have HF := Lib.hid (plan_no_at HS.out (by simp [numB, HD.out]))
              go_wp2
              go_returns
              exact ⟨by rw [HF.out]; rfl, rfl⟩
            · have HT : Hid (numB s = true) := by simp [Hid, numB, h1, h3, HD.out]
              go_wp2_with fail
              clear c1
              go_loop [34] (fun j => ∃ m : Nat, m ≤ k ∧ j = .int .i64 m ∧ Hid (∀ i t, i < m → ps[i]? = some t → preB s t = false ∧ preB t s = false)) (fun j => k - (intOf j).toNat)
              case atStart => exact ⟨0, by omega, rfl, fun i t hi => absurd hi (by omega)⟩
              case round =>
                obtain ⟨m, hm, rfl, hne⟩ := hrel
                by_cases hmk : m < k
                · obtain ⟨t, ht⟩ : ∃ t, ps[m]? = some t := ⟨_, List.getElem?_eq_getElem (by rw [HN.out]; omega)⟩
                  have c2 := HC.out m (by omega)
                  rw [strs_at ps m t ht] at c2
                  have htl := HL.out m t ht
                  have HT2 := Lib.hid ht
                  clear ht
                  go_wp2_with fail
                  refine (hasPrefix_any s t _ hsl' htl).mono ?_
                  rintro e w1 ⟨rfl, rfl⟩
                  obtain ⟨d, hd⟩ : ∃ d, preB s t = d := ⟨_, rfl⟩
                  have HP := Lib.hid hd
                  rw [hd]
                  clear hd
                  cases d
                  · go_wp2_with fail
                    refine (hasPrefix_any t s _ htl hsl').mono ?_
                    rintro e w1 ⟨rfl, rfl⟩
                    obtain ⟨d, hd⟩ : ∃ d, preB t s = d := ⟨_, rfl⟩
                    have HQ := Lib.hid hd
                    rw [hd]
                    clear hd
                    cases d
                    · go_wp2_with fail
                      go_round
                      case rel =>
                        refine ⟨m + 1, by omega, by go_num, ?_⟩
                        intro i u hi hu
                        by_cases e : i = m
                        · subst e; have := HT2.out; rw [hu] at this; cases this; exact ⟨HP.out, HQ.out⟩
                        · exact hne.out i u (by omega) hu
                      case measure => simp [intOf]; omega
                    · have HF := Lib.hid (plan_no_pair (show k ≠ m by omega) HS.out HT2.out HQ.out)
                      go_wp2
                      go_returns
                      exact ⟨by rw [HF.out]; rfl, rfl⟩
                  · have HF := Lib.hid (plan_no_pair (show m ≠ k by omega) HT2.out HS.out HP.out)
                    go_wp2
                    go_returns
                    exact ⟨by rw [HF.out]; rfl, rfl⟩
                · obtain rfl : m = k := by omega
                  go_wp2_with fail
                  go_round
                  case rel => exact ⟨m + 1, by omega, by go_num, hok.out.succ HS.out HT.out hne.out⟩
                  case measure => simp [intOf]; omega
          · have HF := Lib.hid (plan_no_at HS.out (by simp [numB, h3]))
            go_wp2
            go_returns
            exact ⟨by rw [HF.out]; rfl, rfl⟩
        · have HF := Lib.hid (plan_no_at HS.out (by simp [numB, h1]))
          go_wp2
          go_returns
          exact ⟨by rw [HF.out]; rfl, rfl⟩
      · obtain rfl : k = n := by omega
        have HF : Hid (planB ps = true) := (planB_iff ps).2 ⟨by rw [HN.out]; exact h10, by rw [HN.out]; exact hok.out⟩
        go_wp2
        go_returns
        exact ⟨by rw [HF.out]; rfl, rfl⟩
  · have HF : Hid (planB ps = false) := planB_no (fun ok => h10 (by have := ok.1; rw [HN.out] at this; exact this))
    go_enter Try.func69, Try.ntmps69
    go_wp2
    go_returns
    exact ⟨by rw [HF.out]; rfl, rfl⟩

set_option maxHeartbeats 1000000 in
theorem sPlanValid_any (v : Value) (ps : List ByteArray) (w : World) (hv : Rds w v ps.length 1 (strs ps)) (hL : StLen ps) :
    Calls Try.prog 64 #[v] w fun e w' => e = .returned (.bool (planB ps)) ∧ ∃ q, w' = w.drewN q := by
  obtain ⟨a, ca, rfl, hl1, hm1, hn1, hc1⟩ := hv.open1
  unfold maxLen at hm1
  obtain ⟨n, hn⟩ : ∃ n, ps.length = n := ⟨_, rfl⟩
  rw [hn] at hm1 hn1 hc1 ⊢
  have HN := Lib.hid hn
  have HL := Lib.hid hL
  clear hn hl1 hL hv
  go_enter Try.func64, Try.ntmps64
  go_wp2_with fail
  go_loopw [3] (fun i wr => ∃ k q : Nat, k ≤ n ∧ i = .int .i64 k ∧ Hid (SpOk ps k) ∧ wr = w.drewN q) (fun i _ => n - (intOf i).toNat)
  case atStart => exact ⟨0, 0, by omega, rfl, fun i s h => absurd h (by omega), rfl⟩
  case round =>
    obtain ⟨k, q, hk, rfl, hok, rfl⟩ := hrel
    by_cases hkn : k < n
    · rcases hc1 with hc1 | ⟨b, off, rfl, hb, hc1⟩
      · omega
      obtain ⟨s, hs⟩ : ∃ s, ps[k]? = some s := ⟨_, List.getElem?_eq_getElem (by rw [HN.out]; omega)⟩
      have c1 := hc1 k hkn
      rw [strs_at ps k s hs] at c1
      have hsl' := HL.out k s hs
      have hsl := hsl'
      unfold maxLen at hsl
      have HS := Lib.hid hs
      have HC := Lib.hid hc1
      clear hc1 hs
      go_wp2_with fail
      refine (sDigitsOk_any s _ hsl').mono ?_
      rintro e w1 ⟨rfl, rfl⟩
      obtain ⟨d, hd⟩ : ∃ d, digsB s = d := ⟨_, rfl⟩
      have HD := Lib.hid hd
      rw [hd]
      clear hd
      cases d
      · have HF := Lib.hid (plan_no_at HS.out (by simp [numB, HD.out]))
        go_wp2
        go_returns
        exact ⟨by rw [HF.out]; rfl, _, rfl⟩
      · go_wp2_with fail
        refine (sIn_any _ _ _ _).mono ?_
        rintro e w1 ⟨rfl, rfl⟩
        obtain ⟨d, hd⟩ : ∃ d, (decide ((1 : Int) ≤ (s.size : Int)) && decide ((s.size : Int) ≤ 3)) = d := ⟨_, rfl⟩
        have HO := Lib.hid hd
        rw [hd]
        clear hd
        cases d
        · have HF := Lib.hid (plan_no_at HS.out (by
            have h := HO.out
            simp only [numB, HD.out, Bool.and_true, Bool.and_eq_false_iff, decide_eq_false_iff_not] at h ⊢
            omega))
          go_wp2
          go_returns
          exact ⟨by rw [HF.out]; rfl, _, rfl⟩
        · have HT : Hid (numB s = true) := by
            have h := HO.out
            simp only [Hid, numB, HD.out, Bool.and_true, Bool.and_eq_true, decide_eq_true_eq] at h ⊢
            omega
          go_wp2_with fail
          go_loopw [4] (fun j wi => ∃ m q : Nat, m ≤ n ∧ j = .int .i64 m ∧ Hid (∀ i t, i < m → i ≠ k → ps[i]? = some t → preB s t = false) ∧ wi = w.drewN q) (fun j _ => n - (intOf j).toNat)
          case atStart => exact ⟨0, q, by omega, rfl, fun i t hi => absurd hi (by omega), rfl⟩
          case round =>
            obtain ⟨m, q2, hm, rfl, hne, rfl⟩ := hrel
            by_cases hmn : m < n
            · obtain ⟨t, ht⟩ : ∃ t, ps[m]? = some t := ⟨_, List.getElem?_eq_getElem (by rw [HN.out]; omega)⟩
              have c2 := HC.out m (by omega)
              rw [strs_at ps m t ht] at c2
              have htl := HL.out m t ht
              have HT2 := Lib.hid ht
              clear ht
              by_cases hmk : m = k
              · have hmb : ((m : Int) != (k : Int)) = false := by simp [hmk]
                go_wp2_with fail
                go_quiet (fail)
                go_wp2
                go_roundw
                case rel =>
                  refine ⟨m + 1, _, by omega, by go_num, ?_, rfl⟩
                  intro i u hi hik hu
                  exact hne.out i u (by omega) hik hu
                case measure => simp [intOf]; omega
              · have hmb : ((m : Int) != (k : Int)) = true := by simp; omega
                obtain ⟨d, hd⟩ : ∃ d, preB s t = d := ⟨_, rfl⟩
                have HP := Lib.hid hd
                clear hd
                have kc : Hid (∀ w : World, Calls Try.prog 102 #[.string s, .string t] w fun e w' => e = .returned (.bool d) ∧ w' = w) := fun w => (l6Begins_any s t w hsl' htl).mono (fun e w' h => ⟨by rw [h.1, HP.out], h.2.symm⟩)
                go_wp2_with fail
                go_quiet ((go_at_call 102; exact quiet_add_same (kc.out _)))
                cases d
                · go_wp2
                  go_roundw
                  case rel =>
                    refine ⟨m + 1, _, by omega, by go_num, ?_, rfl⟩
                    intro i u hi hik hu
                    by_cases e : i = m
                    · subst e; have := HT2.out; rw [hu] at this; cases this; exact HP.out
                    · exact hne.out i u (by omega) hik hu
                  case measure => simp [intOf]; omega
                · have HF := Lib.hid (plan_no_pair hmk HT2.out HS.out HP.out)
                  go_wp2
                  go_returns
                  exact ⟨by rw [HF.out]; rfl, _, by rw [World.drewN_drewN]⟩
            · obtain rfl : m = n := by omega
              go_wp2_with fail
              go_roundw
              case rel =>
                refine ⟨k + 1, _, by omega, by go_num, ?_, rfl⟩
                intro i u hi hu
                by_cases e : i = k
                · subst e
                  have := HS.out; rw [hu] at this; cases this
                  exact ⟨HT.out, fun j t hj ht => hne.out j t (by have := (List.getElem?_eq_some_iff.1 ht).1; rw [HN.out] at this; exact this) hj ht⟩
                · exact hok.out i u (by omega) hu
              case measure => simp [intOf]; omega
    · obtain rfl : k = n := by omega
      by_cases h10 : k ≤ 10
      · have HF : Hid (planB ps = true) := SpOk.plan (by rw [HN.out]; exact hok.out) (by rw [HN.out]; exact h10)
        have hd : decide ((k : Int) ≤ 10) = true := by simp; omega
        go_wp2
        go_returns
        exact ⟨by rw [HF.out]; rfl, _, rfl⟩
      · have HF : Hid (planB ps = false) := planB_no (fun ok => h10 (by have := ok.1; rw [HN.out] at this; exact this))
        have hd : decide ((k : Int) ≤ 10) = false := by simp; omega
        go_wp2
        go_returns
        exact ⟨by rw [HF.out]; rfl, _, rfl⟩

end Go.Proofs.Ytedadhoneebfnaa
