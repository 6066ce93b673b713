/- Joined texts: Cv, Q, Pv, Bc, Rg, Ev. -/
import Derived.Test.YtedadhoneebfnaaDoorJ3
import Derived.Handy
import Derived.IntWalk
import Derived.Deep.QuietTactic
import Derived.BigQuiet
import Derived.Test.YtedadhoneebfnaaDoorLib
import Derived.Test.YtedadhoneebfnaaDoorJ1
import Derived.Test.YtedadhoneebfnaaDoorRows
import Derived.Deep.RegionHeld3
set_option linter.unusedSimpArgs false
set_option linter.unusedVariables false
/- Contracts of CallsValid (program and reference). -/
namespace Go.Proofs.YtedadhoneebfnaaDoor
open Go.RowKit

theorem wrap_quo {L E x : Int} (h0 : 0 ≤ x) (h1 : x < L) (hL : L ≤ 12) (hE : 0 ≤ E) : IntKind.i64.wrap (x / E) = x / E :=
 IntWalk.i64_in _ (by have a1 := Int.ediv_nonneg h0 hE; have a2 := Int.ediv_le_self E h0; omega)
theorem lines_le {O E M : Int} (h : ShapeOk O E M) : O * E ≤ 12 := by
 have ho := h.o
 have he := h.e
 exact Int.le_trans (Int.mul_le_mul_of_nonneg_right ho.2 (by omega)) (Int.mul_le_mul_of_nonneg_left he.2 (by omega))

end Go.Proofs.YtedadhoneebfnaaDoor

/- A quiet region behind a quiet region. -/
namespace Go.Proofs.YtedadhoneebfnaaDoor
open Go.RowKit

theorem quiet_add_same {P : Program} {f : FuncId} {args : Array Value} {w : World} {a n : Nat} {v : Value}
  (h : Calls P f args (w.drewN (a + n)) fun e w' => e = .returned v ∧ w' = w.drewN (a + n)) :
  Calls P f args (w.drewN (a + n)) fun e w'' => e = .returned v ∧ ∃ m, w'' = w.drewN (a + m) :=
 h.mono fun _ _ ⟨he, hm⟩ => ⟨he, n, hm⟩
end Go.Proofs.YtedadhoneebfnaaDoor

/- Contracts of PlanValid (program and reference). -/
namespace Go.Proofs.YtedadhoneebfnaaDoor
open Go.RowKit

/-- The first k numbers are in order, and begin with none of all others. -/
def SpOk (ps : List ByteArray) (k : Nat) : Prop := ∀ i s, i < k → ps[i]? = some s → numB s = true ∧ ∀ j t, j ≠ i → ps[j]? = some t → preB s t = false
theorem SpOk.plan {ps : List ByteArray} (h : SpOk ps ps.length) (h10 : ps.length ≤ 10) : planB ps = true :=
 (planB_iff ps).2 ⟨h10, fun j s hj hs => (h j s hj hs).1, fun i j s t hij hj hs ht => ⟨(h j t hj ht).2 i s (by omega) hs, (h i s (by omega) hs).2 j t (by omega) ht⟩⟩

set_option maxHeartbeats 1000000 in
theorem sPlanValid_any (v : Value) (ps : List ByteArray) (w : World) (hv : Rds w v ps.length 1 (strs ps)) (hL : StLen ps) :
  Calls Tryd.prog 75 #[v] w fun e w' => e = .returned (.bool (planB ps)) ∧ ∃ q, w' = w.drewN q := by
 obtain ⟨a, ca, rfl, hl1, hm1, hn1, hc1⟩ := hv.open1
 unfold maxLen at hm1
 obtain ⟨n, hn⟩ : ∃ n, ps.length = n := ⟨_, rfl⟩
 rw [hn] at hm1 hn1 hc1 ⊢
 have HN := Lib.hid hn
 have HL := Lib.hid hL
 clear hn hl1 hL hv
 go_enter Tryd.func75, Tryd.ntmps75
 go_wp2_with fail
 go_loopw [3] (fun i wr => ∃ k q : Nat, k ≤ n ∧ i = .int .i64 k ∧ Hid (SpOk ps k) ∧ wr = w.drewN q) (fun i _ => n - (intOf i).toNat)
 case atStart => exact ⟨0, 0, by omega, rfl, fun i s h => absurd h (by omega), rfl⟩
 case round =>
  obtain ⟨k, q, hk, rfl, hok, rfl⟩ := hrel
  by_cases hkn : k < n
  ·
   rcases hc1 with hc1 | ⟨b, off, rfl, hb, hc1⟩
   ·
    omega
   obtain ⟨s, hs⟩ : ∃ s, ps[k]? = some s := ⟨_, List.getElem?_eq_getElem (by rw [HN.out]; omega)⟩
   have c1 := hc1 k hkn
   rw [strs_at ps k s hs] at c1
   have hsl' := HL.out k s hs
   have hsl := hsl'
   unfold maxLen at hsl
   have HS := Lib.hid hs
   have HC := Lib.hid hc1
   clear hc1 hs
   go_wp2_with fail
   refine (sDigitsOk_any s _ hsl').mono ?_
   rintro e w1 ⟨rfl, rfl⟩
   obtain ⟨d, hd⟩ : ∃ d, digsB s = d := ⟨_, rfl⟩
   have HD := Lib.hid hd
   rw [hd]
   clear hd
   cases d
   ·
    have HF := Lib.hid (plan_no_at HS.out (by simp [numB, HD.out]))
    go_wp2
    go_returns
    exact ⟨by rw [HF.out]; rfl, _, rfl⟩
   ·
    go_wp2_with fail
    refine (sIn_any _ _ _ _).mono ?_
    rintro e w1 ⟨rfl, rfl⟩
    obtain ⟨d, hd⟩ : ∃ d, (decide ((1 : Int) ≤ (s.size : Int)) && decide ((s.size : Int) ≤ 3)) = d := ⟨_, rfl⟩
    have HO := Lib.hid hd
    rw [hd]
    clear hd
    cases d
    ·
     have HF := Lib.hid (plan_no_at HS.out (by
      have h := HO.out
      simp only [numB, HD.out, Bool.and_true, Bool.and_eq_false_iff, decide_eq_false_iff_not] at h ⊢
      omega))
     go_wp2
     go_returns
     exact ⟨by rw [HF.out]; rfl, _, rfl⟩
    ·
     have HT : Hid (numB s = true) := by
      have h := HO.out
      simp only [Hid, numB, HD.out, Bool.and_true, Bool.and_eq_true, decide_eq_true_eq] at h ⊢
      omega
     go_wp2_with fail
     go_loopw [4] (fun j wi => ∃ m q : Nat, m ≤ n ∧ j = .int .i64 m ∧ Hid (∀ i t, i < m → i ≠ k → ps[i]? = some t → preB s t = false) ∧ wi = w.drewN q) (fun j _ => n - (intOf j).toNat)
     case atStart => exact ⟨0, q, by omega, rfl, fun i t hi => absurd hi (by omega), rfl⟩
     case round =>
      obtain ⟨m, q2, hm, rfl, hne, rfl⟩ := hrel
      by_cases hmn : m < n
      ·
       obtain ⟨t, ht⟩ : ∃ t, ps[m]? = some t := ⟨_, List.getElem?_eq_getElem (by rw [HN.out]; omega)⟩
       have c2 := HC.out m (by omega)
       rw [strs_at ps m t ht] at c2
       have htl := HL.out m t ht
       have HT2 := Lib.hid ht
       clear ht
       by_cases hmk : m = k
       ·
        have hmb : ((m : Int) != (k : Int)) = false := by simp [hmk]
        go_wp2_with fail
        go_quiet (fail)
        go_wp2
        go_roundw
        case rel =>
         refine ⟨m + 1, _, by omega, by go_num, ?_, rfl⟩
         intro i u hi hik hu
         exact hne.out i u (by omega) hik hu
        case measure => simp [intOf]; omega
       ·
        have hmb : ((m : Int) != (k : Int)) = true := by simp; omega
        obtain ⟨d, hd⟩ : ∃ d, preB s t = d := ⟨_, rfl⟩
        have HP := Lib.hid hd
        clear hd
        have kc : Hid (∀ w : World, Calls Tryd.prog 92 #[.string s, .string t] w fun e w' => e = .returned (.bool d) ∧ w' = w) := fun w => (l6Begins_any s t w hsl' htl).mono (fun e w' h => ⟨by rw [h.1, HP.out], h.2.symm⟩)
        go_wp2_with fail
        go_quiet ((go_at_call 92; exact quiet_add_same (kc.out _)))
        cases d
        ·
         go_wp2
         go_roundw
         case rel =>
          refine ⟨m + 1, _, by omega, by go_num, ?_, rfl⟩
          intro i u hi hik hu
          by_cases e : i = m
          ·
           subst e; have := HT2.out; rw [hu] at this; cases this; exact HP.out
          ·
           exact hne.out i u (by omega) hik hu
         case measure => simp [intOf]; omega
        ·
         have HF := Lib.hid (plan_no_pair hmk HT2.out HS.out HP.out)
         go_wp2
         go_returns
         exact ⟨by rw [HF.out]; rfl, _, by rw [World.drewN_drewN]⟩
      ·
       obtain rfl : m = n := by omega
       go_wp2_with fail
       go_roundw
       case rel =>
        refine ⟨k + 1, _, by omega, by go_num, ?_, rfl⟩
        intro i u hi hu
        by_cases e : i = k
        ·
         subst e
         have := HS.out; rw [hu] at this; cases this
         exact ⟨HT.out, fun j t hj ht => hne.out j t (by have := (List.getElem?_eq_some_iff.1 ht).1; rw [HN.out] at this; exact this) hj ht⟩
        ·
         exact hok.out i u (by omega) hu
       case measure => simp [intOf]; omega
  ·
   obtain rfl : k = n := by omega
   by_cases h10 : k ≤ 10
   ·
    have HF : Hid (planB ps = true) := SpOk.plan (by rw [HN.out]; exact hok.out) (by rw [HN.out]; exact h10)
    have hd : decide ((k : Int) ≤ 10) = true := by simp; omega
    go_wp2
    go_returns
    exact ⟨by rw [HF.out]; rfl, _, rfl⟩
   ·
    have HF : Hid (planB ps = false) := planB_no (fun ok => h10 (by have := ok.1; rw [HN.out] at this; exact this))
    have hd : decide ((k : Int) ≤ 10) = false := by simp; omega
    go_wp2
    go_returns
    exact ⟨by rw [HF.out]; rfl, _, rfl⟩

end Go.Proofs.YtedadhoneebfnaaDoor

/- Rows of truths: their cells. -/
namespace Go.Proofs.YtedadhoneebfnaaDoor
open Go.RowKit

end Go.Proofs.YtedadhoneebfnaaDoor

/- Steps through a region that draws its order, by hand: an operation is taken first, or left out where its guard is false. No program in sight. -/
namespace Go.Proofs.YtedadhoneebfnaaDoor
open Go.RowKit

section
variable {P : Program} {ops : Array Oper} {Q : Exit → Act → World → Prop} {md : Region.Mode} {S : World → Prop}
theorem take_on {i : Nat} {oi : Oper} {v : Value} {d : Option Tmp} {fuel : Nat} {listed : Array Bool} {a : Act} {w : World} (hi : ops[i]? = some oi) (hd : oi.dst = d)
  (hs : Region.noSelect ops = true) (hf : Region.free md ops listed i = true) (hr : (Region.ready md ops listed).contains i = true)
  (hQ : ∀ c a w, Q (.panic c) (a.put d v) w → Q (.panic c) a w) (hy : YieldsIf P ops S oi v a) (hS : S w)
  (h : wpAnyH P md ops Q S fuel (listed.setIfInBounds i true) (a.put d v) w) : wpAnyH P md ops Q S (fuel + 1) listed a w := by
 subst hd
 exact wpAnyH_take hi hs hf hr hQ hy hS h
/-- An operation that yields, shortly. -/
theorem take_y {S : World → Prop} (i d : Nat) {oi : Oper} {v : Value} {fuel : Nat} {listed : Array Bool} {a : Act} {w : World} (hi : ops[i]? = some oi)
  (hv : ∀ w, S w → (execOp a.eval oi).run P w = .ok (.value v) w) (h : wpAnyH P md ops Q S fuel (listed.setIfInBounds i true) (a.put (some d) v) w)
  (hd : oi.dst = some d := by rfl) (hs : Region.noSelect ops = true := by kernel_rfl) (hf : Region.free md ops listed i = true := by kernel_rfl) (hr : (Region.ready md ops listed).contains i = true := by kernel_rfl)
  (hQ : ∀ c a w, Q (.panic c) (a.put (some d) v) w → Q (.panic c) a w := by exact fun _ _ _ h => h) (hw : Region.wanted oi (yielded ops a.tmps) = true := by kernel_rfl) (hS : S w := by assumption) :
  wpAnyH P md ops Q S (fuel + 1) listed a w := take_on hi hd hs hf hr hQ (Or.inl ⟨hw, hv⟩) hS h
end

end Go.Proofs.YtedadhoneebfnaaDoor

/- Contract of ExchangeValid of the program. -/
namespace Go.Proofs.YtedadhoneebfnaaDoor
open Go.RowKit

theorem enoughB_iff (O E M : Int) : enoughB O E M = true ↔ ShapeOk O E M ∧ E ≤ M := by
 unfold enoughB
 rw [Bool.and_eq_true, shapeB_iff, decide_eq_true_eq]
theorem ex_en {O E M : Int} {ps : List ByteArray} {cs : List Cl} (h : enoughB O E M = false) : exB O E M ps cs = false :=
 exB_no fun ok => by have := (enoughB_iff O E M).2 ⟨ok.calls.sh, ok.en⟩; rw [h] at this; cases this
theorem ex_plan {O E M : Int} {ps : List ByteArray} {cs : List Cl} (h : planB ps = false) : exB O E M ps cs = false :=
 exB_no fun ok => by have := (planB_iff ps).2 ok.plan; rw [h] at this; cases this
theorem ex_len {O E M : Int} {ps : List ByteArray} {cs : List Cl} (h : ¬ (ps.length : Int) = O * E) : exB O E M ps cs = false :=
 exB_no fun ok => h ok.len
theorem ex_calls {O E M : Int} {ps : List ByteArray} {cs : List Cl} (h : callsB O E M cs = false) : exB O E M ps cs = false :=
 exB_no fun ok => by have := (callsB_iff O E M cs).2 ok.calls; rw [h] at this; cases this

end Go.Proofs.YtedadhoneebfnaaDoor
