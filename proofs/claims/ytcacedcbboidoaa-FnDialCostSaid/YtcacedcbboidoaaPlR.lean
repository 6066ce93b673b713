/- Plain facts on tables of routes. No program in sight. -/
import Derived.Test.YtcacedcbboidoaaDig
set_option linter.unusedSimpArgs false
set_option linter.unusedVariables false
namespace Go.Proofs.Ytcacedcbboidoaa
open Go.RowKit

/-- A route: what it begins with, and its outlet. -/
abbrev Rt := ByteArray × Int
/-- The cells of a table. -/
def rcells (rs : List Rt) : List Value := rs.flatMap fun r => [.string r.1, .int .i64 r.2]
theorem rcells_len (rs : List Rt) : (rcells rs).length = rs.length * 2 := by
  induction rs with
  | nil => rfl
  | cons r rs ih => simp only [rcells, List.flatMap_cons, List.length_append] at ih ⊢; simp [ih]; omega
theorem rcells_at (rs : List Rt) : ∀ (k : Nat) (r : Rt), rs[k]? = some r → (rcells rs)[k * 2]? = some (.string r.1) ∧ (rcells rs)[k * 2 + 1]? = some (.int .i64 r.2) := by
  induction rs with
  | nil => intro k r h; simp at h
  | cons x rs ih =>
    intro k r h
    cases k with
    | zero => simp at h; subst h; simp [rcells]
    | succ k =>
      have h' : rs[k]? = some r := by simpa using h
      have := ih k r h'
      rw [show (k + 1) * 2 = k * 2 + 2 by omega]
      simpa [rcells, List.flatMap_cons] using this

def rtB (r : Rt) : Bool := decide (r.1.size ≤ 3) && digsB r.1 && (decide (0 ≤ r.2) && decide (r.2 ≤ 99))
/-- The first k routes are in order. -/
def RtOk (rs : List Rt) (k : Nat) : Prop := (∀ j r, j < k → rs[j]? = some r → rtB r = true) ∧ ∀ i j r s, i < j → j < k → rs[i]? = some r → rs[j]? = some s → r.1 ≠ s.1
def RoutesOk (rs : List Rt) : Prop := rs.length ≤ 8 ∧ RtOk rs rs.length
noncomputable def routesB (rs : List Rt) : Bool := @decide (RoutesOk rs) (Classical.propDecidable _)
theorem routesB_iff (rs : List Rt) : routesB rs = true ↔ RoutesOk rs := by unfold routesB; exact @decide_eq_true_iff _ (Classical.propDecidable _)
theorem routesB_no {rs : List Rt} (h : ¬ RoutesOk rs) : routesB rs = false := by
  rw [Bool.eq_false_iff]; exact fun e => h ((routesB_iff rs).1 e)
theorem RtOk.zero (rs : List Rt) : RtOk rs 0 := ⟨fun j r h => absurd h (by omega), fun i j r s _ h => absurd h (by omega)⟩
theorem RtOk.succ {rs : List Rt} {k : Nat} {r : Rt} (h : RtOk rs k) (hr : rs[k]? = some r) (h1 : rtB r = true) (h2 : ∀ j s, j < k → rs[j]? = some s → s.1 ≠ r.1) : RtOk rs (k + 1) := by
  refine ⟨fun j s hj hs => ?_, fun i j s t hij hj hs ht => ?_⟩
  · by_cases e : j = k
    · subst e; rw [hr] at hs; cases hs; exact h1
    · exact h.1 j s (by omega) hs
  · by_cases e : j = k
    · subst e; rw [hr] at ht; cases ht; exact h2 i s hij hs
    · exact h.2 i j s t hij (by omega) hs ht
theorem RoutesOk.at {rs : List Rt} (h : RoutesOk rs) (k : Nat) (r : Rt) (hr : rs[k]? = some r) : rtB r = true := by
  have hk : k < rs.length := by
    rcases Nat.lt_or_ge k rs.length with h' | h'
    · exact h'
    · rw [List.getElem?_eq_none h'] at hr; cases hr
  exact h.2.1 k r hk hr
theorem not_ok_at {rs : List Rt} {k : Nat} {r : Rt} (hr : rs[k]? = some r) (h : rtB r = false) : routesB rs = false :=
  routesB_no fun ok => by have := ok.at k r hr; rw [h] at this; cases this
theorem not_ok_pair {rs : List Rt} {i j : Nat} {r s : Rt} (hij : i < j) (hr : rs[i]? = some r) (hs : rs[j]? = some s) (h : r.1 = s.1) : routesB rs = false :=
  routesB_no fun ok => by
    have hj : j < rs.length := by
      rcases Nat.lt_or_ge j rs.length with h' | h'
      · exact h'
      · rw [List.getElem?_eq_none h'] at hs; cases hs
    exact ok.2.2 i j r s hij hj hr hs h

end Go.Proofs.Ytcacedcbboidoaa
