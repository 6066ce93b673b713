/- Plain mathematics for the chapter on blocking: fractions, lost parts, busy parts. No program in sight. -/
import Derived.WalkKit
set_option linter.unusedSimpArgs false
set_option linter.unusedVariables false
namespace Go.Proofs.Ytmckjikdecmagaa
open Go.RowKit

def fracValidB (n d : Int) : Bool := decide (0 ≤ n) && decide (n ≤ 1000000000) && decide (1 ≤ d) && decide (d ≤ 1000000000)

/-- 'a/b is less than c/d'. -/
def fracLessB (a b c d : Int) : Bool := fracValidB a b && fracValidB c d && decide (a * d < c * b)

theorem fracValidB_iff (n d : Int) : fracValidB n d = true ↔ 0 ≤ n ∧ n ≤ 1000000000 ∧ 1 ≤ d ∧ d ≤ 1000000000 := by
  simp [fracValidB, and_assoc]

theorem mul_small (a b : Int) (h0 : 0 ≤ a) (h1 : a ≤ 1000000000) (h2 : 0 ≤ b) (h3 : b ≤ 1000000000) : 0 ≤ a * b ∧ a * b ≤ 1000000000000000000 := by
  refine ⟨Int.mul_nonneg h0 h2, ?_⟩
  have := Int.mul_le_mul h1 h3 h2 (by omega)
  omega

theorem less_irrefl (a b : Int) : fracLessB a b a b = false := by simp [fracLessB]
theorem less_asymm (a b c d : Int) (h : fracLessB a b c d = true) : fracLessB c d a b = false := by
  simp only [fracLessB, Bool.and_eq_true, decide_eq_true_eq] at h
  have : ¬ c * b < a * d := by omega
  simp [fracLessB, this]
theorem less_valid (a b c d : Int) (h : fracLessB a b c d = true) : fracValidB a b = true ∧ fracValidB c d = true := by
  simp only [fracLessB, Bool.and_eq_true, decide_eq_true_eq] at h
  exact h.1

/-- One step of the lost part: the load times p, by the number of lines and the load times p together, in lowest terms. -/
def lowP (num den : Nat) : Nat × Nat := (num / Nat.gcd den num, den / Nat.gcd den num)
def lostP (load : Nat) : Nat → Nat × Nat
  | 0 => (1, 1)
  | n + 1 => lowP (load * (lostP load n).1) ((n + 1) * (lostP load n).2 + load * (lostP load n).1)

def loadOk (load trunks : Int) : Bool := decide (0 ≤ load) && decide (load ≤ 6) && decide (0 ≤ trunks) && decide (trunks ≤ 8)
theorem loadOk_iff (l t : Int) : loadOk l t = true ↔ 0 ≤ l ∧ l ≤ 6 ∧ 0 ≤ t ∧ t ≤ 8 := by simp [loadOk, and_assoc]

theorem lostP_small : ∀ l : Nat, l ≤ 6 → ∀ n : Nat, n ≤ 8 → (lostP l n).1 ≤ 100000000 ∧ 1 ≤ (lostP l n).2 ∧ (lostP l n).2 ≤ 100000000 := by
  have h : ∀ l : Fin 7, ∀ n : Fin 9, (lostP l n).1 ≤ 100000000 ∧ 1 ≤ (lostP l n).2 ∧ (lostP l n).2 ≤ 100000000 := by decide +kernel
  intro l hl n hn
  exact h ⟨l, by omega⟩ ⟨n, by omega⟩

theorem lostP_le : ∀ l : Nat, l ≤ 6 → ∀ n : Nat, n ≤ 8 → (lostP l n).1 ≤ (lostP l n).2 := by
  have h : ∀ l : Fin 7, ∀ n : Fin 9, (lostP l n).1 ≤ (lostP l n).2 := by decide +kernel
  intro l hl n hn
  exact h ⟨l, by omega⟩ ⟨n, by omega⟩

/-- The product of the d numbers behind n. -/
def rise (n : Nat) : Nat → Nat
  | 0 => 1
  | d + 1 => rise n d * (n + d + 1)
/-- How often n of t lines are busy with the load l. -/
def busyAt (l t n : Nat) : Nat := l ^ n * rise n (t - n)
def busyL (l t : Nat) : List Nat := (List.range (t + 1)).map (busyAt l t)
/-- The first j are reckoned, the others still 0. -/
def partL (l t j : Nat) : List Int := (List.range (t + 1)).map fun i => if i < j then (busyAt l t i : Int) else 0
theorem partL_len (l t j : Nat) : (partL l t j).length = t + 1 := by simp [partL]
theorem partL_zero (l t : Nat) : partL l t 0 = List.replicate (t + 1) 0 := by
  apply List.ext_getElem <;> simp [partL]
theorem partL_all (l t : Nat) : partL l t (t + 1) = (busyL l t).map (fun x : Nat => (x : Int)) := by
  apply List.ext_getElem
  · simp [partL, busyL]
  · intro i h1 h2
    simp [partL, busyL] at h1 ⊢
    intro h; omega
theorem partL_set (l t j : Nat) (hj : j ≤ t) : (partL l t j).set j (busyAt l t j : Int) = partL l t (j + 1) := by
  apply List.ext_getElem
  · simp [partL]
  · intro i h1 h2
    simp only [List.getElem_set]
    by_cases h : j = i
    · subst h; simp [partL]
    · simp [partL, h]; congr 1; simp; omega

theorem rise_le (n : Nat) : ∀ d, n + d ≤ 8 → rise n d ≤ 8 ^ d := by
  intro d
  induction d with
  | zero => intro _; simp [rise]
  | succ d ih =>
    intro h
    have := Nat.mul_le_mul (ih (by omega)) (show n + d + 1 ≤ 8 by omega)
    rw [rise, Nat.pow_succ]; exact this
theorem pow_small (l n : Nat) (hl : l ≤ 6) (hn : n ≤ 9) : l ^ n ≤ 10077696 := by
  have h1 : l ^ n ≤ 6 ^ n := Nat.pow_le_pow_left hl n
  have h2 : 6 ^ n ≤ 6 ^ 9 := Nat.pow_le_pow_right (by omega) hn
  omega
theorem rise_small (n d : Nat) (h : n + d ≤ 8) : rise n d ≤ 16777216 := by
  have h1 := rise_le n d h
  have h2 : 8 ^ d ≤ 8 ^ 8 := Nat.pow_le_pow_right (by omega) (by omega)
  omega
theorem powrise_small (l n d : Nat) (hl : l ≤ 6) (h : n + d ≤ 8) : l ^ n * rise n d ≤ 169075682574336 := by
  have := Nat.mul_le_mul (pow_small l n hl (by omega)) (rise_small n d h)
  omega

def sumTo (l t k : Nat) : Nat := ((busyL l t).take k).sum
theorem busy_finite : ∀ l : Fin 7, ∀ t : Fin 9, (∀ n : Fin 9, n.val ≤ t.val → busyAt l t n ≤ 10000000) ∧ (∀ k : Fin 10, sumTo l t k ≤ 100000000) ∧ 1 ≤ sumTo l t (t + 1) ∧ lowP (busyAt l t t) (sumTo l t (t + 1)) = lostP l t := by decide +kernel
theorem busyAt_small (l t n : Nat) (hl : l ≤ 6) (ht : t ≤ 8) (hn : n ≤ t) : busyAt l t n ≤ 10000000 := (busy_finite ⟨l, by omega⟩ ⟨t, by omega⟩).1 ⟨n, by omega⟩ hn
theorem sumTo_small (l t k : Nat) (hl : l ≤ 6) (ht : t ≤ 8) (hk : k ≤ 9) : sumTo l t k ≤ 100000000 := (busy_finite ⟨l, by omega⟩ ⟨t, by omega⟩).2.1 ⟨k, by omega⟩
theorem sumTo_pos (l t : Nat) (hl : l ≤ 6) (ht : t ≤ 8) : 1 ≤ sumTo l t (t + 1) := (busy_finite ⟨l, by omega⟩ ⟨t, by omega⟩).2.2.1
theorem lostSum_eq (l t : Nat) (hl : l ≤ 6) (ht : t ≤ 8) : lowP (busyAt l t t) (sumTo l t (t + 1)) = lostP l t := (busy_finite ⟨l, by omega⟩ ⟨t, by omega⟩).2.2.2
theorem sumTo_step (l t k : Nat) (hk : k ≤ t) : sumTo l t (k + 1) = sumTo l t k + busyAt l t k := by
  have h : (busyL l t)[k]? = some (busyAt l t k) := by simp [busyL, show k < t + 1 by omega]
  simp [sumTo, List.take_add_one, h]

/-- What TrunksFor returns. -/
def IsTrunks (less : Nat → Bool) (ok : Bool) (x : Int) : Prop :=
  (ok = false ∧ x = -1) ∨ (ok = true ∧ x = -1 ∧ ∀ m, m ≤ 8 → less m = true) ∨ (ok = true ∧ ∃ n : Nat, n ≤ 8 ∧ x = n ∧ less n = false ∧ ∀ m, m < n → less m = true)
theorem IsTrunks.unique {less : Nat → Bool} {ok : Bool} {x y : Int} (hx : IsTrunks less ok x) (hy : IsTrunks less ok y) : x = y := by
  rcases hx with ⟨h1, rfl⟩ | ⟨h1, rfl, h2⟩ | ⟨h1, n, h2, rfl, h3, h4⟩ <;> rcases hy with ⟨g1, rfl⟩ | ⟨g1, rfl, g2⟩ | ⟨g1, m, g2, rfl, g3, g4⟩ <;> (try rfl) <;> (try (rw [h1] at g1; cases g1))
  · rw [h2 m g2] at g3; cases g3
  · rw [g2 n h2] at h3; cases h3
  · rcases Nat.lt_trichotomy n m with h | h | h
    · rw [g4 n h] at h3; cases h3
    · rw [h]
    · rw [h4 m h] at g3; cases g3

/-- 'p is less than q', on what LostPart returns. -/
def lessP (p q : Nat × Nat) : Bool := fracLessB p.1 p.2 q.1 q.2
theorem lost_finite : ∀ l : Fin 7, ∀ t : Fin 9,
    (t.val + 1 ≤ 8 → (l.val = 0 ∧ 0 < t.val → lostP l (t + 1) = lostP l t) ∧ (¬ (l.val = 0 ∧ 0 < t.val) → lessP (lostP l (t + 1)) (lostP l t) = true)) ∧
    (l.val + 1 ≤ 6 → (t.val = 0 → lostP (l + 1) t = lostP l t) ∧ (0 < t.val → lessP (lostP l t) (lostP (l + 1) t) = true)) ∧
    (l.val = 0 → 0 < t.val → lostP l t = (0, 1)) := by decide +kernel
theorem lost_more (l t : Nat) (hl : l ≤ 6) (ht : t + 1 ≤ 8) (h : ¬ (l = 0 ∧ 0 < t)) : lessP (lostP l (t + 1)) (lostP l t) = true := ((lost_finite ⟨l, by omega⟩ ⟨t, by omega⟩).1 ht).2 h
theorem lost_great (l t : Nat) (hl : l + 1 ≤ 6) (ht : t ≤ 8) (h : 0 < t) : lessP (lostP l t) (lostP (l + 1) t) = true := ((lost_finite ⟨l, by omega⟩ ⟨t, by omega⟩).2.1 hl).2 h
theorem lost_zero (t : Nat) (ht : t ≤ 8) (h : 0 < t) : lostP 0 t = (0, 1) := (lost_finite ⟨0, by omega⟩ ⟨t, by omega⟩).2.2 rfl h

theorem busy_balance_fin : ∀ l : Fin 7, ∀ t : Fin 9, ∀ n : Fin 8, n.val + 1 ≤ t.val → busyAt l t n * l = busyAt l t (n + 1) * (n + 1) := by decide +kernel
theorem busy_balance (l t n : Nat) (hl : l ≤ 6) (ht : t ≤ 8) (hn : n + 1 ≤ t) : busyAt l t n * l = busyAt l t (n + 1) * (n + 1) := busy_balance_fin ⟨l, by omega⟩ ⟨t, by omega⟩ ⟨n, by omega⟩ hn
theorem busy_zero_fin : ∀ l : Fin 7, ∀ t : Fin 9, 1 ≤ busyAt l t 0 ∧ busyAt l t t * (lostP l t).2 = sumTo l t (t + 1) * (lostP l t).1 := by decide +kernel
theorem busy_pos (l t : Nat) (hl : l ≤ 6) (ht : t ≤ 8) : 1 ≤ busyAt l t 0 := (busy_zero_fin ⟨l, by omega⟩ ⟨t, by omega⟩).1
theorem busy_lost (l t : Nat) (hl : l ≤ 6) (ht : t ≤ 8) : busyAt l t t * (lostP l t).2 = sumTo l t (t + 1) * (lostP l t).1 := (busy_zero_fin ⟨l, by omega⟩ ⟨t, by omega⟩).2
/-- The mean of so many first numbers of lines. -/
def meanTo (l t : Nat) : Nat → Nat
  | 0 => 0
  | n + 1 => meanTo l t n + n * busyAt l t n
def takenP (l t : Nat) : Nat × Nat := lowP (l * ((lostP l t).2 - (lostP l t).1)) (lostP l t).2
theorem mean_fin : ∀ l : Fin 7, ∀ t : Fin 9, (∀ n : Fin 10, meanTo l t n ≤ 1000000000) ∧ (takenP l t).1 * sumTo l t (t + 1) = meanTo l t (t + 1) * (takenP l t).2 ∧
    (takenP l t).1 ≤ 1000000000 ∧ (takenP l t).2 ≤ 1000000000 ∧ (t.val = 0 → (takenP l t).1 = 0) ∧ (0 < t.val → (takenP l t).1 < t * (takenP l t).2) ∧ (takenP l t).1 ≤ l * (takenP l t).2 := by decide +kernel
theorem mean_small (l t n : Nat) (hl : l ≤ 6) (ht : t ≤ 8) (hn : n ≤ 9) : meanTo l t n ≤ 1000000000 := (mean_fin ⟨l, by omega⟩ ⟨t, by omega⟩).1 ⟨n, by omega⟩
theorem taken_facts (l t : Nat) (hl : l ≤ 6) (ht : t ≤ 8) : (takenP l t).1 * sumTo l t (t + 1) = meanTo l t (t + 1) * (takenP l t).2 ∧
    (takenP l t).1 ≤ 1000000000 ∧ (takenP l t).2 ≤ 1000000000 ∧ (t = 0 → (takenP l t).1 = 0) ∧ (0 < t → (takenP l t).1 < t * (takenP l t).2) ∧ (takenP l t).1 ≤ l * (takenP l t).2 := (mean_fin ⟨l, by omega⟩ ⟨t, by omega⟩).2

end Go.Proofs.Ytmckjikdecmagaa
