/- Plain facts on lists of calls: their cells, and valid calls step by step. No program in sight. -/
import Derived.Test.YtedadhoneebfnaaClP
import Derived.Test.YtedadhoneebfnaaLib
set_option linter.unusedSimpArgs false
set_option linter.unusedVariables false
namespace Go.Proofs.Ytedadhoneebfnaa
open Go.RowKit

/-- The cells of calls. -/
def ccells (cs : List Cl) : List Value := cs.flatMap fun c => [.int .i64 c.1, .int .i64 c.2.1, .int .i64 c.2.2]
theorem ccells_len (cs : List Cl) : (ccells cs).length = cs.length * 3 := by
  induction cs with
  | nil => rfl
  | cons r rs ih => simp only [ccells, List.flatMap_cons, List.length_append] at ih ⊢; simp [ih]; omega
theorem ccells_at (cs : List Cl) : ∀ (k : Nat) (c : Cl), cs[k]? = some c → (ccells cs)[k * 3]? = some (.int .i64 c.1) ∧ (ccells cs)[k * 3 + 1]? = some (.int .i64 c.2.1) ∧ (ccells cs)[k * 3 + 2]? = some (.int .i64 c.2.2) := by
  induction cs with
  | nil => intro k r h; simp at h
  | cons x rs ih =>
    intro k r h
    cases k with
    | zero => simp at h; subst h; simp [ccells]
    | succ k =>
      have h' : rs[k]? = some r := by simpa using h
      have := ih k r h'
      rw [show (k + 1) * 3 = k * 3 + 3 by omega]
      simpa [ccells, List.flatMap_cons] using this
theorem ccells_app (xs ys : List Cl) : ccells (xs ++ ys) = ccells xs ++ ccells ys := by simp [ccells, List.flatMap_append]
theorem ccells_one (cs : List Cl) : ∀ u ∈ ccells cs, u.oneCell' = true := by
  intro u hu
  obtain ⟨c, _, hc⟩ := List.mem_flatMap.1 hu
  simp at hc
  rcases hc with rfl | rfl | rfl <;> rfl

def lnB (L x : Int) : Bool := decide (0 ≤ x) && decide (x < L)
def ClAt (L M : Int) (c : Cl) : Prop := (0 ≤ c.1 ∧ c.1 < L) ∧ (0 ≤ c.2.1 ∧ c.2.1 < L) ∧ 0 ≤ c.2.2 ∧ c.2.2 < M
def Apart (E : Int) (d c : Cl) : Prop := d.1 ≠ c.1 ∧ d.2.1 ≠ c.2.1 ∧ ∀ s, swC E s d = swC E s c → d.2.2 ≠ c.2.2
theorem apart_iff (E : Int) (d c : Cl) : Apart E d c ↔ d.1 ≠ c.1 ∧ d.2.1 ≠ c.2.1 ∧ ¬ (d.2.2 = c.2.2 ∧ (d.1 / E = c.1 / E ∨ d.2.1 / E = c.2.1 / E)) := by
  unfold Apart
  constructor
  · rintro ⟨h1, h2, h3⟩
    refine ⟨h1, h2, fun ⟨e, h⟩ => ?_⟩
    rcases h with h | h
    · exact h3 false h e
    · exact h3 true h e
  · rintro ⟨h1, h2, h3⟩
    refine ⟨h1, h2, fun s hs e => h3 ⟨e, ?_⟩⟩
    cases s
    · exact .inl hs
    · exact .inr hs
/-- The first k calls are in order. -/
def ClTo (L E M : Int) (cs : List Cl) (k : Nat) : Prop := (∀ i c, i < k → cs[i]? = some c → ClAt L M c) ∧ ∀ i j d c, i < j → j < k → cs[i]? = some d → cs[j]? = some c → Apart E d c
theorem ClTo.zero (L E M : Int) (cs : List Cl) : ClTo L E M cs 0 := ⟨fun i c h => absurd h (by omega), fun i j d c _ h => absurd h (by omega)⟩
theorem ClTo.step {L E M : Int} {cs : List Cl} {k : Nat} {c : Cl} (h : ClTo L E M cs k) (hc : cs[k]? = some c) (h1 : ClAt L M c) (h2 : ∀ i d, i < k → cs[i]? = some d → Apart E d c) : ClTo L E M cs (k + 1) := by
  refine ⟨fun i e hi he => ?_, fun i j d e hij hj hd he => ?_⟩
  · by_cases hik : i = k
    · subst hik; rw [hc] at he; cases he; exact h1
    · exact h.1 i e (by omega) he
  · by_cases hjk : j = k
    · subst hjk; rw [hc] at he; cases he; exact h2 i d hij hd
    · exact h.2 i j d e hij (by omega) hd he
theorem ClTo.all {O E M : Int} {cs : List Cl} (hs : ShapeOk O E M) (h : ClTo (O * E) E M cs cs.length) : CallsOk O E M cs :=
  ⟨hs, fun k c hc => h.1 k c (List.getElem?_eq_some_iff.1 hc).1 hc, fun j k d c hjk hd hc => h.2 j k d c hjk (List.getElem?_eq_some_iff.1 hc).1 hd hc⟩
def shapeB (O E M : Int) : Bool := ((decide (1 ≤ O) && decide (O ≤ 4)) && (decide (1 ≤ E) && decide (E ≤ 3))) && (decide (1 ≤ M) && decide (M ≤ 5))
theorem shapeB_iff (O E M : Int) : shapeB O E M = true ↔ ShapeOk O E M := by
  simp only [shapeB, Bool.and_eq_true, decide_eq_true_eq]
  exact ⟨fun h => ⟨h.1.1, h.1.2, h.2⟩, fun h => ⟨⟨h.o, h.e⟩, h.m⟩⟩
open Classical in
noncomputable def callsB (O E M : Int) (cs : List Cl) : Bool := decide (CallsOk O E M cs)
theorem callsB_iff (O E M : Int) (cs : List Cl) : callsB O E M cs = true ↔ CallsOk O E M cs := by simp [callsB]
theorem callsB_shape {O E M : Int} (cs : List Cl) (h : shapeB O E M = false) : callsB O E M cs = false := by
  cases hc : callsB O E M cs with
  | false => rfl
  | true => have := (shapeB_iff O E M).2 ((callsB_iff _ _ _ _).1 hc).sh; rw [h] at this; cases this
theorem callsB_at {O E M : Int} {cs : List Cl} {k : Nat} {c : Cl} (hc : cs[k]? = some c) (h : ¬ ClAt (O * E) M c) : callsB O E M cs = false := by
  cases hb : callsB O E M cs with
  | false => rfl
  | true => exact absurd (((callsB_iff _ _ _ _).1 hb).at' k c hc) h
theorem callsB_apart {O E M : Int} {cs : List Cl} {j k : Nat} {d c : Cl} (hjk : j < k) (hd : cs[j]? = some d) (hc : cs[k]? = some c) (h : ¬ Apart E d c) : callsB O E M cs = false := by
  cases hb : callsB O E M cs with
  | false => rfl
  | true => exact absurd (((callsB_iff _ _ _ _).1 hb).apart j k d c hjk hd hc) h

end Go.Proofs.Ytedadhoneebfnaa
