/- Joined texts: MvP, Ch, Cp. -/
import Derived.Test.YtedadhoneebfnaaJ1
import Derived.Test.YtedadhoneebfnaaJ4
import Derived.StillTailTactics
import Derived.Laws.CopyRow
import Derived.Laws.CopyOwn
import Derived.Laws.MakeOwn
set_option linter.unusedSimpArgs false
set_option linter.unusedVariables false
/- Moving calls, plain: what one step of either program does to the chain. -/
namespace Go.Proofs.Ytedadhoneebfnaa
open Go.RowKit

/-- r is the place of what has P, or -1. -/
def Found (n : Nat) (P : Nat → Prop) (r : Int) : Prop := (r = -1 ∧ ∀ k, k < n → ¬ P k) ∨ ∃ k : Nat, k < n ∧ r = k ∧ P k
/-- A call at an outer switch through a middle switch, not at the place nt. -/
def seekP (E : Int) (cs : List Cl) (s : Bool) (outer want nt : Int) (k : Nat) : Prop := (k : Int) ≠ nt ∧ ∃ c, cs[k]? = some c ∧ c.2.2 = want ∧ swC E s c = outer
def LastOf (E : Int) (cs : List Cl) (a b : Int) (s : Bool) (outer want : Int) (ch : List Nat) (nt : Int) : Prop :=
 (ch = [] ∧ nt = -1) ∨ ∃ (l : Nat), l ∈ ch ∧ nt = l ∧ swL E cs s l = outer ∧ viaL cs l = a + b - want
def NextIs (E : Int) (cs : List Cl) (s : Bool) (outer want : Int) (ch : List Nat) (r : Int) : Prop :=
 (r = -1 ∧ nextK cs.length (viaL cs) (swL E cs) s outer want ch = none) ∨ ∃ k : Nat, r = k ∧ nextK cs.length (viaL cs) (swL E cs) s outer want ch = some k
theorem flipL_len (a b : Int) (ch : List Nat) (cs : List Cl) : (flipL a b ch cs).length = cs.length := by simp [flipL]
theorem flipL_nil (a b : Int) (cs : List Cl) : flipL a b [] cs = cs := by
 apply List.ext_getElem?
 intro k
 cases hk : cs[k]? with
 | none =>
  have : cs.length ≤ k := by rw [List.getElem?_eq_none_iff] at hk; exact hk
  rw [List.getElem?_eq_none (by rw [flipL_len]; omega)]
 | some c => rw [flipL_at hk]; simp [flipK, viaL_at hk]
theorem seek_next {E : Int} {cs : List Cl} {a b : Int} {s : Bool} {outer want : Int} {ch : List Nat} {nt r : Int} (hU : Uniq cs.length (viaL cs) (swL E cs)) (hch : ∀ k ∈ ch, k < cs.length)
  (hl : LastOf E cs a b s outer want ch nt) (hf : Found cs.length (seekP E (flipL a b ch cs) s outer want nt) r) : NextIs E cs s outer want ch r := by
 rcases hf with ⟨rfl, hno⟩ | ⟨k, hk, rfl, hnt, e, he, h1, h2⟩
 ·
  refine .inl ⟨rfl, ?_⟩
  cases hn : nextK cs.length (viaL cs) (swL E cs) s outer want ch with
  | none => rfl
  | some k =>
   obtain ⟨q1, q2, q3, q4⟩ := nextK_some hn
   exfalso
   obtain ⟨c, hc⟩ : ∃ c, cs[k]? = some c := ⟨_, List.getElem?_eq_getElem q1⟩
   refine hno k q1 ⟨?_, _, flipL_at hc, ?_, ?_⟩
   ·
    rcases hl with ⟨_, rfl⟩ | ⟨l, hm, rfl, _⟩
    ·
     omega
    ·
     intro e; have : k = l := by omega
     subst this; exact q2 hm
   ·
    show flipK _ _ _ _ _ = want
    rw [flipK, if_neg q2, q4]
   ·
    rw [swL_at hc] at q3
    cases s <;> exact q3
 ·
  refine .inr ⟨k, rfl, ?_⟩
  obtain ⟨c, hc, rfl⟩ := flipL_of he
  have hs : swL E cs s k = outer := by rw [swL_at hc]; cases s <;> exact h2
  have hv : flipK (viaL cs) a b ch k = want := h1
  have hkc : k ∉ ch := by
   intro hin
   rw [flipK, if_pos hin] at hv
   rcases hl with ⟨rfl, _⟩ | ⟨l, hm, rfl, g1, g2⟩
   ·
    simp at hin
   ·
    have := hU s k l hk (hch l hm) (by rw [hs, g1]) (by rw [g2]; omega)
    subst this; exact hnt rfl
  rw [flipK, if_neg hkc] at hv
  cases hn : nextK cs.length (viaL cs) (swL E cs) s outer want ch with
  | none => exact absurd (nextK_none hn k hk hs hv) hkc
  | some j =>
   obtain ⟨q1, q2, q3, q4⟩ := nextK_some hn
   rw [hU s j k q1 hk (by rw [q3, hs]) (by rw [q4, hv])]
/-- The last one that is not in the chain is the first one. -/
theorem last_next {E : Int} {cs : List Cl} {s : Bool} {outer want : Int} {ch : List Nat} {r : Int} (hU : Uniq cs.length (viaL cs) (swL E cs))
  (hf : Found cs.length (fun k => k ∉ ch ∧ ∃ c, cs[k]? = some c ∧ c.2.2 = want ∧ swC E s c = outer) r) : NextIs E cs s outer want ch r := by
 rcases hf with ⟨rfl, hno⟩ | ⟨k, hk, rfl, hkc, c, hc, h1, h2⟩
 ·
  refine .inl ⟨rfl, ?_⟩
  cases hn : nextK cs.length (viaL cs) (swL E cs) s outer want ch with
  | none => rfl
  | some k =>
   obtain ⟨q1, q2, q3, q4⟩ := nextK_some hn
   exfalso
   obtain ⟨c, hc⟩ : ∃ c, cs[k]? = some c := ⟨_, List.getElem?_eq_getElem q1⟩
   rw [swL_at hc] at q3
   rw [viaL_at hc] at q4
   exact hno k q1 ⟨q2, c, hc, q4, q3⟩
 ·
  refine .inr ⟨k, rfl, ?_⟩
  rw [← swL_at hc] at h2
  rw [← viaL_at hc] at h1
  cases hn : nextK cs.length (viaL cs) (swL E cs) s outer want ch with
  | none => exact absurd (nextK_none hn k hk h2 h1) hkc
  | some j =>
   obtain ⟨q1, q2, q3, q4⟩ := nextK_some hn
   rw [hU s j k q1 hk (by rw [q3, h2]) (by rw [q4, h1])]
theorem flip_step {E : Int} {cs : List Cl} {a b : Int} {s : Bool} {outer want : Int} {ch : List Nat} {k : Nat} {c : Cl} (hn : nextK cs.length (viaL cs) (swL E cs) s outer want ch = some k) (hc : cs[k]? = some c) :
  (flipL a b ch cs).set k (c.1, c.2.1, a + b - want) = flipL a b (ch ++ [k]) cs ∧ (flipL a b ch cs)[k]? = some (c.1, c.2.1, want) := by
 obtain ⟨q1, q2, q3, q4⟩ := nextK_some hn
 constructor
 ·
  apply List.ext_getElem?
  intro j
  rw [List.getElem?_set, flipL_len]
  cases hj : cs[j]? with
  | none =>
   have : cs.length ≤ j := by rw [List.getElem?_eq_none_iff] at hj; exact hj
   rw [if_neg (by omega), List.getElem?_eq_none (by rw [flipL_len]; omega), List.getElem?_eq_none (by rw [flipL_len]; omega)]
  | some d =>
   rw [flipL_at hj, flipL_at hj]
   by_cases e : k = j
   ·
    subst e
    rw [hc] at hj; cases hj
    rw [if_pos rfl, if_pos q1]
    simp [flipK, q4]
   ·
    rw [if_neg e]
    have : (j ∈ ch ++ [k]) ↔ j ∈ ch := by simp; intro e2; exact absurd e2.symm e
    simp only [flipK, this]
 ·
  rw [flipL_at hc, flipK, if_neg q2, q4]
theorem LastOf.next {E : Int} {cs : List Cl} {a b : Int} {s : Bool} {outer want : Int} {ch : List Nat} {k : Nat} (hn : nextK cs.length (viaL cs) (swL E cs) s outer want ch = some k) : LastOf E cs a b (!s) (swL E cs (!s) k) (a + b - want) (ch ++ [k]) k := by
 obtain ⟨q1, q2, q3, q4⟩ := nextK_some hn
 exact .inr ⟨k, by simp, rfl, rfl, by rw [q4]; omega⟩
/-- Where the chain stands. -/
structure ChAt (E : Int) (cs : List Cl) (a b I y : Int) (s : Bool) (outer want : Int) (ch : List Nat) : Prop where
 inv : Inv cs.length (viaL cs) (swL E cs) a b I (y / E) s outer want ch
 rest : chainL E a b cs y = chainK cs.length (viaL cs) (swL E cs) a b (cs.length + 1 - ch.length) s outer want ch
theorem ChAt.len {E : Int} {cs : List Cl} {a b I y : Int} {s : Bool} {outer want : Int} {ch : List Nat} (h : ChAt E cs a b I y s outer want ch) : ch.length ≤ cs.length := nodup_len h.inv.nd fun k hk => (h.inv.col k hk).1
theorem ChAt.lt {E : Int} {cs : List Cl} {a b I y : Int} {s : Bool} {outer want : Int} {ch : List Nat} (h : ChAt E cs a b I y s outer want ch) : ∀ k ∈ ch, k < cs.length := fun k hk => (h.inv.col k hk).1
theorem ChAt.start {E : Int} {cs : List Cl} {a b I y : Int} (hO : ∀ j, j < cs.length → swL E cs true j = y / E → viaL cs j ≠ b) : ChAt E cs a b I y true (y / E) a [] := ⟨chainK_first hO, rfl⟩
theorem ChAt.stop {E : Int} {cs : List Cl} {a b I y : Int} {s : Bool} {outer want : Int} {ch : List Nat} (h : ChAt E cs a b I y s outer want ch) (hn : nextK cs.length (viaL cs) (swL E cs) s outer want ch = none) : chainL E a b cs y = ch := by
 have := h.len
 rw [h.rest, show cs.length + 1 - ch.length = (cs.length - ch.length) + 1 by omega]
 simp only [chainK, hn]
theorem ChAt.go {E : Int} {cs : List Cl} {a b I y : Int} {s : Bool} {outer want : Int} {ch : List Nat} (hU : Uniq cs.length (viaL cs) (swL E cs)) (hI : ∀ j, j < cs.length → swL E cs false j = I → viaL cs j ≠ a) (h : ChAt E cs a b I y s outer want ch) {k : Nat} (hn : nextK cs.length (viaL cs) (swL E cs) s outer want ch = some k) : ChAt E cs a b I y (!s) (swL E cs (!s) k) (a + b - want) (ch ++ [k]) := by
 have := h.len
 refine ⟨h.inv.step hU hI hn, ?_⟩
 rw [h.rest, show cs.length + 1 - ch.length = (cs.length - ch.length) + 1 by omega]
 simp only [chainK, hn]
 rw [show cs.length + 1 - (ch ++ [k]).length = cs.length - ch.length by simp]
/-- The reference flips at the end, one after the other. -/
theorem flip_one {cs : List Cl} {a b : Int} {ch : List Nat} {k : Nat} {c : Cl} (hk : k ∉ ch) (hc : cs[k]? = some c) :
  (flipL a b ch cs)[k]? = some c ∧ (flipL a b ch cs).set k (c.1, c.2.1, a + b - c.2.2) = flipL a b (ch ++ [k]) cs := by
 have hkl := (List.getElem?_eq_some_iff.1 hc).1
 constructor
 ·
  rw [flipL_at hc, flipK, if_neg hk, viaL_at hc]
 ·
  apply List.ext_getElem?
  intro j
  rw [List.getElem?_set, flipL_len]
  cases hj : cs[j]? with
  | none =>
   have : cs.length ≤ j := by rw [List.getElem?_eq_none_iff] at hj; exact hj
   rw [if_neg (by omega), List.getElem?_eq_none (by rw [flipL_len]; omega), List.getElem?_eq_none (by rw [flipL_len]; omega)]
  | some d =>
   rw [flipL_at hj, flipL_at hj]
   by_cases e : k = j
   ·
    subst e
    rw [hc] at hj; cases hj
    rw [if_pos rfl, if_pos hkl]
    simp [flipK, viaL_at hc]
   ·
    rw [if_neg e]
    have : (j ∈ ch ++ [k]) ↔ j ∈ ch := by simp; intro e2; exact absurd e2.symm e
    simp only [flipK, this]
theorem ccells_via (cs : List Cl) : ∀ (k : Nat) (c : Cl) (z : Int), cs[k]? = some c → (ccells cs).set (k * 3 + 2) (.int .i64 z) = ccells (cs.set k (c.1, c.2.1, z)) := by
 induction cs with
 | nil => intro k r z h; simp at h
 | cons x rs ih =>
  intro k r z h
  cases k with
  | zero => simp at h; subst h; simp [ccells]
  | succ k =>
   rw [show (k + 1) * 3 + 2 = (k * 3 + 2) + 3 by omega]
   have := ih k r z (by simpa using h)
   simpa [ccells, List.flatMap_cons] using this

/-! Which middle switches are free. -/
/-- No call at the outer switch o of side s among the first k goes through m. -/
def usedTo (E : Int) (cs : List Cl) (s : Bool) (o : Int) (k : Nat) (m : Int) : Bool := (cs.take k).any fun c => decide (swC E s c = o) && decide (c.2.2 = m)
theorem usedTo_zero (E : Int) (cs : List Cl) (s : Bool) (o m : Int) : usedTo E cs s o 0 m = false := by simp [usedTo]
theorem usedTo_succ {E : Int} {cs : List Cl} {s : Bool} {o : Int} {k : Nat} {c : Cl} (hc : cs[k]? = some c) (m : Int) : usedTo E cs s o (k + 1) m = (usedTo E cs s o k m || (decide (swC E s c = o) && decide (c.2.2 = m))) := by
 obtain ⟨hk, rfl⟩ := List.getElem?_eq_some_iff.1 hc
 unfold usedTo
 rw [List.take_succ_eq_append_getElem hk, List.any_append]; simp
theorem usedTo_all (E : Int) (cs : List Cl) (s : Bool) (o m : Int) : usedTo E cs s o cs.length m = usedB E cs s o m := by
 unfold usedTo usedB; rw [List.take_of_length_le (Nat.le_refl _)]
theorem mids_take (M : Int) (k : Nat) (h : (k : Int) < M) : (mids M).take (k + 1) = (mids M).take k ++ [(k : Int)] := by
 unfold mids
 have hl : k < ((List.range M.toNat).map Int.ofNat).length := by simp; omega
 rw [List.take_succ_eq_append_getElem hl]
 simp
theorem mids_len (M : Int) : (mids M).length = M.toNat := by simp [mids]
theorem first_at {E M : Int} {cs : List Cl} {s : Bool} {o : Int} {k : Nat} (hk : (k : Int) < M) (h : ∀ j : Nat, j < k → usedB E cs s o j = true) (h1 : usedB E cs s o k = false) : firstL E M cs s o = k := by
 unfold firstL
 have : ((mids M).find? fun m => !usedB E cs s o m) = some (k : Int) := by
  rw [List.find?_eq_some_iff_getElem]
  have hl : k < (mids M).length := by rw [mids_len]; omega
  refine ⟨by simp [h1], k, hl, by simp [mids], fun j hj => ?_⟩
  have : (mids M)[j]'(by omega) = (j : Int) := by simp [mids]
  rw [this, h j hj]; rfl
 rw [this]; rfl

end Go.Proofs.Ytedadhoneebfnaa

/- Contracts of the laws' helpers on shapes and calls. -/
namespace Go.Proofs.Ytedadhoneebfnaa
open Go.RowKit

theorem infoC : (Try.prog.info? 57).map (fun i => (i.zero, i.size, i.bytes)) = some (some (.agg #[.int .i64 0, .int .i64 0, .int .i64 0]), 3, 24) := by kernel_rfl

theorem ccells_set (cs : List Cl) : ∀ (k : Nat) (c : Cl), k < cs.length → (((ccells cs).set (k * 3) (.int .i64 c.1)).set (k * 3 + 1) (.int .i64 c.2.1)).set (k * 3 + 2) (.int .i64 c.2.2) = ccells (cs.set k c) := by
 induction cs with
 | nil => intro k r h; simp at h
 | cons x rs ih =>
  intro k r h
  cases k with
  | zero => simp [ccells]
  | succ k =>
   rw [show (k + 1) * 3 = k * 3 + 3 by omega]
   have := ih k r (by simpa using h)
   simpa [ccells, List.flatMap_cons] using this
theorem ccells_zero (n : Nat) : (madeCells (Value.agg #[.int .i64 0, .int .i64 0, .int .i64 0]).cells (n * 3)).toList = ccells (List.replicate n (0, 0, 0)) := by
 apply List.ext_getElem?
 intro i
 by_cases hi : i < n * 3
 ·
  obtain ⟨k, hk⟩ : ∃ k, i / 3 = k := ⟨_, rfl⟩
  have hkn : k < n := by omega
  have hr : (List.replicate n ((0, 0, 0) : Cl))[k]? = some (0, 0, 0) := by simp [hkn]
  obtain ⟨g1, g2, g3⟩ := ccells_at _ k _ hr
  have h3 : i % 3 = 0 ∨ i % 3 = 1 ∨ i % 3 = 2 := by omega
  rcases h3 with h | h | h
  ·
   obtain rfl : i = k * 3 := by omega
   rw [g1]; simp [madeCells, Value.cells, hi]
  ·
   obtain rfl : i = k * 3 + 1 := by omega
   rw [g2]; simp [madeCells, Value.cells, hi, Nat.mul_add_mod]
  ·
   obtain rfl : i = k * 3 + 2 := by omega
   rw [g3]; simp [madeCells, Value.cells, hi, Nat.mul_add_mod]
 ·
  rw [List.getElem?_eq_none (by simp [madeCells]; omega), List.getElem?_eq_none (by rw [ccells_len]; simp; omega)]

set_option maxHeartbeats 400000 in
theorem toShape_any (O E M : Int) (w : World) :
  Calls Try.prog 28 #[.agg #[.int .i64 O, .int .i64 E, .int .i64 M]] w fun e w' => e = .returned (.agg #[.int .i64 O, .int .i64 E, .int .i64 M]) ∧ Below w.heap.size w w' := by
 go_enter Try.func28, Try.ntmps28
 go_wp2
 go_returns
 exact ⟨rfl, by (exact grownA)⟩
set_option maxHeartbeats 400000 in
theorem toCall_any (O E M : Int) (w : World) :
  Calls Try.prog 103 #[.agg #[.int .i64 O, .int .i64 E, .int .i64 M]] w fun e w' => e = .returned (.agg #[.int .i64 O, .int .i64 E, .int .i64 M]) ∧ Below w.heap.size w w' := by
 go_enter Try.func103, Try.ntmps103
 go_wp2
 go_returns
 exact ⟨rfl, by (exact grownA)⟩

set_option maxHeartbeats 400000 in
theorem eqCall_any (a b c x y z : Int) (w : World) :
  Calls Try.prog 107 #[.agg #[.int .i64 a, .int .i64 b, .int .i64 c], .agg #[.int .i64 x, .int .i64 y, .int .i64 z]] w fun e w' => e = .returned (.bool (decide ((a, b, c) = (x, y, z)))) ∧ Below w.heap.size w w' := by
 by_cases h1 : a = x
 ·
  subst h1
  by_cases h2 : b = y
  ·
   subst h2
   by_cases h3 : c = z
   ·
    subst h3
    go_enter Try.func107, Try.ntmps107
    go_wp2
    go_returns
    exact ⟨by simp, by (exact grownA)⟩
   ·
    have hob : (c != z) = true := by simpa using h3
    have hd : decide ((a, b, c) = (a, b, z)) = false := by simpa using h3
    rw [hd]
    clear hd
    go_enter Try.func107, Try.ntmps107
    go_wp2
    go_returns
    exact ⟨rfl, by (exact grownA)⟩
  ·
   have hob : (b != y) = true := by simpa using h2
   have hd : decide ((a, b, c) = (a, y, z)) = false := by simp [h2]
   rw [hd]
   clear hd
   go_enter Try.func107, Try.ntmps107
   go_wp2
   go_returns
   exact ⟨rfl, by (exact grownA)⟩
 ·
  have hob : (a != x) = true := by simpa using h1
  have hd : decide ((a, b, c) = (x, y, z)) = false := by simp [h1]
  rw [hd]
  clear hd
  go_enter Try.func107, Try.ntmps107
  go_wp2
  go_returns
  exact ⟨rfl, by (exact grownA)⟩
set_option maxHeartbeats 400000 in
theorem eqShape_any (a b c x y z : Int) (w : World) :
  Calls Try.prog 71 #[.agg #[.int .i64 a, .int .i64 b, .int .i64 c], .agg #[.int .i64 x, .int .i64 y, .int .i64 z]] w fun e w' => e = .returned (.bool (decide ((a, b, c) = (x, y, z)))) ∧ Below w.heap.size w w' := by
 by_cases h1 : a = x
 ·
  subst h1
  by_cases h2 : b = y
  ·
   subst h2
   by_cases h3 : c = z
   ·
    subst h3
    go_enter Try.func71, Try.ntmps71
    go_wp2
    go_returns
    exact ⟨by simp, by (exact grownA)⟩
   ·
    have hob : (c != z) = true := by simpa using h3
    have hd : decide ((a, b, c) = (a, b, z)) = false := by simpa using h3
    rw [hd]
    clear hd
    go_enter Try.func71, Try.ntmps71
    go_wp2
    go_returns
    exact ⟨rfl, by (exact grownA)⟩
  ·
   have hob : (b != y) = true := by simpa using h2
   have hd : decide ((a, b, c) = (a, y, z)) = false := by simp [h2]
   rw [hd]
   clear hd
   go_enter Try.func71, Try.ntmps71
   go_wp2
   go_returns
   exact ⟨rfl, by (exact grownA)⟩
 ·
  have hob : (a != x) = true := by simpa using h1
  have hd : decide ((a, b, c) = (x, y, z)) = false := by simp [h1]
  rw [hd]
  clear hd
  go_enter Try.func71, Try.ntmps71
  go_wp2
  go_returns
  exact ⟨rfl, by (exact grownA)⟩

/-- A list made anew, at a block's head. -/
def Made3 (E : TypeId) (cells : List Value) (n : Nat) (w : World) (e : Ending) (w' : World) : Prop :=
 ∃ g, e = .returned (.slice (some ⟨g, 0, none⟩) n n) ∧ w.heap.size ≤ g ∧ Own w' g n n E 3 cells ∧ Below w.heap.size w w'

set_option maxHeartbeats 1000000 in
theorem toCallS_any (v : Value) (cs : List Cl) (w : World) (hv : Rds w v cs.length 3 (ccells cs)) (hlen : cs.length ≤ 1048576) :
  Calls Try.prog 67 #[v] w (Made3 57 (ccells cs) cs.length w) := by
 obtain ⟨hl1, hm1, a, ca, rfl, hn1, hc1⟩ := hv
 unfold maxLen at hm1
 obtain ⟨i0, hi, hz0, hz1, hz2⟩ := info_parts infoC
 unfold Made3
 obtain ⟨n, hn⟩ : ∃ n, cs.length = n := ⟨_, rfl⟩
 rw [hn] at hm1 hn1 hc1 hlen ⊢
 have HN := Lib.hid hn
 clear hn hl1
 go_enter Try.func67, Try.ntmps67
 go_wp2_with (refine wpList_make_full _ rfl _ _ 31 rfl w.heap.size 57 i0 _ 3 Try.underlying31 hi hz0 hz1 .i64 .i64 _ _ n rfl rfl rfl rfl (by rw [hz2]; omega) (by unfold maxLen; omega) (Nat.le_refl _) ?_; intro w1 hown hgr)
 rw [ccells_zero] at hown
 obtain ⟨hO, -⟩ := Own.of hown
 have hB : Below w.heap.size w w1 := (Below.refl w.heap.size w).grown hgr (Nat.le_refl _) (by intro k hk; cases hk)
 clear hown hgr
 go_wp2_with fail
 go_loopw [4] (fun i wr => ∃ (k : Nat), k ≤ n ∧ i = .int .i64 k ∧ Own wr w.heap.size n n 57 3 (ccells (ovTo (0, 0, 0) cs k)) ∧ Below w.heap.size w wr) (fun i _ => n - (intOf i).toNat)
 case atStart => exact ⟨0, by omega, rfl, by rw [ovTo_zero, HN.out]; exact hO, hB⟩
 case round =>
  obtain ⟨k, hk, rfl, hown, hbel⟩ := hrel
  by_cases hkn : k < n
  ·
   rcases hc1 with hc1 | ⟨b, off, rfl, hb, hc1⟩
   ·
    omega
   obtain ⟨c, hr⟩ : ∃ r, cs[k]? = some r := ⟨_, List.getElem?_eq_getElem (by rw [HN.out]; omega)⟩
   obtain ⟨g1, g2, g3⟩ := ccells_at cs k c hr
   have c1 : wr.cell? ⟨b, off + k * 3, none⟩ = some (.int .i64 c.1) := by rw [hbel.cell (p := ⟨b, off + k * 3, none⟩) hb, hc1 _ (by omega), g1]
   have c2 : wr.cell? ⟨b, off + k * 3 + 1, none⟩ = some (.int .i64 c.2.1) := by rw [Nat.add_assoc, hbel.cell (p := ⟨b, off + (k * 3 + 1), none⟩) hb, hc1 _ (by omega), g2]
   have c3 : wr.cell? ⟨b, off + k * 3 + 2, none⟩ = some (.int .i64 c.2.2) := by rw [Nat.add_assoc, hbel.cell (p := ⟨b, off + (k * 3 + 2), none⟩) hb, hc1 _ (by omega), g3]
   have HR := Lib.hid hr
   clear hc1 hr g1 g2 g3
   have hlt := hown.lt
   go_wp2_with fail
   refine (toCall_any c.1 c.2.1 c.2.2 _).mono ?_
   rintro e w2 ⟨rfl, hb2⟩
   have hown2 := hown.below hb2 hlt
   have hlt2 := hown2.lt
   obtain ⟨y, hy⟩ : ∃ y, (ovTo (0, 0, 0) cs k)[k]? = some y := ⟨_, List.getElem?_eq_getElem (by rw [ovTo_len _ _ _ (by rw [HN.out]; omega), HN.out]; omega)⟩
   obtain ⟨y1, y2, y3⟩ := ccells_at _ _ _ hy
   have d1 := hown2.cell (k * 3) (by omega)
   rw [y1] at d1
   have d2 := hown2.cell (k * 3 + 1) (by omega)
   rw [y2] at d2
   have d3 := hown2.cell (k * 3 + 2) (by omega)
   rw [y3] at d3
   have f1 := hown2.free (k * 3)
   have f2 := hown2.free (k * 3 + 1)
   have f3 := hown2.free (k * 3 + 2)
   clear hown hy y1 y2 y3
   go_wp2_with fail
   go_roundw
   case rel =>
    refine ⟨k + 1, by omega, by go_num, ?_, by (exact grownA)⟩
    rw [← ovTo_set _ _ _ _ HR.out, ← ccells_set _ _ _ (by rw [ovTo_len _ _ _ (by rw [HN.out]; omega), HN.out]; omega)]
    (exact ownA)
   case measure => simp [intOf]; omega
  ·
   obtain rfl : k = n := by omega
   go_wp2
   go_returns
   have := ovTo_all (0, 0, 0) cs
   rw [HN.out] at this
   rw [this] at hown
   exact ⟨_, rfl, Nat.le_refl _, hown, hbel⟩

set_option maxHeartbeats 400000 in
theorem szCallS_any (v : Value) (cs : List Cl) (x : Int) (w : World) (hv : Rds w v cs.length 3 (ccells cs)) (h0 : 0 ≤ x) (h1 : x ≤ 1048576) :
  Calls Try.prog 62 #[v, .int .i64 x] w fun e w' => e = .returned (.int .i64 (if x < (cs.length : Int) then -1 else x - cs.length)) ∧ w = w' := by
 obtain ⟨hl1, hm1, a, ca, rfl, hn1, hc1⟩ := hv
 unfold maxLen at hm1
 obtain ⟨n, hn⟩ : ∃ n, cs.length = n := ⟨_, rfl⟩
 rw [hn] at hm1 hn1 hc1 ⊢
 clear hn hl1 hc1
 by_cases h : x < (n : Int)
 ·
  rw [if_pos h]
  go_enter Try.func62, Try.ntmps62
  go_wp2
  go_returns
  exact ⟨rfl, rfl⟩
 ·
  rw [if_neg h]
  go_enter Try.func62, Try.ntmps62
  go_wp2
  go_returns
  exact ⟨rfl, rfl⟩

set_option maxRecDepth 100000 in
set_option maxHeartbeats 1000000 in
theorem eqCallS_any (v u : Value) (zs ys : List Cl) (w : World) (hv : Rds w v zs.length 3 (ccells zs)) (hu : Rds w u ys.length 3 (ccells ys)) :
  Calls Try.prog 72 #[v, u] w fun e w' => e = .returned (.bool (decide (zs = ys))) ∧ Below w.heap.size w w' := by
 obtain ⟨hl1, hm1, a, ca, rfl, hn1, hc1⟩ := hv
 obtain ⟨hl2, hm2, b, cb, rfl, hn2, hc2⟩ := hu
 unfold maxLen at hm1 hm2
 by_cases hlen : zs.length = ys.length
 ·
  have hne : ((zs.length : Int) != (ys.length : Int)) = false := by simp; omega
  obtain ⟨m, hm⟩ : ∃ m, ys.length = m := ⟨_, rfl⟩
  rw [hm] at hne hm2 hn2 hc2 ⊢
  obtain ⟨n, hn⟩ : ∃ n, zs.length = n := ⟨_, rfl⟩
  rw [hn] at hne hm1 hn1 hc1 ⊢
  have hnm : n = m := by omega
  subst hnm
  have HM := Lib.hid hm
  have HN := Lib.hid hn
  clear hm hn hl1 hl2 hlen
  go_enter Try.func72, Try.ntmps72
  go_wp2_with fail
  go_loopw [5] (fun i wr => ∃ k : Nat, k ≤ n ∧ i = .int .i64 k ∧ Hid (zs.take k = ys.take k) ∧ Below w.heap.size w wr) (fun i _ => n - (intOf i).toNat)
  case atStart => exact ⟨0, by omega, rfl, rfl, Below.refl _ _⟩
  case round =>
   obtain ⟨k, hk, rfl, hag, hbel⟩ := hrel
   have hz := hbel.size
   by_cases hkn : k < n
   ·
    rcases hc1 with hc1 | ⟨b1, o1, rfl, hb1, hc1⟩
    ·
     omega
    rcases hc2 with hc2 | ⟨b2, o2, rfl, hb2, hc2⟩
    ·
     omega
    obtain ⟨z, hz⟩ : ∃ z, zs[k]? = some z := ⟨_, List.getElem?_eq_getElem (by rw [HN.out]; omega)⟩
    obtain ⟨y, hy⟩ : ∃ y, ys[k]? = some y := ⟨_, List.getElem?_eq_getElem (by rw [HM.out]; omega)⟩
    obtain ⟨g1, g2, g3⟩ := ccells_at zs k z hz
    obtain ⟨g4, g5, g6⟩ := ccells_at ys k y hy
    have c1 : wr.cell? ⟨b1, o1 + k * 3, none⟩ = some (.int .i64 z.1) := by rw [hbel.cell (p := ⟨b1, o1 + k * 3, none⟩) hb1, hc1 _ (by omega), g1]
    have c2 : wr.cell? ⟨b1, o1 + k * 3 + 1, none⟩ = some (.int .i64 z.2.1) := by rw [Nat.add_assoc, hbel.cell (p := ⟨b1, o1 + (k * 3 + 1), none⟩) hb1, hc1 _ (by omega), g2]
    have c3 : wr.cell? ⟨b1, o1 + k * 3 + 2, none⟩ = some (.int .i64 z.2.2) := by rw [Nat.add_assoc, hbel.cell (p := ⟨b1, o1 + (k * 3 + 2), none⟩) hb1, hc1 _ (by omega), g3]
    have c4 : wr.cell? ⟨b2, o2 + k * 3, none⟩ = some (.int .i64 y.1) := by rw [hbel.cell (p := ⟨b2, o2 + k * 3, none⟩) hb2, hc2 _ (by omega), g4]
    have c5 : wr.cell? ⟨b2, o2 + k * 3 + 1, none⟩ = some (.int .i64 y.2.1) := by rw [Nat.add_assoc, hbel.cell (p := ⟨b2, o2 + (k * 3 + 1), none⟩) hb2, hc2 _ (by omega), g5]
    have c6 : wr.cell? ⟨b2, o2 + k * 3 + 2, none⟩ = some (.int .i64 y.2.2) := by rw [Nat.add_assoc, hbel.cell (p := ⟨b2, o2 + (k * 3 + 2), none⟩) hb2, hc2 _ (by omega), g6]
    have HST := Lib.hid (agree_step hz hy hag.out)
    clear hz hy hc1 hc2 g1 g2 g3 g4 g5 g6 hag
    go_wp2_with fail
    go_still_tail 8, (by kernel_rfl)
    change wpList _ _ _ _ _ wr.drew
    go_wp2_with fail
    refine (eqCall_any z.1 z.2.1 z.2.2 y.1 y.2.1 y.2.2 _).mono ?_
    rintro e w1 ⟨rfl, hb1'⟩
    by_cases hzy : z = y
    ·
     have hd : decide ((z.1, z.2.1, z.2.2) = (y.1, y.2.1, y.2.2)) = true := by simp [hzy]
     rw [hd]
     clear hd
     go_wp2_with fail
     go_roundw
     case rel => exact ⟨k + 1, by omega, by go_num, HST.out.2 hzy, by (exact grownA)⟩
     case measure => simp [intOf]; omega
    ·
     have hd : decide ((z.1, z.2.1, z.2.2) = (y.1, y.2.1, y.2.2)) = false := by simp only [decide_eq_false_iff_not]; exact fun e => hzy e
     rw [hd]
     clear hd
     have HZ : Hid (zs ≠ ys) := fun h => hzy (HST.out.1 (by rw [h]))
     clear hzy
     go_wp2
     go_returns
     exact ⟨by simp [HZ.out], by (exact grownA)⟩
   ·
    obtain rfl : k = n := by omega
    go_wp2
    go_returns
    refine ⟨?_, hbel⟩
    have h1 := hag.out
    rw [List.take_of_length_le (by rw [HN.out]; omega), List.take_of_length_le (by rw [HM.out]; omega)] at h1
    simp [h1]
 ·
  have hne : ((zs.length : Int) != (ys.length : Int)) = true := by simp; omega
  have hno : zs ≠ ys := fun h => hlen (by rw [h])
  have hdec : decide (zs = ys) = false := by simpa using hno
  rw [hdec]
  clear hdec hno hlen hc1 hc2 hl1 hl2
  go_enter Try.func72, Try.ntmps72
  go_wp2
  go_returns
  exact ⟨rfl, Below.refl _ _⟩

/-- What the marks write. -/
def cmarks (k n : Nat) : List Cl := (List.range n).map fun i => (((k + 3 * i : Nat) : Int), ((k + 3 * i + 1 : Nat) : Int), ((k + 3 * i + 2 : Nat) : Int))
theorem cmarks_len (k n : Nat) : (cmarks k n).length = n := by simp [cmarks]
theorem cmarks_at (k n i : Nat) (h : i < n) : (cmarks k n)[i]? = some (((k + 3 * i : Nat) : Int), ((k + 3 * i + 1 : Nat) : Int), ((k + 3 * i + 2 : Nat) : Int)) := by simp [cmarks, h]
def cmarkTo (cs : List Cl) (k j : Nat) : List Cl := cmarks k j ++ cs.drop j
theorem cmarkTo_zero (cs : List Cl) (k : Nat) : cmarkTo cs k 0 = cs := by simp [cmarkTo, cmarks]
theorem cmarkTo_all (cs : List Cl) (k : Nat) : cmarkTo cs k cs.length = cmarks k cs.length := by simp [cmarkTo]
theorem cmarkTo_len (cs : List Cl) (k j : Nat) (h : j ≤ cs.length) : (cmarkTo cs k j).length = cs.length := by simp [cmarkTo, cmarks]; omega
theorem cmarkTo_set (cs : List Cl) (k j : Nat) (h : j < cs.length) : (cmarkTo cs k j).set j (((k + 3 * j : Nat) : Int), ((k + 3 * j + 1 : Nat) : Int), ((k + 3 * j + 2 : Nat) : Int)) = cmarkTo cs k (j + 1) := by
 apply List.ext_getElem
 ·
  simp [cmarkTo, cmarks]; omega
 ·
  intro i h1 h2
  simp only [List.getElem_set, cmarkTo, cmarks, List.getElem_append, List.length_map, List.length_range, List.getElem_map, List.getElem_range, List.getElem_drop]
  split
  ·
   subst_vars; rw [dif_pos (by omega)]
  ·
   split
   ·
    rw [dif_pos (by omega)]
   ·
    rw [dif_neg (by omega)]; congr 1; omega

set_option maxRecDepth 100000 in
set_option maxHeartbeats 400000 in
theorem markCalls (g n cap : Nat) (cs : List Cl) (k : Nat) (w : World) (hv : Own w g n cap 57 3 (ccells cs)) (hk0 : 0 < k) (hk : k ≤ 100000000) (hn : n ≤ 10000000) :
  Calls Try.prog 77 #[.slice (some ⟨g, 0, none⟩) n cap, .int .i64 k] w fun e w' => e = .returned (.int .i64 (k + 3 * n : Nat)) ∧ Own w' g n cap 57 3 (ccells (cmarks k n)) ∧ w.grownBy w' (some g) := by
 have hlen := hv.len
 rw [ccells_len] at hlen
 have hlen' : cs.length = n := by omega
 have HLEN := Lib.hid hlen'
 clear hlen hlen'
 go_enter Try.func77, Try.ntmps77
 go_wp2_with fail
 go_loopw [1, 5] (fun kk i wr => ∃ j : Nat, j ≤ n ∧ i = .int .i64 j ∧ kk = .int .i64 (k + 3 * j : Nat) ∧ Own wr g n cap 57 3 (ccells (cmarkTo cs k j)) ∧ w.grownBy wr (some g)) (fun _ i _ => n - (intOf i).toNat)
 case atStart => exact ⟨0, by omega, rfl, by simp, by rw [cmarkTo_zero]; exact hv, World.grownBy.refl _ _⟩
 case round =>
  obtain ⟨j, hj, rfl, rfl, hown, hgr⟩ := hrel
  by_cases hjn : j < n
  ·
   have hlt := hown.lt
   obtain ⟨y, hy⟩ : ∃ y, (cmarkTo cs k j)[j]? = some y := ⟨_, List.getElem?_eq_getElem (by rw [cmarkTo_len _ _ _ (by rw [HLEN.out]; omega), HLEN.out]; omega)⟩
   obtain ⟨y1, y2, y3⟩ := ccells_at _ _ _ hy
   have d1 := hown.cell (j * 3) (by omega)
   rw [y1] at d1
   have d2 := hown.cell (j * 3 + 1) (by omega)
   rw [y2] at d2
   have d3 := hown.cell (j * 3 + 2) (by omega)
   rw [y3] at d3
   have f1 := hown.free (j * 3)
   have f2 := hown.free (j * 3 + 1)
   have f3 := hown.free (j * 3 + 2)
   clear hy y1 y2 y3
   go_wp2_with fail
   go_roundw
   case rel =>
    refine ⟨j + 1, by omega, by go_num, by go_num, ?_, ?_⟩
    ·
     rw [← cmarkTo_set _ _ _ (by rw [HLEN.out]; omega), ← ccells_set _ _ _ (by rw [cmarkTo_len _ _ _ (by rw [HLEN.out]; omega), HLEN.out]; omega)]
     (exact ownA)
    ·
     (exact gbA)
   case measure => simp [intOf]; omega
  ·
   obtain rfl : j = n := by omega
   go_wp2
   go_returns
   refine ⟨rfl, ?_, hgr⟩
   have := cmarkTo_all cs k
   rw [HLEN.out] at this
   rw [← this]
   exact hown
set_option maxHeartbeats 400000 in
theorem markCalls_any (base : Nat) (v : Value) (n : Nat) (cs : List Cl) (k : Nat) (w : World) (hv : w.ownsRow base 57 3 v n (ccells cs)) (hk0 : 0 < k) (hk : k ≤ 100000000) (hn : n ≤ 10000000) :
  Calls Try.prog 77 #[v, .int .i64 k] w fun e w' => e = .returned (.int .i64 (k + 3 * n : Nat)) ∧ w'.ownsRow base 57 3 v n (ccells (cmarks k n)) ∧ w.grownBy w' v.ownBlock := by
 rcases hv.2 with ⟨rfl, rfl⟩ | ⟨g, cap, cur, rfl, hb, _⟩
 ·
  clear hv
  go_enter Try.func77, Try.ntmps77
  go_wp2_with fail
  refine wp_loop_rounds 1 ?_
  rw [rounds_succ]
  go_wp2
  go_returns
  exact ⟨by simp, World.ownsRow_nil _ _ _ _, World.grownBy.refl _ _⟩
 ·
  refine (markCalls g n cap cs k w (Own.of hv).1 hk0 hk hn).mono ?_
  rintro e w' ⟨rfl, h1, h2⟩
  exact ⟨rfl, h1.back hb, h2⟩

set_option maxRecDepth 100000 in
set_option maxHeartbeats 400000 in
theorem heldCalls_any (v : Value) (n k : Nat) (w : World) (hv : Rds w v n 3 (ccells (cmarks k n))) (hk0 : 0 < k) (hk : k ≤ 100000000) (hn : n ≤ 10000000) :
  Calls Try.prog 79 #[v, .int .i64 k] w fun e w' => e = .returned (.int .i64 (k + 3 * n : Nat)) ∧ Below w.heap.size w w' := by
 obtain ⟨hl1, hm1, a, ca, rfl, hn1, hc1⟩ := hv
 unfold maxLen at hm1
 clear hl1
 go_enter Try.func79, Try.ntmps79
 go_wp2_with fail
 go_loopw [1, 5] (fun kk i wr => ∃ j : Nat, j ≤ n ∧ i = .int .i64 j ∧ kk = .int .i64 (k + 3 * j : Nat) ∧ Below w.heap.size w wr) (fun _ i _ => n - (intOf i).toNat)
 case atStart => exact ⟨0, by omega, rfl, by simp, Below.refl _ _⟩
 case round =>
  obtain ⟨j, hj, rfl, rfl, hbel⟩ := hrel
  by_cases hjn : j < n
  ·
   rcases hc1 with hc1 | ⟨b, off, rfl, hb, hc1⟩
   ·
    omega
   obtain ⟨g1, g2, g3⟩ := ccells_at _ _ _ (cmarks_at k n j hjn)
   have c1 : wr.cell? ⟨b, off + j * 3, none⟩ = some (.int .i64 (k + 3 * j : Nat)) := by rw [hbel.cell (p := ⟨b, off + j * 3, none⟩) hb, hc1 _ (by omega), g1]
   have c2 : wr.cell? ⟨b, off + j * 3 + 1, none⟩ = some (.int .i64 (k + 3 * j + 1 : Nat)) := by rw [Nat.add_assoc, hbel.cell (p := ⟨b, off + (j * 3 + 1), none⟩) hb, hc1 _ (by omega), g2]
   have c3 : wr.cell? ⟨b, off + j * 3 + 2, none⟩ = some (.int .i64 (k + 3 * j + 2 : Nat)) := by rw [Nat.add_assoc, hbel.cell (p := ⟨b, off + (j * 3 + 2), none⟩) hb, hc1 _ (by omega), g3]
   clear hc1 g1 g2 g3
   go_wp2_with fail
   go_roundw
   case rel => exact ⟨j + 1, by omega, by go_num, by go_num, by (exact grownA)⟩
   case measure => simp [intOf]; omega
  ·
   obtain rfl : j = n := by omega
   go_wp2
   go_returns
   exact ⟨rfl, hbel⟩

end Go.Proofs.Ytedadhoneebfnaa

/- Contract of copyCalls (program); make with room to spare and copy at structs. -/
namespace Go.Proofs.Ytedadhoneebfnaa
open Go.RowKit

theorem wpList_make_more {P : Program} (w : World) {ops : Array Oper} {rest : List Oper} {o : Oper} {a : Act} {Q : Exit → Act → World → Prop}
  (hg : o.guard = none) (l c : Operand) (t : TypeId) (hop : o.op = Op.makeSlice t l c)
  (e : TypeId) (i : TypeInfo) (z : Value) (size : Nat) (h1 : P.underlying t = some (.slice e)) (h2 : P.info? e = some i) (h3 : i.zero = some z) (h4 : i.size = size)
  (kl kc : IntKind) (L C : Int) (n m : Nat) (hl : a.eval l = .int kl L) (hc : a.eval c = .int kc C) (hL : L = (n : Int)) (hC : C = (m : Int)) (hnm : n ≤ m) (b2 : i.bytes * m ≤ 281474976710656) (b3 : m ≤ 1000000000)
  (hK : wpList P ops Q rest (a.put o.dst (.slice (some ⟨w.heap.size, 0, none⟩) n m)) (w.alloc (.cells (madeCells z.cells (m * size)) e))) :
  wpList P ops Q (o :: rest) a w := by
 refine wpList_plain hg fun K hK' => ?_
 subst hL
 subst hC
 subst h4
 have hb' : (i.bytes : Int) * (m : Int) ≤ 281474976710656 := by
  have h : ((i.bytes * m : Nat) : Int) ≤ 281474976710656 := by omega
  rwa [Int.natCast_mul] at h
 have hrun := run_make (P := P) w t e i z h1 h2 h3 kl kc n m (by omega) (by omega) hb' (by omega)
 simp only [Int.toNat_natCast] at hrun
 unfold Oper.wp
 simp [execOp, hop, hl, hc, hrun, Result.andThen]
 exact hK' _ _ hK
theorem run_copy_rows {P : Program} (w : World) (dT sT ty elem : TypeId) (g o dLen dCap : Nat) (a : Addr) (sLen sCap sz : Nat) (cur : Array Value) (t : TypeId) (cs : List Value)
  (hu : P.underlying dT = some (.slice elem)) (hs : (P.info? elem).map (·.size) = some sz)
  (hg : w.heap[g]? = some (.cells cur t (0, 0))) (hn : cs.length = Nat.min sLen dLen * sz)
  (hsrc : ∀ j v, cs[j]? = some v → w.cell? (a.add j) = some v) (hfit : o + cs.length ≤ cur.size) (h1 : ∀ v ∈ cs, v.oneCell' = true) :
  (Builtin.copy_ #[dT, sT] ty #[.slice (some ⟨g, o, none⟩) dLen dCap, .slice (some a) sLen sCap]).run P w =
   .ok (goInt (Nat.min sLen dLen)) (w.setRow g (cur.toList.take o ++ cs ++ cur.toList.drop (o + cs.length)).toArray) := by
 have hl := run_loadCells_list (P := P) w a cs hsrc
 have hst := run_storeCells_at P g o t cs 0 cur w hg (by simpa using hfit) h1
 cases hq : P.info? elem with
 | none => simp [hq] at hs
 | some i =>
  have hi : i.size = sz := by simpa [hq] using hs
  rw [hn] at hl
  simp [Builtin.copy_, run_underlying hu, Builtin.lenOf, Builtin.firstCells, sizeOf, typeInfo, hq, hi, hl, hst]
theorem run_copy_nothing {P : Program} (w : World) (dT sT ty elem : TypeId) (d a : Option Addr) (dLen dCap sLen sCap sz : Nat) (hu : P.underlying dT = some (.slice elem)) (hs : (P.info? elem).map (·.size) = some sz) (hn : Nat.min sLen dLen = 0) :
  (Builtin.copy_ #[dT, sT] ty #[.slice d dLen dCap, .slice a sLen sCap]).run P w = .ok (goInt 0) w := by
 cases hq : P.info? elem with
 | none => simp [hq] at hs
 | some i =>
  have hl : ∀ (x : Addr), (loadCells x 0).run P w = .ok #[] w := fun x => by simpa using run_loadCells_list (P := P) w x [] (by simp)
  cases d <;> cases a <;> simp [Builtin.copy_, run_underlying hu, Builtin.lenOf, Builtin.firstCells, sizeOf, typeInfo, hq, hn, storeCells, hl]
theorem wpList_copy_run {P : Program} {w : World} {ops : Array Oper} {rest : List Oper} {o : Oper} {a : Act} {Q : Exit → Act → World → Prop} (hgd : o.guard = none) (d s : Operand) (dT sT : TypeId)
  (ho : o.op = .call { callee := .builtin .copy, args := #[d, s], argTypes := #[dT, sT] }) {v u : Value} (hd : a.eval d = v) (hs : a.eval s = u) {x : Value} {w' : World}
  (hr : (Builtin.copy_ #[dT, sT] o.type #[v, u]).run P w = .ok x w') (h : wpList P ops Q rest (a.put o.dst x) w') : wpList P ops Q (o :: rest) a w := by
 refine wpList_plain hgd fun K hK => ?_
 unfold Oper.wp
 simp [execOp, ho, resolve, invoke, builtin, hd, hs, hr, Result.andThen]
 exact hK _ _ h

/-- Calls made anew. -/
def ClNew (cs : List Cl) (w : World) (e : Ending) (w' : World) : Prop := ∃ g cap, e = .returned (.slice (some ⟨g, 0, none⟩) cs.length cap) ∧ w.heap.size ≤ g ∧ Own w' g cs.length cap 57 3 (ccells cs) ∧ Below w.heap.size w w'
theorem infoCs : (Try.prog.info? 57).map (·.size) = some 3 := by kernel_rfl

set_option maxRecDepth 100000 in
set_option maxHeartbeats 1000000 in
theorem copyCalls_any (v : Value) (cs : List Cl) (w : World) (hv : Rds w v cs.length 3 (ccells cs)) (hlen : cs.length ≤ 2000000) :
  Calls Try.prog 111 #[v] w (ClNew cs w) := by
 obtain ⟨hl1, hm1, a, ca, rfl, hn1, hc1⟩ := hv
 unfold maxLen at hm1
 obtain ⟨i0, hi, hz0, hz1, hz2⟩ := info_parts infoC
 unfold ClNew
 obtain ⟨n, hn⟩ : ∃ n, cs.length = n := ⟨_, rfl⟩
 rw [hn] at hm1 hn1 hc1 hlen hl1 ⊢
 have HL := Lib.hid hl1
 have HN := Lib.hid hn
 have hsm : IntKind.i64.wrap ((n : Int) + 1) = (n : Int) + 1 := IntWalk.i64_in _ (by omega)
 have hb0 : Blk (w.alloc (.cells (madeCells (Value.agg #[.int .i64 0, .int .i64 0, .int .i64 0]).cells ((n + 1) * 3)) 57)) w.heap.size (madeCells (Value.agg #[.int .i64 0, .int .i64 0, .int .i64 0]).cells ((n + 1) * 3)) 57 := Blk.new rfl
 have hbz : (madeCells (Value.agg #[.int .i64 0, .int .i64 0, .int .i64 0]).cells ((n + 1) * 3)).size = (n + 1) * 3 := size_madeCells _ _
 have HBZ := Lib.hid hbz
 have HB0 := Lib.hid hb0
 clear hn hl1 hbz hb0
 by_cases h0 : n = 0
 ·
  have HCP : Hid (∀ W : World, ∀ ty, (Builtin.copy_ #[31, 31] ty #[.slice (some ⟨w.heap.size, 0, none⟩) n (n + 1), .slice a n ca]).run Try.prog W = .ok (goInt 0) W) := fun W ty => run_copy_nothing W _ _ _ _ _ _ _ _ _ _ 3 Try.underlying31 infoCs (by rw [h0]; rfl)
  have H0 := Lib.hid h0
  clear h0 hc1
  go_enter Try.func111, Try.ntmps111
  go_wp2_with (first | (refine wpList_make_more _ rfl _ _ 31 rfl 57 i0 _ 3 Try.underlying31 hi hz0 hz1 .i64 .i64 _ _ n (n + 1) rfl rfl rfl (by omega) (by omega) (by rw [hz2]; omega) (by omega) ?_) | (refine wpList_copy_run rfl _ _ _ _ rfl rfl rfl (HCP.out _ _) ?_))
  go_returns
  refine ⟨_, _, rfl, Nat.le_refl _, ?_, by (exact grownA)⟩
  refine Own.ofBlk (by rw [ccells_len, HN.out]) HB0.out (by omega) (by unfold maxLen; omega) HBZ.out ?_
  have h0 := H0.out
  subst h0
  have : cs = [] := List.length_eq_zero_iff.1 HN.out
  subst this; simp [ccells]
 ·
  rcases hc1 with hc1 | ⟨b, off, rfl, hb, hc1⟩
  ·
   omega
  have HCP : Hid (∀ ty, (Builtin.copy_ #[31, 31] ty #[.slice (some ⟨w.heap.size, 0, none⟩) n (n + 1), .slice (some ⟨b, off, none⟩) n ca]).run Try.prog (w.alloc (.cells (madeCells (Value.agg #[.int .i64 0, .int .i64 0, .int .i64 0]).cells ((n + 1) * 3)) 57)) = .ok (goInt (Nat.min n n)) ((w.alloc (.cells (madeCells (Value.agg #[.int .i64 0, .int .i64 0, .int .i64 0]).cells ((n + 1) * 3)) 57)).setRow w.heap.size ((madeCells (Value.agg #[.int .i64 0, .int .i64 0, .int .i64 0]).cells ((n + 1) * 3)).toList.take 0 ++ ccells cs ++ (madeCells (Value.agg #[.int .i64 0, .int .i64 0, .int .i64 0]).cells ((n + 1) * 3)).toList.drop (0 + (ccells cs).length)).toArray)) := fun ty => run_copy_rows _ _ _ _ _ _ _ _ _ _ _ _ 3 _ 57 (ccells cs) Try.underlying31 infoCs HB0.out (by rw [HL.out]; simp) (fun j u hu => by
   have hj := (List.getElem?_eq_some_iff.1 hu).1
   rw [HL.out] at hj
   rw [Addr.add_spot, World.cell?_alloc_lt _ _ _ hb, hc1 j hj]; exact hu) (by rw [HL.out, HBZ.out]; omega) (ccells_one cs)
  clear hc1
  go_enter Try.func111, Try.ntmps111
  go_wp2_with (first | (refine wpList_make_more _ rfl _ _ 31 rfl 57 i0 _ 3 Try.underlying31 hi hz0 hz1 .i64 .i64 _ _ n (n + 1) rfl rfl rfl (by omega) (by omega) (by rw [hz2]; omega) (by omega) ?_) | (refine wpList_copy_run rfl _ _ _ _ rfl rfl rfl (HCP.out _) ?_))
  go_returns
  refine ⟨_, _, rfl, Nat.le_refl _, ?_, below_setRow (by (exact grownA)) (Nat.le_refl _) _⟩
  refine Own.ofBlk (by rw [ccells_len, HN.out]) (setRow_heap _ _ _ _ _ _ HB0.out) (by omega) (by unfold maxLen; omega) ?_ ?_
  ·
   have := HBZ.out
   simp only [List.size_toArray, List.length_append, List.length_take, List.length_drop, Array.length_toList, HL.out, HBZ.out, size_madeCells]
   omega
  ·
   simp only [List.take_zero, List.nil_append]
   rw [List.take_append_of_le_length (by rw [HL.out]; omega), ← HL.out, List.take_length]

end Go.Proofs.Ytedadhoneebfnaa
