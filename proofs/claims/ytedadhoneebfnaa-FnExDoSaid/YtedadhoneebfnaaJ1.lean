/- Joined texts: ClP, Lib, Cc, Str, Dd, Step, Ex, Pl6, In, Dig, Pre. -/
import Derived.WalkKit
import Derived.WalkSpells
import Derived.WalkLawsBesides
import Derived.Lib.Hide
import Derived.Deep.Draws
import Derived.Deep.AppendLies
import Derived.Test.YtedadhoneebfnaaRows
import Derived.Handy
set_option linter.unusedSimpArgs false
set_option linter.unusedVariables false
/- The calls of a network of three stages: moving them (Clos). Plain lists and numbers; no program in sight. -/
namespace Go.Proofs.Ytedadhoneebfnaa

/-! The chain of calls that are moved: plain, over places 0 .. n-1. 'sw true k' is the outer switch to which the call k goes, 'sw false k' that from which. -/
section
variable (n : Nat) (via : Nat → Int) (sw : Bool → Nat → Int) (a b : Int)
def nextK (s : Bool) (outer want : Int) (ch : List Nat) : Option Nat :=
 (List.range n).find? fun k => (!ch.contains k && decide (sw s k = outer)) && decide (via k = want)
def chainK : Nat → Bool → Int → Int → List Nat → List Nat
 | 0, _, _, _, ch => ch
 | f + 1, s, outer, want, ch =>
  match nextK n via sw s outer want ch with
  | none => ch
  | some k => chainK f (!s) (sw (!s) k) (a + b - want) (ch ++ [k])
end
variable {n : Nat} {via : Nat → Int} {sw : Bool → Nat → Int} {a b : Int}
theorem nextK_some {s : Bool} {outer want : Int} {ch : List Nat} {k : Nat} (h : nextK n via sw s outer want ch = some k) : k < n ∧ k ∉ ch ∧ sw s k = outer ∧ via k = want := by
 have h1 := List.find?_some h
 have h2 := List.mem_of_find?_eq_some h
 simp at h1 h2
 exact ⟨h2, h1.1.1, h1.1.2, h1.2⟩
theorem nextK_none {s : Bool} {outer want : Int} {ch : List Nat} (h : nextK n via sw s outer want ch = none) : ∀ k, k < n → sw s k = outer → via k = want → k ∈ ch := by
 intro k hk h1 h2
 unfold nextK at h
 rw [List.find?_eq_none] at h
 have := h k (by simpa using hk)
 simp [h1, h2] at this
 exact this
/-- No two calls at one switch go through the same middle switch. -/
def Uniq (n : Nat) (via : Nat → Int) (sw : Bool → Nat → Int) : Prop := ∀ s j k, j < n → k < n → sw s j = sw s k → via j = via k → j = k
structure Inv (n : Nat) (via : Nat → Int) (sw : Bool → Nat → Int) (a b I O : Int) (s : Bool) (outer want : Int) (ch : List Nat) : Prop where
 nd : ch.Nodup
 col : ∀ k ∈ ch, k < n ∧ (via k = a ∨ via k = b)
 nb : ∀ k ∈ ch, ∀ t, (∀ j, j < n → sw t j = sw t k → via j = a + b - via k → j ∈ ch) ∨ (t = s ∧ sw t k = outer ∧ a + b - via k = want)
 prev : ∀ j, j < n → sw s j = outer → via j = a + b - want → j ∈ ch
 inI : ∀ k ∈ ch, sw false k = I → via k ≠ b
 st : (s = true ∧ want = a) ∨ (s = false ∧ want = b ∧ outer ≠ I)
 fst : (∀ j, j < n → sw true j = O → via j = a → j ∈ ch) ∨ (s = true ∧ outer = O ∧ want = a)
theorem Inv.step {I O : Int} (hU : Uniq n via sw) (hI : ∀ j, j < n → sw false j = I → via j ≠ a) {s : Bool} {outer want : Int} {ch : List Nat} (h : Inv n via sw a b I O s outer want ch) {k : Nat} (hk : nextK n via sw s outer want ch = some k) : Inv n via sw a b I O (!s) (sw (!s) k) (a + b - want) (ch ++ [k]) := by
 obtain ⟨h1, h2, h3, h4⟩ := nextK_some hk
 have hab : want = a ∨ want = b := by rcases h.st with h | h <;> simp [h]
 refine ⟨?_, ?_, ?_, ?_, ?_, ?_, ?_⟩
 ·
  rw [List.nodup_append]
  refine ⟨h.nd, by simp, ?_⟩
  intro x hx y hy
  simp at hy; subst hy
  intro e; subst e; exact h2 hx
 ·
  intro j hj
  rcases List.mem_append.1 hj with hj | hj
  ·
   exact h.col j hj
  ·
   simp at hj; subst hj; exact ⟨h1, by rw [h4]; exact hab⟩
 ·
  intro j hj t
  rcases List.mem_append.1 hj with hj | hj
  ·
   rcases h.nb j hj t with h5 | ⟨h5, h6, h7⟩
   ·
    exact .inl fun i hi e1 e2 => List.mem_append.2 (.inl (h5 i hi e1 e2))
   ·
    refine .inl fun i hi e1 e2 => List.mem_append.2 (.inr ?_)
    have : i = k := hU s i k hi h1 (by rw [h3, ← h6, ← h5]; exact e1) (by rw [h4, e2, h7])
    simp [this]
  ·
   simp at hj; subst hj
   by_cases ht : t = s
   ·
    subst ht
    refine .inl fun i hi e1 e2 => List.mem_append.2 (.inl (h.prev i hi (by rw [e1, h3]) (by rw [e2, h4])))
   ·
    have ht' : t = !s := by cases t <;> cases s <;> simp_all
    subst ht'
    exact .inr ⟨rfl, rfl, by rw [h4]⟩
 ·
  intro j hj e1 e2
  have : j = k := hU (!s) j k hj h1 e1 (by rw [h4]; omega)
  simp [this]
 ·
  intro j hj e
  rcases List.mem_append.1 hj with hj | hj
  ·
   exact h.inI j hj e
  ·
   simp at hj; subst hj
   rcases h.st with ⟨hs, hw⟩ | ⟨hs, hw, ho⟩
   ·
    exact absurd (by rw [h4, hw]) (hI _ h1 e)
   ·
    subst hs; exact absurd (by rw [← h3, e]) ho
 ·
  rcases h.st with ⟨hs, hw⟩ | ⟨hs, hw, ho⟩
  ·
   subst hs
   exact .inr ⟨rfl, by omega, fun e => hI k h1 e (by rw [h4, hw])⟩
  ·
   subst hs
   exact .inl ⟨rfl, by omega⟩
 ·
  rcases h.fst with h5 | ⟨h5, h6, h7⟩
  ·
   exact .inl fun j hj e1 e2 => List.mem_append.2 (.inl (h5 j hj e1 e2))
  ·
   refine .inl fun j hj e1 e2 => List.mem_append.2 (.inr ?_)
   have : j = k := hU true j k hj h1 (by rw [e1, ← h5, h3, h6]; ) (by rw [e2, h4, h7])
   simp [this]
/-- What the whole chain is. -/
structure Whole (n : Nat) (via : Nat → Int) (sw : Bool → Nat → Int) (a b I O : Int) (ch : List Nat) : Prop where
 nd : ch.Nodup
 col : ∀ k ∈ ch, k < n ∧ (via k = a ∨ via k = b)
 nb : ∀ k ∈ ch, ∀ t j, j < n → sw t j = sw t k → via j = a + b - via k → j ∈ ch
 inI : ∀ k ∈ ch, sw false k = I → via k ≠ b
 fst : ∀ j, j < n → sw true j = O → via j = a → j ∈ ch
theorem nodup_len : ∀ {n : Nat} {ch : List Nat}, ch.Nodup → (∀ k ∈ ch, k < n) → ch.length ≤ n := by
 intro n
 induction n with
 | zero =>
  intro ch _ hl
  cases ch with
  | nil => simp
  | cons x xs => exact absurd (hl x (by simp)) (by omega)
 | succ n ih =>
  intro ch h hl
  have h1 : (ch.erase n).length ≤ n := ih (h.erase n) (fun k hk => by
   have h2 := (List.Nodup.mem_erase_iff h).1 hk
   have := hl k h2.2
   have := h2.1
   omega)
  rw [List.length_erase] at h1
  split at h1 <;> omega
theorem chainK_whole {I O : Int} (hU : Uniq n via sw) (hI : ∀ j, j < n → sw false j = I → via j ≠ a) : ∀ (f : Nat) (s : Bool) (outer want : Int) (ch : List Nat), n < f + ch.length → Inv n via sw a b I O s outer want ch → Whole n via sw a b I O (chainK n via sw a b f s outer want ch) := by
 intro f
 induction f with
 | zero =>
  intro s outer want ch hf h
  have := nodup_len h.nd (fun k hk => (h.col k hk).1)
  omega
 | succ f ih =>
  intro s outer want ch hf h
  simp only [chainK]
  cases hk : nextK n via sw s outer want ch with
  | none =>
   have hn := nextK_none hk
   refine ⟨h.nd, h.col, fun k hk t j hj e1 e2 => ?_, h.inI, fun j hj e1 e2 => ?_⟩
   ·
    rcases h.nb k hk t with h5 | ⟨h5, h6, h7⟩
    ·
     exact h5 j hj e1 e2
    ·
     exact hn j hj (by rw [← h6, ← h5]; exact e1) (by rw [e2, h7])
   ·
    rcases h.fst with h5 | ⟨h5, h6, h7⟩
    ·
     exact h5 j hj e1 e2
    ·
     exact hn j hj (by rw [h5, e1, h6]) (by rw [e2, h7])
  | some k => exact ih _ _ _ _ (by simp; omega) (h.step hU hI hk)
theorem chainK_first {I O : Int} (hO : ∀ j, j < n → sw true j = O → via j ≠ b) : Inv n via sw a b I O true O a [] :=
 ⟨List.nodup_nil, fun k hk => by simp at hk, fun k hk => by simp at hk, fun j hj e1 e2 => absurd (by omega) (hO j hj e1), fun k hk => by simp at hk, .inl ⟨rfl, rfl⟩, .inr ⟨rfl, rfl, rfl⟩⟩
/-- The middle switches after the moves. -/
def flipK (via : Nat → Int) (a b : Int) (ch : List Nat) (k : Nat) : Int := if k ∈ ch then a + b - via k else via k
theorem Whole.uniq {I O : Int} (hU : Uniq n via sw) {ch : List Nat} (h : Whole n via sw a b I O ch) : Uniq n (flipK via a b ch) sw := by
 intro s j k hj hk hs hv
 unfold flipK at hv
 by_cases h1 : j ∈ ch <;> by_cases h2 : k ∈ ch
 ·
  rw [if_pos h1, if_pos h2] at hv; exact hU s j k hj hk hs (by omega)
 ·
  rw [if_pos h1, if_neg h2] at hv; exact absurd (h.nb j h1 s k hk hs.symm hv.symm) h2
 ·
  rw [if_neg h1, if_pos h2] at hv; exact absurd (h.nb k h2 s j hj hs hv) h1
 ·
  rw [if_neg h1, if_neg h2] at hv; exact hU s j k hj hk hs hv
theorem Whole.fromI {I O : Int} (hI : ∀ j, j < n → sw false j = I → via j ≠ a) {ch : List Nat} (h : Whole n via sw a b I O ch) : ∀ j, j < n → sw false j = I → flipK via a b ch j ≠ a := by
 intro j hj e
 unfold flipK
 by_cases h1 : j ∈ ch
 ·
  rcases (h.col j h1).2 with h2 | h2
  ·
   exact absurd h2 (hI j hj e)
  ·
   exact absurd h2 (h.inI j h1 e)
 ·
  rw [if_neg h1]; exact hI j hj e
theorem Whole.toO {I O : Int} (hab : a ≠ b) (hO : ∀ j, j < n → sw true j = O → via j ≠ b) {ch : List Nat} (h : Whole n via sw a b I O ch) : ∀ j, j < n → sw true j = O → flipK via a b ch j ≠ a := by
 intro j hj e
 unfold flipK
 by_cases h1 : j ∈ ch
 ·
  rw [if_pos h1]
  rcases (h.col j h1).2 with h2 | h2
  ·
   omega
  ·
   exact absurd h2 (hO j hj e)
 ·
  rw [if_neg h1]; intro h2; exact h1 (h.fst j hj e h2)

/-! Lists of calls: input, output, middle switch. -/
abbrev Cl := Int × Int × Int
def swC (E : Int) (s : Bool) (c : Cl) : Int := if s then c.2.1 / E else c.1 / E
def swL (E : Int) (cs : List Cl) (s : Bool) (k : Nat) : Int := match cs[k]? with
 | some c => swC E s c
 | none => 0
def viaL (cs : List Cl) (k : Nat) : Int := match cs[k]? with
 | some c => c.2.2
 | none => 0
theorem swL_at {E : Int} {cs : List Cl} {s : Bool} {k : Nat} {c : Cl} (h : cs[k]? = some c) : swL E cs s k = swC E s c := by simp [swL, h]
theorem viaL_at {cs : List Cl} {k : Nat} {c : Cl} (h : cs[k]? = some c) : viaL cs k = c.2.2 := by simp [viaL, h]
structure ShapeOk (O E M : Int) : Prop where
 o : 1 ≤ O ∧ O ≤ 4
 e : 1 ≤ E ∧ E ≤ 3
 m : 1 ≤ M ∧ M ≤ 5
structure CallsOk (O E M : Int) (cs : List Cl) : Prop where
 sh : ShapeOk O E M
 at' : ∀ (k : Nat) (c : Cl), cs[k]? = some c → (0 ≤ c.1 ∧ c.1 < O * E) ∧ (0 ≤ c.2.1 ∧ c.2.1 < O * E) ∧ 0 ≤ c.2.2 ∧ c.2.2 < M
 apart : ∀ (j k : Nat) (d c : Cl), j < k → cs[j]? = some d → cs[k]? = some c → d.1 ≠ c.1 ∧ d.2.1 ≠ c.2.1 ∧ ∀ s, swC E s d = swC E s c → d.2.2 ≠ c.2.2
theorem CallsOk.uniq {O E M : Int} {cs : List Cl} (h : CallsOk O E M cs) : Uniq cs.length (viaL cs) (swL E cs) := by
 intro s j k hj hk hs hv
 obtain ⟨d, hd⟩ : ∃ d, cs[j]? = some d := ⟨_, List.getElem?_eq_getElem hj⟩
 obtain ⟨c, hc⟩ : ∃ c, cs[k]? = some c := ⟨_, List.getElem?_eq_getElem hk⟩
 rw [swL_at hd, swL_at hc] at hs
 rw [viaL_at hd, viaL_at hc] at hv
 rcases Nat.lt_trichotomy j k with e | e | e
 ·
  exact absurd hv ((h.apart j k d c e hd hc).2.2 s hs)
 ·
  exact e
 ·
  exact absurd hv.symm ((h.apart k j c d e hc hd).2.2 s hs.symm)
/-- Whether a call at an outer switch goes through m. -/
def usedB (E : Int) (cs : List Cl) (s : Bool) (o m : Int) : Bool := cs.any fun c => decide (swC E s c = o) && decide (c.2.2 = m)
theorem usedB_iff {E : Int} {cs : List Cl} {s : Bool} {o m : Int} : usedB E cs s o m = true ↔ ∃ c ∈ cs, swC E s c = o ∧ c.2.2 = m := by simp [usedB]
def mids (M : Int) : List Int := (List.range M.toNat).map Int.ofNat
theorem mids_mem {M m : Int} (hM : 0 ≤ M) : m ∈ mids M ↔ 0 ≤ m ∧ m < M := by
 unfold mids
 rw [List.mem_map]
 constructor
 ·
  rintro ⟨a, ha, rfl⟩
  have := List.mem_range.1 ha
  have e : Int.ofNat a = (a : Int) := rfl
  omega
 ·
  intro h
  refine ⟨m.toNat, List.mem_range.2 (by omega), ?_⟩
  have e : Int.ofNat m.toNat = (m.toNat : Int) := rfl
  omega
def freeL (E M : Int) (cs : List Cl) (x y : Int) : List Int := (mids M).filter fun m => !usedB E cs false (x / E) m && !usedB E cs true (y / E) m
def firstL (E M : Int) (cs : List Cl) (s : Bool) (o : Int) : Int := ((mids M).find? fun m => !usedB E cs s o m).getD (-1)
def flipL (a b : Int) (ch : List Nat) (cs : List Cl) : List Cl := cs.mapIdx fun k c => (c.1, c.2.1, if k ∈ ch then a + b - c.2.2 else c.2.2)
def chainL (E a b : Int) (cs : List Cl) (y : Int) : List Nat := chainK cs.length (viaL cs) (swL E cs) a b (cs.length + 1) true (y / E) a []
def moveL (E M : Int) (cs : List Cl) (x y : Int) : List Cl := match freeL E M cs x y with
 | m :: _ => cs ++ [(x, y, m)]
 | [] =>
  let a := firstL E M cs false (x / E)
  let b := firstL E M cs true (y / E)
  flipL a b (chainL E a b cs y) cs ++ [(x, y, a)]
def freeB (cs : List Cl) (x y : Int) : Prop := ∀ c ∈ cs, c.1 ≠ x ∧ c.2.1 ≠ y
/-- One call more. -/
theorem CallsOk.push {O E M : Int} {cs : List Cl} (h : CallsOk O E M cs) {x y m : Int} (hx : 0 ≤ x ∧ x < O * E) (hy : 0 ≤ y ∧ y < O * E) (hm : 0 ≤ m ∧ m < M) (hf : freeB cs x y) (h1 : ∀ c ∈ cs, swC E false c = x / E → c.2.2 ≠ m) (h2 : ∀ c ∈ cs, swC E true c = y / E → c.2.2 ≠ m) : CallsOk O E M (cs ++ [(x, y, m)]) := by
 refine ⟨h.sh, fun k c hc => ?_, fun j k d c hjk hd hc => ?_⟩
 ·
  by_cases hk : k < cs.length
  ·
   rw [List.getElem?_append_left hk] at hc; exact h.at' k c hc
  ·
   rw [List.getElem?_append_right (by omega)] at hc
   have := (List.getElem?_eq_some_iff.1 hc).1
   have e : k - cs.length = 0 := by simp at this; omega
   rw [e] at hc; simp at hc; subst hc
   exact ⟨hx, hy, hm⟩
 ·
  by_cases hk : k < cs.length
  ·
   rw [List.getElem?_append_left hk] at hc
   rw [List.getElem?_append_left (by omega)] at hd
   exact h.apart j k d c hjk hd hc
  ·
   rw [List.getElem?_append_right (by omega)] at hc
   have := (List.getElem?_eq_some_iff.1 hc).1
   have e : k - cs.length = 0 := by simp at this; omega
   rw [e] at hc; simp at hc; subst hc
   have hj : j < cs.length := by simp at this; omega
   rw [List.getElem?_append_left hj] at hd
   have hmem := List.mem_of_getElem? hd
   refine ⟨(hf d hmem).1, (hf d hmem).2, fun s hs => ?_⟩
   cases s
   ·
    exact h1 d hmem (by rw [hs]; simp [swC])
   ·
    exact h2 d hmem (by rw [hs]; simp [swC])
theorem flipL_at {a b : Int} {ch : List Nat} {cs : List Cl} {k : Nat} {c : Cl} (h : cs[k]? = some c) : (flipL a b ch cs)[k]? = some (c.1, c.2.1, flipK (viaL cs) a b ch k) := by
 unfold flipL flipK
 rw [List.getElem?_mapIdx, h, viaL_at h]; rfl
theorem flipL_of {a b : Int} {ch : List Nat} {cs : List Cl} {k : Nat} {e : Cl} (h : (flipL a b ch cs)[k]? = some e) : ∃ c, cs[k]? = some c ∧ e = (c.1, c.2.1, flipK (viaL cs) a b ch k) := by
 have hl : k < cs.length := by have := (List.getElem?_eq_some_iff.1 h).1; simpa [flipL] using this
 obtain ⟨c, hc⟩ : ∃ c, cs[k]? = some c := ⟨_, List.getElem?_eq_getElem hl⟩
 rw [flipL_at hc] at h
 exact ⟨c, hc, (Option.some.inj h).symm⟩
/-- A middle switch is left at the outer switch of a line that has no call. -/
theorem some_left {O E M : Int} {cs : List Cl} (h : CallsOk O E M cs) (hEM : E ≤ M) (s : Bool) {x : Int} (hx : 0 ≤ x) (hf : ∀ c ∈ cs, (if s then c.2.1 else c.1) ≠ x) : ∃ m, 0 ≤ m ∧ m < M ∧ usedB E cs s (x / E) m = false := by
 refine Classical.byContradiction fun hno => ?_
 have hall : ∀ m : Nat, m < M.toNat → ∃ (k : Nat) (c : Cl), cs[k]? = some c ∧ swC E s c = x / E ∧ c.2.2 = m := by
  intro m hm
  have h1 : usedB E cs s (x / E) m = true := by
   cases hu : usedB E cs s (x / E) m with
   | true => rfl
   | false => exact absurd ⟨(m : Int), by omega, by omega, hu⟩ hno
  obtain ⟨c, hc, e1, e2⟩ := usedB_iff.1 h1
  obtain ⟨k, hk⟩ := List.mem_iff_getElem?.1 hc
  exact ⟨k, c, hk, e1, e2⟩
 have hE := h.sh.e
 let ln : Cl → Int := fun c => if s then c.2.1 else c.1
 have hln : ∀ c, swC E s c = ln c / E := by intro c; cases s <;> rfl
 have hdiff : ∀ (k1 k2 : Nat) (c1 c2 : Cl), cs[k1]? = some c1 → cs[k2]? = some c2 → ln c1 = ln c2 → k1 = k2 := by
  intro k1 k2 c1 c2 e1 e2 e3
  rcases Nat.lt_trichotomy k1 k2 with e | e | e
  ·
   have := h.apart k1 k2 c1 c2 e e1 e2
   cases s
   ·
    exact absurd e3 this.1
   ·
    exact absurd e3 this.2.1
  ·
   exact e
  ·
   have := h.apart k2 k1 c2 c1 e e2 e1
   cases s
   ·
    exact absurd e3.symm this.1
   ·
    exact absurd e3.symm this.2.1
 have hpos : ∀ (k : Nat) (c : Cl), cs[k]? = some c → 0 ≤ ln c := by
  intro k c hc
  have := h.at' k c hc
  cases s
  ·
   exact this.1.1
  ·
   exact this.2.1.1
 -- the lines of the calls through 0, 1, ..: as many as M, and x besides
 have hmain : ∀ n : Nat, n ≤ M.toNat → ∃ ls : List Nat, ls.length = n ∧ ls.Nodup ∧ ∀ l ∈ ls, l < E.toNat ∧ ∃ (k : Nat) (c : Cl), cs[k]? = some c ∧ swC E s c = x / E ∧ c.2.2 < n ∧ (l : Int) = ln c % E := by
  intro n
  induction n with
  | zero => intro _; exact ⟨[], rfl, List.nodup_nil, fun l hl => by simp at hl⟩
  | succ n ih =>
   intro hn
   obtain ⟨ls, h1, h2, h3⟩ := ih (by omega)
   obtain ⟨k, c, hc, e1, e2⟩ := hall n (by omega)
   have hm0 := Int.emod_nonneg (ln c) (show E ≠ 0 by omega)
   have hm1 := Int.emod_lt_of_pos (ln c) (show 0 < E by omega)
   refine ⟨(ln c % E).toNat :: ls, by simp [h1], ?_, ?_⟩
   ·
    rw [List.nodup_cons]
    refine ⟨fun hin => ?_, h2⟩
    obtain ⟨_, k2, c2, g1, g2, g3, g4⟩ := h3 _ hin
    have e3 : ln c = ln c2 := by
     have a1 := Int.mul_ediv_add_emod (ln c) E
     have a2 := Int.mul_ediv_add_emod (ln c2) E
     rw [← hln, e1] at a1
     rw [← hln, g2] at a2
     have g5 : ln c % E = ln c2 % E := by omega
     rw [← a1, ← a2, g5]
    have := hdiff k k2 c c2 hc g1 e3
    subst this
    rw [hc] at g1; cases g1
    omega
   ·
    intro l hl
    rcases List.mem_cons.1 hl with rfl | hl
    ·
     exact ⟨by omega, k, c, hc, e1, by omega, by omega⟩
    ·
     obtain ⟨g0, k2, c2, g1, g2, g3, g4⟩ := h3 l hl
     exact ⟨g0, k2, c2, g1, g2, by omega, g4⟩
 obtain ⟨ls, h1, h2, h3⟩ := hmain M.toNat (Nat.le_refl _)
 have hm0 := Int.emod_nonneg x (show E ≠ 0 by omega)
 have hm1 := Int.emod_lt_of_pos x (show 0 < E by omega)
 have h4 : ((x % E).toNat :: ls).Nodup := by
  rw [List.nodup_cons]
  refine ⟨fun hin => ?_, h2⟩
  obtain ⟨_, k2, c2, g1, g2, g3, g4⟩ := h3 _ hin
  have a1 := Int.mul_ediv_add_emod x E
  have a2 := Int.mul_ediv_add_emod (ln c2) E
  rw [← hln, g2] at a2
  have g5 : x % E = ln c2 % E := by omega
  have : ln c2 = x := by rw [← a1, ← a2, g5]
  exact hf c2 (List.mem_of_getElem? g1) this
 have h5 := nodup_len (n := E.toNat) h4 (fun k hk => by
  rcases List.mem_cons.1 hk with rfl | hk
  ·
   omega
  ·
   exact (h3 k hk).1)
 simp at h5
 omega
theorem firstL_some {O E M : Int} {cs : List Cl} (h : CallsOk O E M cs) (hEM : E ≤ M) (s : Bool) {x : Int} (hx : 0 ≤ x) (hf : ∀ c ∈ cs, (if s then c.2.1 else c.1) ≠ x) : 0 ≤ firstL E M cs s (x / E) ∧ firstL E M cs s (x / E) < M ∧ usedB E cs s (x / E) (firstL E M cs s (x / E)) = false := by
 obtain ⟨m, h1, h2, h3⟩ := some_left h hEM s hx hf
 have hM := h.sh.m
 unfold firstL
 cases hf : (mids M).find? fun m => !usedB E cs s (x / E) m with
 | none =>
  rw [List.find?_eq_none] at hf
  have := hf m ((mids_mem (by omega)).2 ⟨h1, h2⟩)
  simp [h3] at this
 | some k =>
  have g1 := List.find?_some hf
  have g2 := (mids_mem (by omega)).1 (List.mem_of_find?_eq_some hf)
  simp at g1 ⊢
  exact ⟨g2.1, g2.2, g1⟩
/-- Nobody who is free is refused. -/
theorem moveL_ok {O E M : Int} {cs : List Cl} (h : CallsOk O E M cs) (hEM : E ≤ M) {x y : Int} (hx : 0 ≤ x ∧ x < O * E) (hy : 0 ≤ y ∧ y < O * E) (hf : freeB cs x y) : CallsOk O E M (moveL E M cs x y) := by
 have hM := h.sh.m
 unfold moveL
 cases hfr : freeL E M cs x y with
 | cons m r =>
  have hm : m ∈ freeL E M cs x y := by rw [hfr]; simp
  unfold freeL at hm
  obtain ⟨m1, m2⟩ := List.mem_filter.1 hm
  simp only [Bool.and_eq_true, Bool.not_eq_true'] at m2
  have m3 := (mids_mem (by omega)).1 m1
  refine h.push hx hy m3 hf (fun c hc e e2 => ?_) (fun c hc e e2 => ?_)
  ·
   have := usedB_iff.2 ⟨c, hc, e, e2⟩
   rw [m2.1] at this; cases this
  ·
   have := usedB_iff.2 ⟨c, hc, e, e2⟩
   rw [m2.2] at this; cases this
 | nil =>
  simp only
  obtain ⟨a0, a1, a2⟩ := firstL_some h hEM false hx.1 (fun c hc => by simpa using (hf c hc).1)
  obtain ⟨b0, b1, b2⟩ := firstL_some h hEM true hy.1 (fun c hc => by simpa using (hf c hc).2)
  obtain ⟨a, ha⟩ : ∃ a, firstL E M cs false (x / E) = a := ⟨_, rfl⟩
  obtain ⟨b, hb⟩ : ∃ b, firstL E M cs true (y / E) = b := ⟨_, rfl⟩
  rw [ha] at a0 a1 a2
  rw [hb] at b0 b1 b2
  rw [ha, hb]
  have hab : a ≠ b := by
   intro e
   subst e
   have : a ∈ freeL E M cs x y := by
    unfold freeL
    rw [List.mem_filter]
    exact ⟨(mids_mem (by omega)).2 ⟨a0, a1⟩, by simp [a2, b2]⟩
   rw [hfr] at this; cases this
  have hU := h.uniq
  have hI : ∀ j, j < cs.length → swL E cs false j = x / E → viaL cs j ≠ a := by
   intro j hj e e2
   obtain ⟨c, hc⟩ : ∃ c, cs[j]? = some c := ⟨_, List.getElem?_eq_getElem hj⟩
   rw [swL_at hc] at e; rw [viaL_at hc] at e2
   have := usedB_iff.2 ⟨c, List.mem_of_getElem? hc, e, e2⟩
   rw [a2] at this; cases this
  have hO : ∀ j, j < cs.length → swL E cs true j = y / E → viaL cs j ≠ b := by
   intro j hj e e2
   obtain ⟨c, hc⟩ : ∃ c, cs[j]? = some c := ⟨_, List.getElem?_eq_getElem hj⟩
   rw [swL_at hc] at e; rw [viaL_at hc] at e2
   have := usedB_iff.2 ⟨c, List.mem_of_getElem? hc, e, e2⟩
   rw [b2] at this; cases this
  have hW : Whole cs.length (viaL cs) (swL E cs) a b (x / E) (y / E) (chainL E a b cs y) := chainK_whole hU hI _ _ _ _ _ (by simp) (chainK_first hO)
  obtain ⟨ch, hch⟩ : ∃ ch, chainL E a b cs y = ch := ⟨_, rfl⟩
  rw [hch] at hW ⊢
  have hU2 := hW.uniq hU
  have hI2 := hW.fromI hI
  have hO2 := hW.toO hab hO
  have hflip : CallsOk O E M (flipL a b ch cs) := by
   refine ⟨h.sh, fun k e he => ?_, fun j k d e hjk hd he => ?_⟩
   ·
    obtain ⟨c, hc, rfl⟩ := flipL_of he
    have h3 := h.at' k c hc
    refine ⟨h3.1, h3.2.1, ?_⟩
    show 0 ≤ flipK (viaL cs) a b ch k ∧ flipK (viaL cs) a b ch k < M
    unfold flipK
    split
    ·
     rename_i hk
     rcases (hW.col k hk).2 with e | e <;> rw [e] <;> omega
    ·
     rw [viaL_at hc]; exact h3.2.2
   ·
    obtain ⟨d', hd', rfl⟩ := flipL_of hd
    obtain ⟨c', hc', rfl⟩ := flipL_of he
    have h3 := h.apart j k d' c' hjk hd' hc'
    refine ⟨h3.1, h3.2.1, fun s hs e2 => ?_⟩
    have hs' : swL E cs s j = swL E cs s k := by rw [swL_at hd', swL_at hc']; exact hs
    have := hU2 s j k (List.getElem?_eq_some_iff.1 hd').1 (List.getElem?_eq_some_iff.1 hc').1 hs' e2
    omega
  refine hflip.push hx hy ⟨a0, a1⟩ (fun e he => ?_) (fun e he e1 => ?_) (fun e he e1 => ?_)
  ·
   obtain ⟨k, hk⟩ := List.mem_iff_getElem?.1 he
   obtain ⟨c, hc, rfl⟩ := flipL_of hk
   exact hf c (List.mem_of_getElem? hc)
  ·
   obtain ⟨k, hk⟩ := List.mem_iff_getElem?.1 he
   obtain ⟨c, hc, rfl⟩ := flipL_of hk
   exact hI2 k (List.getElem?_eq_some_iff.1 hc).1 (by rw [swL_at hc]; exact e1)
  ·
   obtain ⟨k, hk⟩ := List.mem_iff_getElem?.1 he
   obtain ⟨c, hc, rfl⟩ := flipL_of hk
   exact hO2 k (List.getElem?_eq_some_iff.1 hc).1 (by rw [swL_at hc]; exact e1)

end Go.Proofs.Ytedadhoneebfnaa

/- Small facts on worlds used by all walks: whole blocks that are known. No program in sight. -/
namespace Go.Proofs.Ytedadhoneebfnaa
open Go.RowKit

theorem bcell {W w1 : World} (hb : Below W.heap.size W w1) : (∀ b o, b < W.heap.size → w1.cell? ⟨b, o, none⟩ = W.cell? ⟨b, o, none⟩) ∧ (∀ b o, b < W.heap.size → w1.frozen? ⟨b, o, none⟩ = W.frozen? ⟨b, o, none⟩) :=
  ⟨fun b o h => hb.cell (p := ⟨b, o, none⟩) h, fun b o h => hb.frozen (p := ⟨b, o, none⟩) h⟩

theorem keep_alloc {w : World} {a : Addr} {v : Value} {o : Obj} (h : w.cell? a = some v) : (w.alloc o).cell? a = some v := by
  have hlt : a.block < w.heap.size := by
    unfold World.cell? at h
    split at h
    · rename_i h'; exact lt_of_block h'
    · cases h
  rw [World.cell?_alloc_lt _ _ _ hlt]; exact h
theorem keep_drew {w : World} {a : Addr} {v : Value} (h : w.cell? a = some v) : w.drew.cell? a = some v := h
theorem keep_drewN {w : World} {a : Addr} {v : Value} {n : Nat} (h : w.cell? a = some v) : (w.drewN n).cell? a = some v := h
theorem keep_below {w w' : World} {a : Addr} {v : Value} (hb : Below w.heap.size w w') (h : w.cell? a = some v) : w'.cell? a = some v := by
  have hlt : a.block < w.heap.size := by
    unfold World.cell? at h
    split at h
    · rename_i h'; exact lt_of_block h'
    · cases h
  exact (hb.cell hlt).trans h

theorem keep_other {w : World} {a p : Addr} {u v : Value} (ha : p.block ≠ a.block) (h : w.cell? p = some v) : (w.setCell a u).cell? p = some v := by
  rw [World.cell?_setCell_other _ _ _ _ (fun e => ha (by rw [e]))]; exact h

/-- Block b holds just these cells, and may be written. -/
def Blk (w : World) (b : Nat) (cs : Array Value) (T : TypeId) : Prop := w.heap[b]? = some (.cells cs T (0, 0))

theorem Blk.lt {w : World} {b : Nat} {cs : Array Value} {T : TypeId} (h : Blk w b cs T) : b < w.heap.size := lt_of_block h
theorem Blk.far {w : World} {b : Nat} {cs : Array Value} {T : TypeId} (h : Blk w b cs T) : ∀ k, b < w.heap.size + k := fun k => Nat.lt_of_lt_of_le h.lt (Nat.le_add_right _ _)
theorem Blk.at {w : World} {b : Nat} {cs : Array Value} {T : TypeId} (h : Blk w b cs T) (i : Nat) : w.cell? ⟨b, i, none⟩ = cs[i]? := by
  unfold Blk at h; simp [World.cell?, h]
theorem Blk.free {w : World} {b : Nat} {cs : Array Value} {T : TypeId} (h : Blk w b cs T) (i : Nat) : w.frozen? ⟨b, i, none⟩ = false := by
  unfold Blk at h; simp [World.frozen?, h]
theorem Blk.new {w : World} {cs : Array Value} {T : TypeId} {b : Nat} (hb : b = w.heap.size) : Blk (w.alloc (.cells cs T)) b cs T := by
  subst hb; show (w.heap.push _)[w.heap.size]? = _; simp
theorem Blk.alloc {w : World} {b : Nat} {cs : Array Value} {T : TypeId} (h : Blk w b cs T) (o : Obj) : Blk (w.alloc o) b cs T := by
  have := h.lt; unfold Blk at h ⊢; rw [Below.heap_alloc _ _ _ this]; exact h
theorem Blk.drew {w : World} {b : Nat} {cs : Array Value} {T : TypeId} (h : Blk w b cs T) : Blk w.drew b cs T := h
theorem Blk.drewN {w : World} {b : Nat} {cs : Array Value} {T : TypeId} (h : Blk w b cs T) (n : Nat) : Blk (w.drewN n) b cs T := h
theorem Blk.below {w w' : World} {b B : Nat} {cs : Array Value} {T : TypeId} (hb : Below B w w') (hB : b < B) (h : Blk w b cs T) : Blk w' b cs T := by
  unfold Blk at h ⊢; rw [hb.block b hB]; exact h
theorem Blk.belowAll {w w' : World} {b : Nat} {cs : Array Value} {T : TypeId} (h : Blk w b cs T) (hb : Below w.heap.size w w') : Blk w' b cs T := Blk.below hb h.lt h
theorem Blk.other {w : World} {b : Nat} {cs : Array Value} {T : TypeId} {a : Addr} {u : Value} (ha : b ≠ a.block) (h : Blk w b cs T) : Blk (w.setCell a u) b cs T := by
  unfold Blk at h ⊢; rw [Below.heap_setCell _ _ _ _ ha]; exact h
theorem Blk.set {w : World} {b : Nat} {cs : Array Value} {T : TypeId} (h : Blk w b cs T) {i : Nat} {cs' : Array Value} {u : Value} (hc : cs.setIfInBounds i u = cs') : Blk (w.setCell ⟨b, i, none⟩ u) b cs' T := by
  subst hc
  have hlt := h.lt
  have h' : w.heap[b] = .cells cs T (0, 0) := by unfold Blk at h; simpa [Array.getElem?_eq_getElem hlt] using h
  show (w.heap.modify b _)[b]? = _
  rw [Array.getElem?_eq_getElem (by simpa using hlt), Array.getElem_modify_self, h']
  rfl

/-- Two cells, three cells: what a walk wants to know of them. -/
theorem Blk.two {w : World} {b : Nat} {x y : Value} {T : TypeId} (h : Blk w b #[x, y] T) : w.cell? ⟨b, 0, none⟩ = some x ∧ w.cell? ⟨b, 1, none⟩ = some y ∧ w.frozen? ⟨b, 0, none⟩ = false ∧ w.frozen? ⟨b, 1, none⟩ = false ∧ b < w.heap.size :=
  ⟨h.at 0, h.at 1, h.free 0, h.free 1, h.lt⟩
theorem Blk.one {w : World} {b : Nat} {x : Value} {T : TypeId} (h : Blk w b #[x] T) : w.cell? ⟨b, 0, none⟩ = some x ∧ w.frozen? ⟨b, 0, none⟩ = false ∧ b < w.heap.size :=
  ⟨h.at 0, h.free 0, h.lt⟩
theorem Blk.three {w : World} {b : Nat} {x y z : Value} {T : TypeId} (h : Blk w b #[x, y, z] T) : w.cell? ⟨b, 0, none⟩ = some x ∧ w.cell? ⟨b, 1, none⟩ = some y ∧ w.cell? ⟨b, 2, none⟩ = some z ∧ w.frozen? ⟨b, 0, none⟩ = false ∧ w.frozen? ⟨b, 1, none⟩ = false ∧ w.frozen? ⟨b, 2, none⟩ = false ∧ b < w.heap.size :=
  ⟨h.at 0, h.at 1, h.at 2, h.free 0, h.free 1, h.free 2, h.lt⟩

/-- A slice that begins at the head of block g, has n elements and room for cap, whose cells (of the elements) are xs; it may be written. -/
def Own (w : World) (g n cap : Nat) (E : TypeId) (size : Nat) (xs : List Value) : Prop := w.ownsRow 0 E size (.slice (some ⟨g, 0, none⟩) n cap) n xs

section
variable {w w' : World} {g n cap : Nat} {E : TypeId} {size : Nat} {xs : List Value}
theorem Own.of {base : Nat} (h : w.ownsRow base E size (.slice (some ⟨g, 0, none⟩) n cap) n xs) : Own w g n cap E size xs ∧ base ≤ g := by
  rcases h with ⟨h1, ⟨h2, _⟩ | ⟨g', cap', cur, hv, hb, r⟩⟩
  · simp at h2
  · have hv' := hv
    simp only [Value.slice.injEq, Option.some.injEq, Addr.mk.injEq, and_true, true_and] at hv'
    obtain ⟨rfl, rfl⟩ := hv'
    exact ⟨⟨h1, .inr ⟨g, cap, cur, rfl, Nat.zero_le _, r⟩⟩, hb⟩
theorem Own.back {base : Nat} (h : Own w g n cap E size xs) (hb : base ≤ g) : w.ownsRow base E size (.slice (some ⟨g, 0, none⟩) n cap) n xs := by
  rcases h with ⟨h1, ⟨h2, _⟩ | ⟨g', cap', cur, hv, _, r⟩⟩
  · simp at h2
  · have hv' := hv
    simp only [Value.slice.injEq, Option.some.injEq, Addr.mk.injEq, and_true, true_and] at hv'
    obtain ⟨rfl, rfl⟩ := hv'
    exact ⟨h1, .inr ⟨g, cap, cur, rfl, hb, r⟩⟩
theorem Own.len (h : Own w g n cap E size xs) : xs.length = n * size := h.1
theorem Own.cell (h : Own w g n cap E size xs) (j : Nat) (hj : j < n * size) : w.cell? ⟨g, j, none⟩ = xs[j]? := h.cellAt j hj
theorem Own.free (h : Own w g n cap E size xs) (j : Nat) : w.frozen? ⟨g, j, none⟩ = false := h.frozenAt j
theorem Own.blk (h : Own w g n cap E size xs) : ∃ cur, Blk w g cur E ∧ n ≤ cap ∧ cap ≤ maxLen ∧ cur.size = cap * size ∧ cur.toList.take (n * size) = xs := by
  rcases h with ⟨h1, ⟨h2, _⟩ | ⟨g', cap', cur, hv, _, hg, r⟩⟩
  · simp at h2
  · simp only [Value.slice.injEq, Option.some.injEq, Addr.mk.injEq, and_true, true_and] at hv
    obtain ⟨rfl, rfl⟩ := hv
    exact ⟨cur, hg, r⟩
theorem Own.ofBlk {cur : Array Value} (hlen : xs.length = n * size) (h : Blk w g cur E) (h1 : n ≤ cap) (h2 : cap ≤ maxLen) (h3 : cur.size = cap * size) (h4 : cur.toList.take (n * size) = xs) : Own w g n cap E size xs :=
  ⟨hlen, .inr ⟨g, cap, cur, rfl, Nat.zero_le _, h, h1, h2, h3, h4⟩⟩
theorem Own.lt (h : Own w g n cap E size xs) : g < w.heap.size := by obtain ⟨cur, hb, _⟩ := h.blk; exact hb.lt
theorem Own.caps (h : Own w g n cap E size xs) : n ≤ cap ∧ cap ≤ maxLen := by obtain ⟨cur, _, h1, h2, _⟩ := h.blk; exact ⟨h1, h2⟩
theorem Own.set {ys : List Value} {j : Nat} {u : Value} (hy : xs.set j u = ys) (h : Own w g n cap E size xs) : Own (w.setCell ⟨g, j, none⟩ u) g n cap E size ys := by
  subst hy; exact (h.stored j u).1
theorem Own.other {a : Addr} {u : Value} (ha : g ≠ a.block) (h : Own w g n cap E size xs) : Own (w.setCell a u) g n cap E size xs := by
  obtain ⟨cur, hb, r1, r2, r3, r4⟩ := h.blk
  exact Own.ofBlk h.len (Blk.other ha hb) r1 r2 r3 r4
theorem Own.alloc {o : Obj} (h : Own w g n cap E size xs) : Own (w.alloc o) g n cap E size xs := by
  obtain ⟨cur, hb, r1, r2, r3, r4⟩ := h.blk
  exact Own.ofBlk h.len (hb.alloc o) r1 r2 r3 r4
theorem Own.drewN {k : Nat} (h : Own w g n cap E size xs) : Own (w.drewN k) g n cap E size xs := h
theorem Own.drew (h : Own w g n cap E size xs) : Own w.drew g n cap E size xs := h
theorem Own.below {B : Nat} (hb : Below B w w') (hB : g < B) (h : Own w g n cap E size xs) : Own w' g n cap E size xs := by
  obtain ⟨cur, hb', r1, r2, r3, r4⟩ := h.blk
  exact Own.ofBlk h.len (Blk.below hb hB hb') r1 r2 r3 r4
theorem own_ge {w : World} {base n : Nat} {E : TypeId} {size : Nat} {v : Value} {xs : List Value} (h : w.ownsRow base E size v n xs) : ∀ k, v.ownBlock = some k → base ≤ k := by
  intro k hk
  rcases h with ⟨_, ⟨rfl, _⟩ | ⟨g, cap, cur, rfl, hb, _⟩⟩
  · simp [Value.ownBlock] at hk
  · simp [Value.ownBlock] at hk; omega
/-- An append's one element, laid in a block of its own first: what has become of memory. -/
theorem below_push {w wr w1 : World} {B n : Nat} {E : TypeId} {size : Nat} {v : Value} {xs : List Value} {o : Obj} (hb : Below B w wr) (hw : B ≤ w.heap.size) (ho : wr.ownsRow B E size v n xs) (hg : (wr.alloc o).grownBy w1 v.ownBlock) : Below B w w1 :=
  ((hb.alloc (by have := hb.size; omega) o)).grown hg (by have := hb.size; simp; omega) (fun k hk => own_ge ho k hk)
end

/-- The slice value v, of n elements of 'size' cells each, reads as the cells xs. -/
def Rds (w : World) (v : Value) (n size : Nat) (xs : List Value) : Prop :=
  xs.length = n * size ∧ n ≤ maxLen ∧ ∃ a cap, v = .slice a n cap ∧ n ≤ cap ∧ (n = 0 ∨ ∃ b off, a = some ⟨b, off, none⟩ ∧ b < w.heap.size ∧ ∀ i, i < n * size → w.cell? ⟨b, off + i, none⟩ = xs[i]?)

theorem Rds.below {w w' : World} {v : Value} {n size : Nat} {xs : List Value} (hb : Below w.heap.size w w') (h : Rds w v n size xs) : Rds w' v n size xs := by
  obtain ⟨h1, h2, a, cap, h3, h4, h5⟩ := h
  refine ⟨h1, h2, a, cap, h3, h4, ?_⟩
  rcases h5 with h5 | ⟨b, off, rfl, hlt, hc⟩
  · exact .inl h5
  · exact .inr ⟨b, off, rfl, by have := hb.size; omega, fun i hi => (hb.cell (p := ⟨b, off + i, none⟩) hlt).trans (hc i hi)⟩
theorem Rds.ofOwns {w : World} {base n : Nat} {E : TypeId} {size : Nat} {v : Value} {xs : List Value} (h : w.ownsRow base E size v n xs) : Rds w v n size xs := by
  obtain ⟨h1, ⟨rfl, h2⟩ | ⟨g, cap, cur, rfl, hb, hg, h3, h4, h5, h6⟩⟩ := h
  · exact ⟨h1, by omega, _, _, by rw [h2], by omega, .inl h2⟩
  · refine ⟨h1, by omega, _, _, rfl, h3, .inr ⟨g, 0, rfl, lt_of_block hg, fun i hi => ?_⟩⟩
    have hc := World.ownsRow.cellAt (w := w) (base := base) (e := E) (size := size) (g := g) (n := n) (cap := cap) (xs := xs) ⟨h1, .inr ⟨g, cap, cur, rfl, hb, hg, h3, h4, h5, h6⟩⟩ i hi
    simpa using hc
theorem Rds.ofOwn {w : World} {g n cap : Nat} {E : TypeId} {size : Nat} {xs : List Value} (h : Own w g n cap E size xs) : Rds w (.slice (some ⟨g, 0, none⟩) n cap) n size xs := Rds.ofOwns h
/-- What a walk opens: the value's shape, and its cells where there are any. -/
theorem Rds.open1 {w : World} {v : Value} {n : Nat} {xs : List Value} (h : Rds w v n 1 xs) : ∃ a cap, v = .slice a n cap ∧ xs.length = n ∧ n ≤ maxLen ∧ n ≤ cap ∧ (n = 0 ∨ ∃ b off, a = some ⟨b, off, none⟩ ∧ b < w.heap.size ∧ ∀ i, i < n → w.cell? ⟨b, off + i, none⟩ = xs[i]?) := by
  obtain ⟨h1, h2, a, cap, h3, h4, h5⟩ := h
  refine ⟨a, cap, h3, by omega, h2, h4, ?_⟩
  simpa using h5

theorem owns_below {w w' : World} {base n : Nat} {E : TypeId} {size : Nat} {v : Value} {xs : List Value} (hb : Below w.heap.size w w') (h : w.ownsRow base E size v n xs) : w'.ownsRow base E size v n xs := by
  refine ⟨h.1, ?_⟩
  rcases h.2 with h2 | ⟨g, cap, cur, hv, hg, hh, r⟩
  · exact .inl h2
  · exact .inr ⟨g, cap, cur, hv, hg, by rw [hb.block g (lt_of_block hh)]; exact hh, r⟩
theorem owns_base {w : World} {base base' n : Nat} {E : TypeId} {size : Nat} {v : Value} {xs : List Value} (hb : base' ≤ base) (h : w.ownsRow base E size v n xs) : w.ownsRow base' E size v n xs := by
  refine ⟨h.1, ?_⟩
  rcases h.2 with h2 | ⟨g, cap, cur, hv, hg, r⟩
  · exact .inl h2
  · exact .inr ⟨g, cap, cur, hv, by omega, r⟩
/-- What is owned lies in a block that there is. -/
theorem own_lt {w : World} {base n : Nat} {E : TypeId} {size : Nat} {v : Value} {xs : List Value} (h : w.ownsRow base E size v n xs) : ∀ k, v.ownBlock = some k → k < w.heap.size := by
  intro k hk
  rcases h.2 with ⟨rfl, _⟩ | ⟨g, cap, cur, rfl, _, hg, _⟩
  · simp [Value.ownBlock] at hk
  · simp [Value.ownBlock] at hk; subst hk; exact lt_of_block hg
/-- Two owned rows of different worlds lie apart. -/
theorem own_apart {w : World} {base base' n m : Nat} {E E' : TypeId} {size size' : Nat} {v u : Value} {xs ys : List Value} (h : w.ownsRow base E size v n xs) {w' : World} (h' : w'.ownsRow base' E' size' u m ys) (hb : w.heap.size ≤ base') : v.ownBlock = none ∨ v.ownBlock ≠ u.ownBlock := by
  cases hv : v.ownBlock with
  | none => exact .inl rfl
  | some k =>
    refine .inr fun e => ?_
    have h1 := own_lt h k hv
    have h2 := own_ge h' k e.symm
    omega
/-- A row that reads is read on where only another block was written. -/
theorem Rds.gb {w w' : World} {v : Value} {n size : Nat} {xs : List Value} {r : Option Nat} (hg : w.grownBy w' r) (h : Rds w v n size xs) (hne : ∀ a n' c, v = .slice (some a) n' c → some a.block ≠ r) : Rds w' v n size xs := by
  obtain ⟨h1, h2, a, cap, h3, h4, h5⟩ := h
  refine ⟨h1, h2, a, cap, h3, h4, ?_⟩
  rcases h5 with h5 | ⟨b, off, rfl, hlt, hc⟩
  · exact .inl h5
  · have hb := hg.block b hlt (hne _ _ _ h3)
    exact .inr ⟨b, off, rfl, by have := hg.size; omega, fun i hi => (World.cell?_of_block (a := ⟨b, off + i, none⟩) hb).trans (hc i hi)⟩

theorem Rds.drewN {w : World} {v : Value} {n size : Nat} {xs : List Value} (k : Nat) (h : Rds w v n size xs) : Rds (w.drewN k) v n size xs := h
theorem Rds.take {w : World} {a : Option Addr} {n cap size m : Nat} {xs : List Value} (h : Rds w (.slice a n cap) n size xs) (hm : m ≤ n) : Rds w (.slice a m cap) m size (xs.take (m * size)) := by
  obtain ⟨h1, h2, a', cap', h3, h4, h5⟩ := h
  simp only [Value.slice.injEq] at h3
  obtain ⟨rfl, _, rfl⟩ := h3
  have hmul : m * size ≤ n * size := Nat.mul_le_mul_right _ hm
  refine ⟨by rw [List.length_take]; omega, by omega, _, _, rfl, by omega, ?_⟩
  rcases h5 with h5 | ⟨b, off, rfl, hlt, hc⟩
  · exact .inl (by omega)
  · exact .inr ⟨b, off, rfl, hlt, fun i hi => by rw [hc i (by omega), List.getElem?_take_of_lt hi]⟩
theorem Rds.drop {w : World} {b off n cap size m cap' : Nat} {xs : List Value} {a' : Option Addr} (h : Rds w (.slice (some ⟨b, off, none⟩) n cap) n size xs) (hm : m ≤ n) (hc' : n - m ≤ cap') (ha : m < n → a' = some ⟨b, off + m * size, none⟩) :
    Rds w (.slice a' (n - m) cap') (n - m) size (xs.drop (m * size)) := by
  obtain ⟨h1, h2, a2, cap2, h3, h4, h5⟩ := h
  simp only [Value.slice.injEq] at h3
  obtain ⟨rfl, _, rfl⟩ := h3
  refine ⟨by rw [List.length_drop, h1, Nat.sub_mul], by omega, _, _, rfl, hc', ?_⟩
  by_cases hmn : m < n
  · rw [ha hmn]
    rcases h5 with h5 | ⟨b', off', hb, hlt, hc⟩
    · omega
    · simp only [Option.some.injEq, Addr.mk.injEq] at hb
      obtain ⟨rfl, rfl, _⟩ := hb
      refine .inr ⟨_, _, rfl, hlt, fun i hi => ?_⟩
      rw [Nat.sub_mul] at hi
      rw [Nat.add_assoc, hc _ (by omega), List.getElem?_drop]
  · exact .inl (by omega)
theorem bytes_ext {a b : ByteArray} (h : a.data.toList = b.data.toList) : a = b := by
  obtain ⟨⟨a⟩⟩ := a; obtain ⟨⟨b⟩⟩ := b; simp at h; rw [h]
theorem str_eq {a b : ByteArray} (h : a = b) : (a.toList == b.toList) = true := by rw [h]; simp
theorem str_ne {a b : ByteArray} (h : a ≠ b) : (a.toList == b.toList) = false := by
  rw [Bool.eq_false_iff]
  intro e
  rw [beq_iff_eq, ByteArray.toList_eq, ByteArray.toList_eq] at e
  exact h (bytes_ext e)
theorem Addr.add_spot (b off i : Nat) : (⟨b, off, none⟩ : Addr).add i = ⟨b, off + i, none⟩ := by
  unfold Addr.add; split <;> simp_all

/-! Only block g, of those that were there, may have been written. -/
section
variable {w w1 w2 : World} {r : Option Nat}
theorem gb_trans (h : w.grownBy w1 r) (h' : w1.grownBy w2 r) : w.grownBy w2 r :=
  ⟨h'.os.trans h.os, h'.tape.trans h.tape, h'.output.trans h.output, Nat.le_trans h.size h'.size, fun k hk hr => (h'.block k (Nat.lt_of_lt_of_le hk h.size) hr).trans (h.block k hk hr)⟩
theorem gb_set {g j : Nat} {u : Value} (h : w.grownBy w1 (some g)) : w.grownBy (w1.setCell ⟨g, j, none⟩ u) (some g) :=
  gb_trans h ⟨rfl, rfl, rfl, by simp, fun k _ hr => Below.heap_setCell _ _ _ _ (fun e => hr (by rw [e]))⟩
theorem gb_new {a : Addr} {u : Value} (ha : w.heap.size ≤ a.block) (h : w.grownBy w1 r) : w.grownBy (w1.setCell a u) r :=
  ⟨h.os, h.tape, h.output, by have := h.size; simpa using this, fun k hk hr => (Below.heap_setCell _ _ _ _ (by omega)).trans (h.block k hk hr)⟩
theorem gb_alloc {o : Obj} (h : w.grownBy w1 r) : w.grownBy (w1.alloc o) r :=
  gb_trans h ⟨rfl, rfl, rfl, by simp, fun k hk _ => Below.heap_alloc _ _ _ hk⟩
theorem gb_drewN {n : Nat} (h : w.grownBy w1 r) : w.grownBy (w1.drewN n) r := ⟨h.os, h.tape, h.output, h.size, h.block⟩
theorem gb_drew (h : w.grownBy w1 r) : w.grownBy w1.drew r := ⟨h.os, h.tape, h.output, h.size, h.block⟩
theorem gb_below {B : Nat} (hb : Below B w1 w2) (hB : w.heap.size ≤ B) (h : w.grownBy w1 r) : w.grownBy w2 r :=
  ⟨hb.os.trans h.os, hb.tape.trans h.tape, hb.output.trans h.output, Nat.le_trans h.size hb.size, fun k hk hr => (hb.block k (by omega)).trans (h.block k hk hr)⟩
theorem gb_ofBelow (hb : Below w.heap.size w w1) : w.grownBy w1 r := ⟨hb.os, hb.tape, hb.output, hb.size, fun k hk _ => hb.block k hk⟩
/-- A callee that may have written block g alone, where g lies above the line. -/
theorem below_gb {B g : Nat} (hg : w1.grownBy w2 (some g)) (hB : B ≤ w1.heap.size) (hBg : B ≤ g) (h : Below B w w1) : Below B w w2 :=
  h.grown hg hB (by intro k hk; cases hk; exact hBg)
theorem Blk.gb {b g : Nat} {cs : Array Value} {T : TypeId} (hg : w1.grownBy w2 (some g)) (hbg : b ≠ g) (h : Blk w1 b cs T) : Blk w2 b cs T := by
  have := h.lt; unfold Blk at h ⊢; rw [hg.block b this (by simpa using hbg)]; exact h
theorem Own.gb {b g n cap : Nat} {E : TypeId} {size : Nat} {xs : List Value} (hg : w1.grownBy w2 (some g)) (hbg : b ≠ g) (h : Own w1 b n cap E size xs) : Own w2 b n cap E size xs := by
  obtain ⟨cur, hb', r1, r2, r3, r4⟩ := h.blk
  exact Own.ofBlk h.len (Blk.gb hg hbg hb') r1 r2 r3 r4
end

/-! What is tried over and over, each as the default of a hypothesis. -/
theorem grownA {P : Prop} (h : P := by (repeat' (first | (with_reducible exact Below.refl _ _) | (with_reducible assumption) | (with_reducible refine Below.drew ?_) | (with_reducible refine below_drewN ?_ _) | (with_reducible refine Below.alloc ?_ ?_ _) | (with_reducible refine Below.setCell ?_ ?_ _) | (refine Below.trans ?_ (Below.mono (by assumption) (by first | omega | (with_reducible exact Below.size (by assumption)) | (simp; done) | (simp; omega)))) | (with_reducible exact Nat.le_refl _) | omega | (with_reducible exact Below.size (by assumption)) | (simp only [World.size_alloc, World.size_setCell, World.size_drew]; omega) | (simp; done) | (simp; omega)))) : P := h
theorem keepA {P : Prop} (h : P := by ((repeat' (first | (with_reducible assumption) | (with_reducible apply And.intro) | (with_reducible apply keep_drew) | (with_reducible apply keep_drewN) | (simp [go_sem, World.cell?_alloc_past]; done) | (simp [*]; done) | (with_reducible apply keep_other (by first | (simp; done) | (simp; omega) | omega)) | (with_reducible apply keep_below (by assumption)) | (with_reducible apply keep_alloc))))) : P := h
theorem againA {P : Prop} (h : P := by (try dsimp only); ((repeat' (first | (with_reducible assumption) | (with_reducible apply And.intro) | (with_reducible apply keep_drew) | (with_reducible apply keep_drewN) | (simp [go_sem, World.cell?_alloc_past]; done) | (simp [*]; done) | (with_reducible apply keep_other (by first | (simp; done) | (simp; omega) | omega)) | (with_reducible apply keep_below (by assumption)) | (with_reducible apply keep_alloc))))) : P := h
theorem ownA {P : Prop} (h : P := by (repeat' (first | (with_reducible assumption) | rfl | omega | (with_reducible apply Own.set) | (with_reducible apply Own.other (by first | (simp; done) | (simp; omega) | omega)) | (with_reducible apply Own.alloc) | (with_reducible apply Own.drewN) | (with_reducible apply Own.drew) | (with_reducible apply Own.below) | (simp; omega)))) : P := h
theorem blkA {P : Prop} (h : P := by (repeat' (first | (with_reducible assumption) | rfl | omega | (with_reducible exact Blk.new (by first | rfl | (simp; done) | (simp; omega))) | (with_reducible apply Blk.set) | (with_reducible apply Blk.other (by first | (simp; done) | (simp; omega) | omega)) | (with_reducible apply Blk.alloc) | (with_reducible apply Blk.drewN) | (with_reducible apply Blk.drew) | (with_reducible apply Blk.below) | (simp; omega)))) : P := h
theorem gbA {P : Prop} (h : P := by (repeat' (first | (with_reducible assumption) | (with_reducible exact World.grownBy.refl _ _) | omega | (with_reducible apply gb_set) | (with_reducible apply gb_new (by first | omega | (simp; done) | (simp; omega))) | (with_reducible apply gb_alloc) | (with_reducible apply gb_drewN) | (with_reducible apply gb_drew) | (with_reducible apply gb_below (by assumption)) | (simp; omega)))) : P := h
theorem zp1 {α : Type} (l : List α) (i : Nat) (a : α) : l.toArray.setIfInBounds i a = (l.set i a).toArray := by simp
theorem zp2 {α : Type} (x y : α) (l : List α) : (x :: l).set 0 y = y :: l := rfl
theorem zp3 {α : Type} (x y : α) (l : List α) (n : Nat) : (x :: l).set (n + 1) y = x :: l.set n y := rfl

end Go.Proofs.Ytedadhoneebfnaa

/- Plain facts on lists of calls: their cells, and valid calls step by step. No program in sight. -/
namespace Go.Proofs.Ytedadhoneebfnaa
open Go.RowKit

/-- The cells of calls. -/
def ccells (cs : List Cl) : List Value := cs.flatMap fun c => [.int .i64 c.1, .int .i64 c.2.1, .int .i64 c.2.2]
theorem ccells_len (cs : List Cl) : (ccells cs).length = cs.length * 3 := by
 induction cs with
 | nil => rfl
 | cons r rs ih => simp only [ccells, List.flatMap_cons, List.length_append] at ih ⊢; simp [ih]; omega
theorem ccells_at (cs : List Cl) : ∀ (k : Nat) (c : Cl), cs[k]? = some c → (ccells cs)[k * 3]? = some (.int .i64 c.1) ∧ (ccells cs)[k * 3 + 1]? = some (.int .i64 c.2.1) ∧ (ccells cs)[k * 3 + 2]? = some (.int .i64 c.2.2) := by
 induction cs with
 | nil => intro k r h; simp at h
 | cons x rs ih =>
  intro k r h
  cases k with
  | zero => simp at h; subst h; simp [ccells]
  | succ k =>
   have h' : rs[k]? = some r := by simpa using h
   have := ih k r h'
   rw [show (k + 1) * 3 = k * 3 + 3 by omega]
   simpa [ccells, List.flatMap_cons] using this
theorem ccells_app (xs ys : List Cl) : ccells (xs ++ ys) = ccells xs ++ ccells ys := by simp [ccells, List.flatMap_append]
theorem ccells_one (cs : List Cl) : ∀ u ∈ ccells cs, u.oneCell' = true := by
 intro u hu
 obtain ⟨c, _, hc⟩ := List.mem_flatMap.1 hu
 simp at hc
 rcases hc with rfl | rfl | rfl <;> rfl

def lnB (L x : Int) : Bool := decide (0 ≤ x) && decide (x < L)
def ClAt (L M : Int) (c : Cl) : Prop := (0 ≤ c.1 ∧ c.1 < L) ∧ (0 ≤ c.2.1 ∧ c.2.1 < L) ∧ 0 ≤ c.2.2 ∧ c.2.2 < M
def Apart (E : Int) (d c : Cl) : Prop := d.1 ≠ c.1 ∧ d.2.1 ≠ c.2.1 ∧ ∀ s, swC E s d = swC E s c → d.2.2 ≠ c.2.2
theorem apart_iff (E : Int) (d c : Cl) : Apart E d c ↔ d.1 ≠ c.1 ∧ d.2.1 ≠ c.2.1 ∧ ¬ (d.2.2 = c.2.2 ∧ (d.1 / E = c.1 / E ∨ d.2.1 / E = c.2.1 / E)) := by
 unfold Apart
 constructor
 ·
  rintro ⟨h1, h2, h3⟩
  refine ⟨h1, h2, fun ⟨e, h⟩ => ?_⟩
  rcases h with h | h
  ·
   exact h3 false h e
  ·
   exact h3 true h e
 ·
  rintro ⟨h1, h2, h3⟩
  refine ⟨h1, h2, fun s hs e => h3 ⟨e, ?_⟩⟩
  cases s
  ·
   exact .inl hs
  ·
   exact .inr hs
/-- The first k calls are in order. -/
def ClTo (L E M : Int) (cs : List Cl) (k : Nat) : Prop := (∀ i c, i < k → cs[i]? = some c → ClAt L M c) ∧ ∀ i j d c, i < j → j < k → cs[i]? = some d → cs[j]? = some c → Apart E d c
theorem ClTo.zero (L E M : Int) (cs : List Cl) : ClTo L E M cs 0 := ⟨fun i c h => absurd h (by omega), fun i j d c _ h => absurd h (by omega)⟩
theorem ClTo.step {L E M : Int} {cs : List Cl} {k : Nat} {c : Cl} (h : ClTo L E M cs k) (hc : cs[k]? = some c) (h1 : ClAt L M c) (h2 : ∀ i d, i < k → cs[i]? = some d → Apart E d c) : ClTo L E M cs (k + 1) := by
 refine ⟨fun i e hi he => ?_, fun i j d e hij hj hd he => ?_⟩
 ·
  by_cases hik : i = k
  ·
   subst hik; rw [hc] at he; cases he; exact h1
  ·
   exact h.1 i e (by omega) he
 ·
  by_cases hjk : j = k
  ·
   subst hjk; rw [hc] at he; cases he; exact h2 i d hij hd
  ·
   exact h.2 i j d e hij (by omega) hd he
theorem ClTo.all {O E M : Int} {cs : List Cl} (hs : ShapeOk O E M) (h : ClTo (O * E) E M cs cs.length) : CallsOk O E M cs :=
 ⟨hs, fun k c hc => h.1 k c (List.getElem?_eq_some_iff.1 hc).1 hc, fun j k d c hjk hd hc => h.2 j k d c hjk (List.getElem?_eq_some_iff.1 hc).1 hd hc⟩
def shapeB (O E M : Int) : Bool := ((decide (1 ≤ O) && decide (O ≤ 4)) && (decide (1 ≤ E) && decide (E ≤ 3))) && (decide (1 ≤ M) && decide (M ≤ 5))
theorem shapeB_iff (O E M : Int) : shapeB O E M = true ↔ ShapeOk O E M := by
 simp only [shapeB, Bool.and_eq_true, decide_eq_true_eq]
 exact ⟨fun h => ⟨h.1.1, h.1.2, h.2⟩, fun h => ⟨⟨h.o, h.e⟩, h.m⟩⟩
open Classical in
noncomputable def callsB (O E M : Int) (cs : List Cl) : Bool := decide (CallsOk O E M cs)
theorem callsB_iff (O E M : Int) (cs : List Cl) : callsB O E M cs = true ↔ CallsOk O E M cs := by simp [callsB]
theorem callsB_shape {O E M : Int} (cs : List Cl) (h : shapeB O E M = false) : callsB O E M cs = false := by
 cases hc : callsB O E M cs with
 | false => rfl
 | true => have := (shapeB_iff O E M).2 ((callsB_iff _ _ _ _).1 hc).sh; rw [h] at this; cases this
theorem callsB_at {O E M : Int} {cs : List Cl} {k : Nat} {c : Cl} (hc : cs[k]? = some c) (h : ¬ ClAt (O * E) M c) : callsB O E M cs = false := by
 cases hb : callsB O E M cs with
 | false => rfl
 | true => exact absurd (((callsB_iff _ _ _ _).1 hb).at' k c hc) h
theorem callsB_apart {O E M : Int} {cs : List Cl} {j k : Nat} {d c : Cl} (hjk : j < k) (hd : cs[j]? = some d) (hc : cs[k]? = some c) (h : ¬ Apart E d c) : callsB O E M cs = false := by
 cases hb : callsB O E M cs with
 | false => rfl
 | true => exact absurd (((callsB_iff _ _ _ _).1 hb).apart j k d c hjk hd hc) h

end Go.Proofs.Ytedadhoneebfnaa

/- Slices of strings: their cells. -/
namespace Go.Proofs.Ytedadhoneebfnaa
open Go.RowKit

def strs (ps : List ByteArray) : List Value := ps.map Value.string
theorem strs_len (ps : List ByteArray) : (strs ps).length = ps.length := by simp [strs]
theorem strs_at (ps : List ByteArray) (j : Nat) (s : ByteArray) (h : ps[j]? = some s) : (strs ps)[j]? = some (.string s) := by simp [strs, h]
def StLen (ps : List ByteArray) : Prop := ∀ (k : Nat) (s : ByteArray), ps[k]? = some s → s.size ≤ maxLen

end Go.Proofs.Ytedadhoneebfnaa

/- Lists of deeds: their cells. -/
namespace Go.Proofs.Ytedadhoneebfnaa
open Go.RowKit

/-- A deed: kind, line, number. -/
abbrev Ded := Int × Int × ByteArray
def dcells (ds : List Ded) : List Value := ds.flatMap fun d => [.int .i64 d.1, .int .i64 d.2.1, .string d.2.2]
theorem dcells_len (ds : List Ded) : (dcells ds).length = ds.length * 3 := by
 induction ds with
 | nil => rfl
 | cons r rs ih => simp only [dcells, List.flatMap_cons, List.length_append] at ih ⊢; simp [ih]; omega
theorem dcells_at (ds : List Ded) : ∀ (k : Nat) (d : Ded), ds[k]? = some d → (dcells ds)[k * 3]? = some (.int .i64 d.1) ∧ (dcells ds)[k * 3 + 1]? = some (.int .i64 d.2.1) ∧ (dcells ds)[k * 3 + 2]? = some (.string d.2.2) := by
 induction ds with
 | nil => intro k r h; simp at h
 | cons x rs ih =>
  intro k r h
  cases k with
  | zero => simp at h; subst h; simp [dcells]
  | succ k =>
   have h' : rs[k]? = some r := by simpa using h
   have := ih k r h'
   rw [show (k + 1) * 3 = k * 3 + 3 by omega]
   simpa [dcells, List.flatMap_cons] using this
theorem dcells_app (xs ys : List Ded) : dcells (xs ++ ys) = dcells xs ++ dcells ys := by simp [dcells, List.flatMap_append]
theorem dcells_one (ds : List Ded) : ∀ u ∈ dcells ds, u.oneCell' = true := by
 intro u hu
 obtain ⟨c, _, hc⟩ := List.mem_flatMap.1 hu
 simp at hc
 rcases hc with rfl | rfl | rfl <;> rfl
theorem dcells_set (ds : List Ded) : ∀ (k : Nat) (c : Ded), k < ds.length → (((dcells ds).set (k * 3) (.int .i64 c.1)).set (k * 3 + 1) (.int .i64 c.2.1)).set (k * 3 + 2) (.string c.2.2) = dcells (ds.set k c) := by
 induction ds with
 | nil => intro k r h; simp at h
 | cons x rs ih =>
  intro k r h
  cases k with
  | zero => simp [dcells]
  | succ k =>
   rw [show (k + 1) * 3 = k * 3 + 3 by omega]
   have := ih k r (by simpa using h)
   simpa [dcells, List.flatMap_cons] using this
theorem dcells_zero (n : Nat) : (madeCells (Value.agg #[.int .i64 0, .int .i64 0, .string ByteArray.empty]).cells (n * 3)).toList = dcells (List.replicate n (0, 0, ByteArray.empty)) := by
 apply List.ext_getElem?
 intro i
 by_cases hi : i < n * 3
 ·
  obtain ⟨k, hk⟩ : ∃ k, i / 3 = k := ⟨_, rfl⟩
  have hkn : k < n := by omega
  have hr : (List.replicate n ((0, 0, ByteArray.empty) : Ded))[k]? = some (0, 0, ByteArray.empty) := by simp [hkn]
  obtain ⟨g1, g2, g3⟩ := dcells_at _ k _ hr
  have h3 : i % 3 = 0 ∨ i % 3 = 1 ∨ i % 3 = 2 := by omega
  rcases h3 with h | h | h
  ·
   obtain rfl : i = k * 3 := by omega
   rw [g1]; simp [madeCells, Value.cells, hi]
  ·
   obtain rfl : i = k * 3 + 1 := by omega
   rw [g2]; simp [madeCells, Value.cells, hi, Nat.mul_add_mod]
  ·
   obtain rfl : i = k * 3 + 2 := by omega
   rw [g3]; simp [madeCells, Value.cells, hi, Nat.mul_add_mod]
 ·
  rw [List.getElem?_eq_none (by simp [madeCells]; omega), List.getElem?_eq_none (by rw [dcells_len]; simp; omega)]
def DdLen (ds : List Ded) : Prop := ∀ (k : Nat) (d : Ded), ds[k]? = some d → d.2.2.size ≤ maxLen

end Go.Proofs.Ytedadhoneebfnaa

/- An append under a guard, at a step of a region that draws its order. -/
namespace Go.Proofs.Ytedadhoneebfnaa
open Go.RowKit

variable {P : Program} {w : World}
theorem step_append_held {ops : Array Oper} {o : Oper} {a : Act} {K : Act → World → Prop} {Q : Exit → Act → World → Prop} {E : Prop} (hw : Region.wanted o (yielded ops a.tmps) = true) (s x : Operand) (t : TypeId)
  (ho : o.op = .call { callee := .builtin .append, args := #[s, x], argTypes := #[t, t] })
  (base : Nat) (e : TypeId) (i : TypeInfo) (z : Value) (size bytes : Nat) (ht : P.underlying t = some (.slice e)) (hi : P.info? e = some i) (hz : i.zero = some z)
  (hsize : i.size = size) (hby : i.bytes = bytes) (hzs : z.cells.size = size) (hsz : 0 < size)
  (v : Value) (n : Nat) (xs : List Value) (hs : a.eval s = v) (hown : w.ownsRow base e size v n xs)
  (ad : Addr) (m c : Nat) (news : List Value) (hx : a.eval x = .slice (some ad) m c) (hl : news.length = m * size) (hnews : ∀ j u, news[j]? = some u → w.cell? (ad.add j) = some u) (h1 : ∀ u ∈ news, u.oneCell' = true)
  (hm : 0 < m) (h63 : n + m ≤ maxLen) (hbytes : (n + m) * bytes ≤ 140737488355328) (hbase : base ≤ w.heap.size) (H : Nat) (hH : w.heap.size = H)
  (h : ∀ g cap w', w'.ownsRow base e size (.slice (some ⟨g, 0, none⟩) (n + m) cap) (n + m) (xs ++ news) → w.grownBy w' v.ownBlock → (v.ownBlock = some g ∨ g = H) → g < w'.heap.size → K (a.put o.dst (.slice (some ⟨g, 0, none⟩) (n + m) cap)) w') :
  if Region.wanted o (yielded ops a.tmps) = true then Oper.wp P o a w K Q else E := by
 rw [if_pos hw]
 exact wp_append_lies w s x t ho base e i z size bytes ht hi hz hsize hby hzs hsz v n xs hs hown ad m c news hx hl hnews h1 hm h63 hbytes hbase H hH h

theorem step_append_free {ops : Array Oper} {o : Oper} {a : Act} {K : Act → World → Prop} {Q : Exit → Act → World → Prop} {E : Prop} (hw : Region.wanted o (yielded ops a.tmps) = true) (s x : Operand) (t : TypeId)
  (ho : o.op = .call { callee := .builtin .append, args := #[s, x], argTypes := #[t, t] })
  (base : Nat) (e : TypeId) (i : TypeInfo) (z : Value) (size bytes : Nat) (ht : P.underlying t = some (.slice e)) (hi : P.info? e = some i) (hz : i.zero = some z)
  (hsize : i.size = size) (hby : i.bytes = bytes) (hzs : z.cells.size = size) (hsz : 0 < size)
  (g0 n c0 : Nat) (xs : List Value) (hs : a.eval s = .slice (some ⟨g0, 0, none⟩) n c0) (hown : w.ownsRow base e size (.slice (some ⟨g0, 0, none⟩) n c0) n xs)
  (ad : Addr) (m c : Nat) (news : List Value) (hx : a.eval x = .slice (some ad) m c) (hl : news.length = m * size) (hnews : ∀ j u, news[j]? = some u → w.cell? (ad.add j) = some u) (h1 : ∀ u ∈ news, u.oneCell' = true)
  (h63 : n + m ≤ maxLen) (hbytes : (n + m) * bytes ≤ 140737488355328) (hbase : base ≤ w.heap.size)
  (h : ∀ g cap w', w'.ownsRow base e size (.slice (some ⟨g, 0, none⟩) (n + m) cap) (n + m) (xs ++ news) → w.grownBy w' (some g0) → K (a.put o.dst (.slice (some ⟨g, 0, none⟩) (n + m) cap)) w') :
  if Region.wanted o (yielded ops a.tmps) = true then Oper.wp P o a w K Q else E := by
 rw [if_pos hw]
 refine wp_append_own w s x t ho base e i z size bytes ht hi hz hsize hby hzs hsz _ n xs hs hown ad m c news hx hl hnews h1 h63 hbytes hbase fun v' w' h2 h3 h4 => ?_
 have hnn : v' ≠ .slice none 0 0 := fun e => by have := (h4.1 e).1; cases this
 rcases h2.2 with ⟨h5, _⟩ | ⟨g, cap, cur, rfl, hb, r⟩
 ·
  exact absurd h5 hnn
 ·
  exact h g cap w' h2 h3
/-- A cell of another block than the one that has been written. -/
theorem keep_gb {w w' : World} {a : Addr} {u : Value} {r : Option Nat} (hg : w.grownBy w' r) (hne : some a.block ≠ r) (h : w.cell? a = some u) : w'.cell? a = some u := by
 have hlt : a.block < w.heap.size := by
  unfold World.cell? at h
  split at h
  ·
   rename_i h'; exact lt_of_block h'
  ·
   cases h
 exact (World.cell?_of_block (hg.block _ hlt hne)).trans h
theorem keep_new {w : World} {o : Nat} {cs : Array Value} {T : TypeId} {b : Nat} {u : Value} (hb : b = w.heap.size) (h : cs[o]? = some u) : (w.alloc (.cells cs T)).cell? ⟨b, o, none⟩ = some u := by
 rw [(Blk.new (w := w) (cs := cs) (T := T) hb).at o]; exact h
end Go.Proofs.Ytedadhoneebfnaa

/- Exchanges in memory: what is owned, and how it is carried on. -/
namespace Go.Proofs.Ytedadhoneebfnaa
open Go.RowKit

theorem Blk.five {w : World} {b : Nat} {x0 x1 x2 x3 x4 : Value} {T : TypeId} (h : Blk w b #[x0, x1, x2, x3, x4] T) : w.cell? ⟨b, 0, none⟩ = some x0 ∧ w.cell? ⟨b, 1, none⟩ = some x1 ∧ w.cell? ⟨b, 2, none⟩ = some x2 ∧ w.cell? ⟨b, 3, none⟩ = some x3 ∧ w.cell? ⟨b, 4, none⟩ = some x4 ∧ w.frozen? ⟨b, 0, none⟩ = false ∧ w.frozen? ⟨b, 1, none⟩ = false ∧ w.frozen? ⟨b, 2, none⟩ = false ∧ w.frozen? ⟨b, 3, none⟩ = false ∧ w.frozen? ⟨b, 4, none⟩ = false ∧ b < w.heap.size :=
 ⟨h.at 0, h.at 1, h.at 2, h.at 3, h.at 4, h.free 0, h.free 1, h.free 2, h.free 3, h.free 4, h.lt⟩
/-- The plan and the calls of an exchange are owned, apart from each other. -/
structure ExOwn (w : World) (base : Nat) (vp vc : Value) (ps : List ByteArray) (cs : List Cl) : Prop where
 plan : w.ownsRow base 9 1 vp ps.length (strs ps)
 calls : w.ownsRow base 57 3 vc cs.length (ccells cs)
 apart : vp.ownBlock = none ∨ vp.ownBlock ≠ vc.ownBlock
/-- The plan and the calls read. -/
structure ExRd (w : World) (vp vc : Value) (ps : List ByteArray) (cs : List Cl) : Prop where
 plan : Rds w vp ps.length 1 (strs ps)
 calls : Rds w vc cs.length 3 (ccells cs)
section
variable {w w' : World} {base : Nat} {vp vc : Value} {ps : List ByteArray} {cs : List Cl}
theorem ExOwn.rd (h : ExOwn w base vp vc ps cs) : ExRd w vp vc ps cs := ⟨Rds.ofOwns h.plan, Rds.ofOwns h.calls⟩
theorem ExOwn.below (hb : Below w.heap.size w w') (h : ExOwn w base vp vc ps cs) : ExOwn w' base vp vc ps cs := ⟨owns_below hb h.plan, owns_below hb h.calls, h.apart⟩
theorem ExOwn.lower {base' : Nat} (hb : base' ≤ base) (h : ExOwn w base vp vc ps cs) : ExOwn w base' vp vc ps cs := ⟨owns_base hb h.plan, owns_base hb h.calls, h.apart⟩
theorem ExRd.below (hb : Below w.heap.size w w') (h : ExRd w vp vc ps cs) : ExRd w' vp vc ps cs := ⟨h.plan.below hb, h.calls.below hb⟩
theorem ExRd.drewN (k : Nat) (h : ExRd w vp vc ps cs) : ExRd (w.drewN k) vp vc ps cs := ⟨h.plan.drewN k, h.calls.drewN k⟩
theorem ExOwn.drewN (k : Nat) (h : ExOwn w base vp vc ps cs) : ExOwn (w.drewN k) base vp vc ps cs := ⟨h.plan, h.calls, h.apart⟩
theorem ExOwn.nothing (w : World) (base : Nat) : ExOwn w base (.slice none 0 0) (.slice none 0 0) [] [] := ⟨World.ownsRow_nil _ _ _ _, World.ownsRow_nil _ _ _ _, .inl rfl⟩
/-- One block alone was written, which is none of these. -/
theorem ExOwn.kept {r : Option Nat} (hg : w.grownBy w' r) (h1 : vp.ownBlock = Option.none ∨ vp.ownBlock ≠ r) (h2 : vc.ownBlock = Option.none ∨ vc.ownBlock ≠ r) (h : ExOwn w base vp vc ps cs) : ExOwn w' base vp vc ps cs :=
 ⟨h.plan.kept hg h1, h.calls.kept hg h2, h.apart⟩
theorem far_old {w0 : World} {b0 n : Nat} {E : TypeId} {size : Nat} {v : Value} {xs : List Value} (h : w0.ownsRow b0 E size v n xs) {B : Nat} (hB : w0.heap.size ≤ B) {u : Value} (hu : ∀ k, u.ownBlock = some k → B ≤ k) : v.ownBlock = Option.none ∨ v.ownBlock ≠ u.ownBlock := by
 cases hv : v.ownBlock with
 | none => exact .inl rfl
 | some k => exact .inr fun e => by have h1 := own_lt h k hv; have h2 := hu k e.symm; omega
theorem far_new {w0 : World} {b0 n : Nat} {E : TypeId} {size : Nat} {v : Value} {xs : List Value} (h : w0.ownsRow b0 E size v n xs) {B : Nat} (hB : B ≤ b0) {u : Value} (hu : ∀ k, u.ownBlock = some k → k < B) : v.ownBlock = Option.none ∨ v.ownBlock ≠ u.ownBlock := by
 cases hv : v.ownBlock with
 | none => exact .inl rfl
 | some k => exact .inr fun e => by have h1 := own_ge h k hv; have h2 := hu k e.symm; omega
/-- Two blocks alone may have been written. -/
def Gb2 (w w' : World) (r1 r2 : Option Nat) : Prop := ∃ wm, w.grownBy wm r1 ∧ wm.grownBy w' r2
theorem Gb2.below {B : Nat} {w0 : World} {r1 r2 : Option Nat} (h : Gb2 w w' r1 r2) (hB : B ≤ w.heap.size) (h1 : ∀ k, r1 = some k → B ≤ k) (h2 : ∀ k, r2 = some k → B ≤ k) (hb : Below B w0 w) : Below B w0 w' := by
 obtain ⟨wm, g1, g2⟩ := h
 exact (hb.grown g1 hB h1).grown g2 (Nat.le_trans hB g1.size) h2
theorem Gb2.size {r1 r2 : Option Nat} (h : Gb2 w w' r1 r2) : w.heap.size ≤ w'.heap.size := by
 obtain ⟨wm, g1, g2⟩ := h
 exact Nat.le_trans g1.size g2.size
theorem ExOwn.kept2 {r1 r2 : Option Nat} (hg : Gb2 w w' r1 r2) (a1 : vp.ownBlock = Option.none ∨ vp.ownBlock ≠ r1) (a2 : vc.ownBlock = Option.none ∨ vc.ownBlock ≠ r1) (a3 : vp.ownBlock = Option.none ∨ vp.ownBlock ≠ r2) (a4 : vc.ownBlock = Option.none ∨ vc.ownBlock ≠ r2) (h : ExOwn w base vp vc ps cs) : ExOwn w' base vp vc ps cs := by
 obtain ⟨wm, g1, g2⟩ := hg
 exact (h.kept g1 a1 a2).kept g2 a3 a4
theorem owns_kept2 {r1 r2 : Option Nat} (hg : Gb2 w w' r1 r2) {n : Nat} {E : TypeId} {size : Nat} {v : Value} {xs : List Value} (a1 : v.ownBlock = Option.none ∨ v.ownBlock ≠ r1) (a3 : v.ownBlock = Option.none ∨ v.ownBlock ≠ r2) (h : w.ownsRow base E size v n xs) : w'.ownsRow base E size v n xs := by
 obtain ⟨wm, g1, g2⟩ := hg
 exact (h.kept g1 a1).kept g2 a3
end
/-- An exchange that has been made anew, as a value. -/
def ExAt (w' : World) (base : Nat) (v : Value) (O E M : Int) (ps : List ByteArray) (cs : List Cl) : Prop :=
 ∃ vp vc, v = .agg #[.int .i64 O, .int .i64 E, .int .i64 M, vp, vc] ∧ ExOwn w' base vp vc ps cs
/-- Slices of strings, each as long as there may be. -/
theorem StLen.set {ps : List ByteArray} (h : StLen ps) (k : Nat) {s : ByteArray} (hs : s.size ≤ maxLen) : StLen (ps.set k s) := by
 intro j t ht
 rw [List.getElem?_set] at ht
 split at ht
 ·
  split at ht
  ·
   cases ht; exact hs
  ·
   cases ht
 ·
  exact h j t ht

end Go.Proofs.Ytedadhoneebfnaa

/- Plain mathematics for the chapter on numbering plans: lengths and shares. No program in sight. -/
namespace Go.Proofs.Ytedadhoneebfnaa
open Go.RowKit

def lenB (z : Int) : Bool := decide (1 ≤ z) && decide (z ≤ 3)
theorem lenB_iff (z : Int) : lenB z = true ↔ 1 ≤ z ∧ z ≤ 3 := by simp [lenB]
/-- Valid lengths. -/
def lensB (zs : List Int) : Bool := decide (zs.length ≤ 10) && zs.all lenB
theorem all_step {α : Type} (p : α → Bool) (zs : List α) (k : Nat) (z : α) (h : zs[k]? = some z) : (zs.take (k + 1)).all p = ((zs.take k).all p && p z) := by
 simp [List.take_add_one, h]
theorem all_no {α : Type} (p : α → Bool) (zs : List α) (k : Nat) (z : α) (h : zs[k]? = some z) (hz : p z = false) : zs.all p = false := by
 rw [List.all_eq_false]
 exact ⟨z, List.mem_of_getElem? h, by simpa using hz⟩
theorem lensB_at {zs : List Int} (h : lensB zs = true) (k : Nat) (z : Int) (hz : zs[k]? = some z) : 1 ≤ z ∧ z ≤ 3 := by
 simp only [lensB, Bool.and_eq_true, List.all_eq_true] at h
 exact (lenB_iff z).1 (h.2 z (List.mem_of_getElem? hz))
theorem lensB_len {zs : List Int} (h : lensB zs = true) : zs.length ≤ 10 := by
 simp only [lensB, Bool.and_eq_true, decide_eq_true_eq] at h
 exact h.1

/-- How many numbers of three digits begin with one of this length. -/
def shareN (z : Int) : Nat := 4 ^ (3 - z).toNat
def shareTo (zs : List Int) (k : Nat) : Nat := ((zs.take k).map shareN).sum
def shareR (zs : List Int) : Int := if lensB zs then (shareTo zs zs.length : Nat) else -1
theorem shareN_small (z : Int) (h : 0 ≤ z) : 1 ≤ shareN z ∧ shareN z ≤ 64 := by
 unfold shareN
 have h1 : (3 - z).toNat ≤ 3 := by omega
 have h2 := Nat.pow_le_pow_right (n := 4) (by omega) h1
 exact ⟨Nat.pow_pos (by omega), h2⟩
theorem shareTo_step (zs : List Int) (k : Nat) (z : Int) (h : zs[k]? = some z) : shareTo zs (k + 1) = shareTo zs k + shareN z := by
 simp [shareTo, List.take_add_one, h]
theorem shareTo_small {zs : List Int} (h : lensB zs = true) : ∀ k, k ≤ zs.length → shareTo zs k ≤ 64 * k := by
 intro k
 induction k with
 | zero => intro _; simp [shareTo]
 | succ k ih =>
  intro hk
  obtain ⟨z, hz⟩ : ∃ z, zs[k]? = some z := ⟨_, List.getElem?_eq_getElem (by omega)⟩
  rw [shareTo_step zs k z hz]
  have h1 := ih (by omega)
  have h2 := (shareN_small z (by have := lensB_at h k z hz; omega)).2
  omega

theorem sum_set (xs : List Nat) : ∀ (k y z : Nat), xs[k]? = some z → (xs.set k y).sum + z = xs.sum + y := by
 induction xs with
 | nil => intro k y z h; simp at h
 | cons x xs ih =>
  intro k y z h
  cases k with
  | zero => simp at h; simp [h]; omega
  | succ k => simp at h; have := ih k y z h; simp; omega
theorem share_all (zs : List Int) : shareTo zs zs.length = (zs.map shareN).sum := by simp [shareTo]
theorem share_less (zs : List Int) (k : Nat) (z : Int) (hz : zs[k]? = some z) (h : lensB zs = true) (h2 : 2 ≤ z) : shareR zs < shareR (zs.set k (z - 1)) := by
 have hz3 := (lensB_at h k z hz).2
 have hv : lensB (zs.set k (z - 1)) = true := by
  have hk : k < zs.length := by
   rcases Nat.lt_or_ge k zs.length with h' | h'
   ·
    exact h'
   ·
    rw [List.getElem?_eq_none h'] at hz; cases hz
  simp only [lensB, Bool.and_eq_true, List.all_eq_true, decide_eq_true_eq, List.length_set] at h ⊢
  refine ⟨h.1, fun y hy => ?_⟩
  rcases List.mem_or_eq_of_mem_set hy with hy | rfl
  ·
   exact h.2 y hy
  ·
   exact (lenB_iff _).2 ⟨by omega, by omega⟩
 have e1 : (zs.set k (z - 1)).map shareN = (zs.map shareN).set k (shareN (z - 1)) := by rw [List.map_set]
 have e2 : (zs.map shareN)[k]? = some (shareN z) := by simp [hz]
 have e3 := sum_set (zs.map shareN) k (shareN (z - 1)) (shareN z) e2
 have e4 : shareN (z - 1) = 4 * shareN z := by
  unfold shareN
  rw [show (3 - (z - 1)).toNat = (3 - z).toNat + 1 from by omega, Nat.pow_succ]; omega
 have e5 := (shareN_small z (by omega)).1
 simp only [shareR, h, hv, if_true, share_all, e1]
 omega
theorem lens_take {zs : List Int} (m : Nat) (h : lensB zs = true) : lensB (zs.take m) = true := by
 simp only [lensB, Bool.and_eq_true, List.all_eq_true, decide_eq_true_eq] at h ⊢
 exact ⟨by rw [List.length_take]; omega, fun z hz => h.2 z (List.mem_of_mem_take hz)⟩
theorem lens_drop {zs : List Int} (m : Nat) (h : lensB zs = true) : lensB (zs.drop m) = true := by
 simp only [lensB, Bool.and_eq_true, List.all_eq_true, decide_eq_true_eq] at h ⊢
 exact ⟨by rw [List.length_drop]; omega, fun z hz => h.2 z (List.mem_of_mem_drop hz)⟩
theorem share_split (zs : List Int) (m : Nat) (h : lensB zs = true) : shareR (zs.take m) + shareR (zs.drop m) = shareR zs := by
 simp only [shareR, h, lens_take m h, lens_drop m h, if_true, share_all]
 conv => rhs; rw [← List.take_append_drop m zs, List.map_append, List.sum_append]
 omega
theorem shareR_bd (zs : List Int) : -1 ≤ shareR zs ∧ shareR zs ≤ 640 := by
 unfold shareR
 split
 ·
  rename_i h
  have h1 := shareTo_small h zs.length (Nat.le_refl _)
  have h2 := lensB_len h
  omega
 ·
  omega
theorem shareR_no {zs : List Int} (h : lensB zs = false) : shareR zs = -1 := by simp [shareR, h]
theorem shareR_yes {zs : List Int} (h : lensB zs = true) : 0 ≤ shareR zs := by simp [shareR, h]

end Go.Proofs.Ytedadhoneebfnaa

/- l1In: whether a number lies between two bounds. -/
namespace Go.Proofs.Ytedadhoneebfnaa
open Go.RowKit

set_option maxHeartbeats 400000 in
theorem sIn_any (x lo hi : Int) (w : World) :
  Calls Try.prog 96 #[.int .i64 x, .int .i64 lo, .int .i64 hi] w fun e w' => e = .returned (.bool (decide (lo ≤ x) && decide (x ≤ hi))) ∧ w = w' := by
 go_enter Try.func96, Try.ntmps96
 go_wp2
 all_goals
  go_returns
  refine ⟨?_, rfl⟩
  congr 2
  first | (simp; done) | (simp; omega) | (simp_all; done) | (simp_all; omega)

end Go.Proofs.Ytedadhoneebfnaa

/- Contracts of DigitsOk (program and reference). -/
namespace Go.Proofs.Ytedadhoneebfnaa
open Go.RowKit

def digB (c : UInt8) : Bool := decide (48 ≤ (c.toNat : Int)) && decide ((c.toNat : Int) ≤ 51)
def digsB (s : ByteArray) : Bool := s.data.toList.all digB
theorem bytes_at (s : ByteArray) (k : Nat) (h : k < s.size) : s.data.toList[k]? = some s[k] := by
 rw [List.getElem?_eq_getElem (by simpa using h)]; rfl

set_option maxHeartbeats 400000 in
theorem iDigitsOk_any (s : ByteArray) (w : World) (hs : s.size ≤ maxLen) :
  Calls Try.prog 86 #[.string s] w fun e w' => e = .returned (.bool (digsB s)) ∧ w = w' := by
 unfold maxLen at hs
 go_enter Try.func86, Try.ntmps86
 go_wp2_with fail
 go_loop [6] (fun i => ∃ k : Nat, k ≤ s.size ∧ i = .int .i64 k ∧ Hid ((s.data.toList.take k).all digB = true)) (fun i => s.size - (intOf i).toNat)
 case atStart => exact ⟨0, by omega, rfl, rfl⟩
 case round =>
  obtain ⟨k, hk, rfl, hall⟩ := hrel
  by_cases hkn : k < s.size
  ·
   have HZ := Lib.hid (bytes_at s k hkn)
   by_cases hb : 48 ≤ (s[k].toNat : Int) ∧ (s[k].toNat : Int) ≤ 51
   ·
    obtain ⟨q1, q2⟩ := hb
    have hd : digB s[k] = true := by simp only [digB, q1, q2, decide_true, Bool.and_self]
    have HD := Lib.hid hd
    have q3 : (s[k].toNat : Int) < 52 := by omega
    clear hd
    go_wp2_with fail
    go_round
    case rel => exact ⟨k + 1, by omega, by go_num, by unfold Hid; rw [all_step digB _ k _ HZ.out, hall.out, HD.out]; rfl⟩
    case measure => simp [intOf]; omega
   ·
    have hno : digB s[k] = false := by simp only [digB, Bool.and_eq_false_iff, decide_eq_false_iff_not]; omega
    have HF := Lib.hid (all_no digB _ k _ HZ.out hno)
    clear hno
    by_cases q1 : 48 ≤ (s[k].toNat : Int)
    ·
     have q2 : 52 ≤ (s[k].toNat : Int) := by omega
     clear hb
     go_wp2
     go_returns
     exact ⟨by rw [digsB, HF.out]; rfl, rfl⟩
    ·
     clear hb
     go_wp2
     go_returns
     exact ⟨by rw [digsB, HF.out]; rfl, rfl⟩
  ·
   obtain rfl : k = s.size := by omega
   have h1 := hall.out
   rw [List.take_of_length_le (by simp)] at h1
   have H1 := Lib.hid h1
   clear h1 hall
   go_wp2
   go_returns
   exact ⟨by rw [digsB, H1.out]; rfl, rfl⟩

set_option maxHeartbeats 400000 in
theorem sDigitsOk_any (s : ByteArray) (w : World) (hs : s.size ≤ maxLen) :
  Calls Try.prog 101 #[.string s] w fun e w' => e = .returned (.bool (digsB s)) ∧ w = w' := by
 unfold maxLen at hs
 go_enter Try.func101, Try.ntmps101
 go_wp2_with fail
 go_loop [3] (fun i => ∃ k : Nat, k ≤ s.size ∧ i = .int .i64 k ∧ Hid ((s.data.toList.take k).all digB = true)) (fun i => s.size - (intOf i).toNat)
 case atStart => exact ⟨0, by omega, rfl, rfl⟩
 case round =>
  obtain ⟨k, hk, rfl, hall⟩ := hrel
  by_cases hkn : k < s.size
  ·
   have HZ := Lib.hid (bytes_at s k hkn)
   have hc := s[k].toNat_lt
   have hx : (decide (0 ≤ ((s[k].toNat : Int) - 48) % 256) && decide (((s[k].toNat : Int) - 48) % 256 ≤ 3)) = digB s[k] := by
    unfold digB
    rw [Bool.eq_iff_iff]
    simp only [Bool.and_eq_true, decide_eq_true_eq]
    omega
   have HX := Lib.hid hx
   clear hx
   go_wp2_with fail
   refine (sIn_any _ _ _ _).mono ?_
   rintro e w1 ⟨rfl, rfl⟩
   rw [HX.out]
   obtain ⟨o, ho⟩ : ∃ o, digB s[k] = o := ⟨_, rfl⟩
   have HO := Lib.hid ho
   rw [ho]
   clear ho
   cases o
   ·
    have HF := Lib.hid (all_no digB _ k _ HZ.out HO.out)
    go_wp2
    go_returns
    exact ⟨by rw [digsB, HF.out]; rfl, rfl⟩
   ·
    have hq : 48 ≤ (s[k].toNat : Int) := by
     have := HO.out
     simp only [digB, Bool.and_eq_true, decide_eq_true_eq] at this
     exact this.1
    go_wp2_with fail
    go_round
    case rel => exact ⟨k + 1, by omega, by go_num, by unfold Hid; rw [all_step digB _ k _ HZ.out, hall.out, HO.out]; rfl⟩
    case measure => simp [intOf]; omega
  ·
   obtain rfl : k = s.size := by omega
   have h1 := hall.out
   rw [List.take_of_length_le (by simp)] at h1
   have H1 := Lib.hid h1
   clear h1 hall
   go_wp2
   go_returns
   exact ⟨by rw [digsB, H1.out]; rfl, rfl⟩

end Go.Proofs.Ytedadhoneebfnaa

/- Contracts of strings.HasPrefix and the reference's l6Begins. -/
namespace Go.Proofs.Ytedadhoneebfnaa
open Go.RowKit

/-- Whether s begins with p. -/
def preB (s p : ByteArray) : Bool := p.data.toList.isPrefixOf s.data.toList
theorem preB_long {s p : ByteArray} (h : s.size < p.size) : preB s p = false := by
 rw [Bool.eq_false_iff]
 intro e
 have := (List.isPrefixOf_iff_prefix.1 e).length_le
 simp at this
 omega
theorem preB_cut {s p : ByteArray} (h : p.size ≤ s.size) : ((s.extract 0 p.size).toList == p.toList) = preB s p := by
 rw [Bool.eq_iff_iff, beq_iff_eq, ByteArray.toList_eq, ByteArray.toList_eq]
 unfold preB
 rw [List.isPrefixOf_iff_prefix, List.prefix_iff_eq_take]
 have e1 : (s.extract 0 p.size).data.toList = s.data.toList.take p.data.toList.length := by simp [ByteArray.data_extract]
 rw [e1]
 exact eq_comm

set_option maxHeartbeats 400000 in
theorem hasPrefix_any (s p : ByteArray) (w : World) (hs : s.size ≤ maxLen) (hp : p.size ≤ maxLen) :
  Calls Try.prog 105 #[.string s, .string p] w fun e w' => e = .returned (.bool (preB s p)) ∧ w = w' := by
 unfold maxLen at hs hp
 by_cases h : p.size ≤ s.size
 ·
  have hc := preB_cut h
  obtain ⟨b, hb⟩ : ∃ b, preB s p = b := ⟨_, rfl⟩
  rw [hb] at hc
  have HB := Lib.hid hb
  clear hb
  go_enter Try.func105, Try.ntmps105
  go_wp2
  go_returns
  rw [HB.out]
  exact ⟨rfl, rfl⟩
 ·
  rw [preB_long (by omega)]
  go_enter Try.func105, Try.ntmps105
  go_wp2
  go_returns
  exact ⟨rfl, rfl⟩
set_option maxHeartbeats 400000 in
theorem l6Begins_any (s p : ByteArray) (w : World) (hs : s.size ≤ maxLen) (hp : p.size ≤ maxLen) :
  Calls Try.prog 102 #[.string s, .string p] w fun e w' => e = .returned (.bool (preB s p)) ∧ w = w' := by
 unfold maxLen at hs hp
 by_cases h : p.size ≤ s.size
 ·
  have hc := preB_cut h
  obtain ⟨b, hb⟩ : ∃ b, preB s p = b := ⟨_, rfl⟩
  rw [hb] at hc
  have HB := Lib.hid hb
  clear hb
  go_enter Try.func102, Try.ntmps102
  go_wp2
  go_returns
  rw [HB.out]
  exact ⟨rfl, rfl⟩
 ·
  rw [preB_long (by omega)]
  go_enter Try.func102, Try.ntmps102
  go_wp2
  go_returns
  exact ⟨rfl, rfl⟩

end Go.Proofs.Ytedadhoneebfnaa
