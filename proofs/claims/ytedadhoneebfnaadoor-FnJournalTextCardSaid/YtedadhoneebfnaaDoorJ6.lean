/- Joined texts: DoP, Nd, MvP, Ch. -/
import Derived.Test.YtedadhoneebfnaaDoorJ3
import Derived.Test.YtedadhoneebfnaaDoorJ5
import Derived.StillTailTactics
set_option linter.unusedSimpArgs false
set_option linter.unusedVariables false
/- Deeds of an exchange, plain: what they do, and that they keep it valid. No program in sight. -/
namespace Go.Proofs.YtedadhoneebfnaaDoor

/-- All ends of calls are different lines. -/
theorem ExOk.only {O E M : Int} {ps : List ByteArray} {cs : List Cl} (h : ExOk O E M ps cs) {c d : Cl} {x : Int} (hc : c ∈ cs) (hd : d ∈ cs) (h1 : hasE x c = true) (h2 : hasE x d = true) : c = d := by
 simp only [hasE, Bool.or_eq_true, decide_eq_true_eq] at h1 h2
 rcases h1 with h1 | h1 <;> rcases h2 with h2 | h2
 ·
  exact h.calls.one hc hd (.inl (by omega))
 ·
  exact absurd (show c.1 = d.2.1 by omega) (h.part c hc d hd)
 ·
  exact absurd (show d.1 = c.2.1 by omega) (h.part d hd c hc)
 ·
  exact h.calls.one hc hd (.inr (by omega))
theorem ExOk.apart {O E M : Int} {ps : List ByteArray} {cs : List Cl} (h : ExOk O E M ps cs) {c : Cl} (hc : c ∈ cs) : c.1 ≠ c.2.1 := h.part c hc c hc
/-! The ends alone. -/
def ends (c : Cl) : Int × Int := (c.1, c.2.1)
theorem flip_ends (a b : Int) (ch : List Nat) (cs : List Cl) : (flipL a b ch cs).map ends = cs.map ends := by
 apply List.ext_getElem?
 intro k
 cases hk : cs[k]? with
 | none =>
  have : cs.length ≤ k := by rw [List.getElem?_eq_none_iff] at hk; exact hk
  rw [List.getElem?_eq_none (by simp [flipL]; omega), List.getElem?_eq_none (by simp; omega)]
 | some c => rw [List.getElem?_map, List.getElem?_map, flipL_at hk, hk]; rfl
theorem move_ends (E M : Int) (cs : List Cl) (x y : Int) : (moveL E M cs x y).map ends = cs.map ends ++ [(x, y)] := by
 unfold moveL
 split
 ·
  simp [ends]
 ·
  simp only [List.map_append, flip_ends]; simp [ends]
theorem mem_ends {cs : List Cl} {p : Int × Int} : p ∈ cs.map ends ↔ ∃ c ∈ cs, ends c = p := by simp [List.mem_map]
theorem part_ends {cs : List Cl} : PartOk cs ↔ ∀ p ∈ cs.map ends, ∀ q ∈ cs.map ends, p.1 ≠ q.2 := by
 constructor
 ·
  intro h p hp q hq
  obtain ⟨c, hc, rfl⟩ := mem_ends.1 hp
  obtain ⟨d, hd, rfl⟩ := mem_ends.1 hq
  exact h c hc d hd
 ·
  intro h c hc d hd
  exact h (ends c) (mem_ends.2 ⟨c, hc, rfl⟩) (ends d) (mem_ends.2 ⟨d, hd, rfl⟩)
theorem find_free {cs : List Cl} {x : Int} (h : cs.find? (hasE x) = none) : ∀ c ∈ cs, c.1 ≠ x ∧ c.2.1 ≠ x := by
 intro c hc
 rw [List.find?_eq_none] at h
 have := h c hc
 simp [hasE] at this
 exact this

/-! Deeds. -/
def dropL (cs : List Cl) (x : Int) : List Cl := cs.filter fun c => !decide (c.1 = x)
noncomputable def doL (E M : Int) (ps : List ByteArray) (cs : List Cl) (kind line : Int) (num : ByteArray) : Option (List ByteArray × List Cl) :=
 if line < 0 ∨ (ps.length : Int) ≤ line then none
 else if kind = 0 then
  (if lineL ps num < 0 ∨ lineL ps num = line ∨ 0 ≤ peerL cs line ∨ 0 ≤ peerL cs (lineL ps num) then none else some (ps, moveL E M cs line (lineL ps num)))
 else if kind = 1 then
  (if num ≠ ByteArray.empty then none else match cs.find? (hasE line) with
   | none => none
   | some c => some (ps, dropL cs c.1))
 else if kind = 2 then
  (if ps[line.toNat]? = some num ∨ planB (ps.set line.toNat num) = false then none else some (ps.set line.toNat num, cs))
 else none
theorem dropL_ok {O E M : Int} {cs : List Cl} (h : CallsOk O E M cs) (x : Int) : CallsOk O E M (dropL cs x) := by
 have hp : (dropL cs x).Pairwise fun d c => d.1 ≠ c.1 ∧ d.2.1 ≠ c.2.1 ∧ ∀ s, swC E s d = swC E s c → d.2.2 ≠ c.2.2 := by
  refine List.Pairwise.filter _ ?_
  rw [List.pairwise_iff_getElem]
  intro i j hi hj hij
  exact h.apart i j _ _ hij (List.getElem?_eq_getElem hi) (List.getElem?_eq_getElem hj)
 refine ⟨h.sh, fun k c hc => ?_, fun j k d c hjk hd hc => ?_⟩
 ·
  exact h.mem (List.mem_filter.1 (List.mem_of_getElem? hc)).1
 ·
  obtain ⟨hj, rfl⟩ := List.getElem?_eq_some_iff.1 hd
  obtain ⟨hk, rfl⟩ := List.getElem?_eq_some_iff.1 hc
  exact List.pairwise_iff_getElem.1 hp j k hj hk hjk
theorem dropL_mem {cs : List Cl} {x : Int} {c : Cl} : c ∈ dropL cs x ↔ c ∈ cs ∧ c.1 ≠ x := by simp [dropL, List.mem_filter]
theorem dropL_len {cs : List Cl} {x : Int} : (dropL cs x).length ≤ cs.length := List.length_filter_le _ _
theorem dropL_lt {cs : List Cl} {c : Cl} (hc : c ∈ cs) : (dropL cs c.1).length < cs.length := by
 unfold dropL
 rw [List.length_filter_lt_length_iff_exists]
 exact ⟨c, hc, by simp⟩
theorem free_of {cs : List Cl} {x : Int} (hok : ∃ O E M, CallsOk O E M cs) (h : ¬ 0 ≤ peerL cs x) : cs.find? (hasE x) = none := by
 obtain ⟨O, E, M, hok⟩ := hok
 rcases peer_neg hok x with ⟨_, h2⟩ | ⟨c, _, _, _, h3, _⟩
 ·
  exact h2
 ·
  omega
theorem do_call {O E M : Int} {ps : List ByteArray} {cs : List Cl} (h : ExOk O E M ps cs) {x y : Int} (hx : 0 ≤ x ∧ x < ps.length) (hy : 0 ≤ y ∧ y < ps.length) (hxy : y ≠ x) (h1 : cs.find? (hasE x) = none) (h2 : cs.find? (hasE y) = none) : ExOk O E M ps (moveL E M cs x y) := by
 have f1 := find_free h1
 have f2 := find_free h2
 have hl := h.len
 refine ⟨moveL_ok h.calls h.en (by omega) (by omega) (fun c hc => ⟨(f1 c hc).1, (f2 c hc).2⟩), h.en, h.plan, h.len, ?_⟩
 rw [part_ends, move_ends]
 intro p hp q hq
 rcases List.mem_append.1 hp with hp | hp <;> rcases List.mem_append.1 hq with hq | hq
 ·
  exact part_ends.1 h.part p hp q hq
 ·
  obtain ⟨c, hc, rfl⟩ := mem_ends.1 hp
  simp at hq; subst hq
  exact (f2 c hc).1
 ·
  obtain ⟨c, hc, rfl⟩ := mem_ends.1 hq
  simp at hp; subst hp
  exact fun e => (f1 c hc).2 e.symm
 ·
  simp at hp hq; subst hp; subst hq
  exact fun e => hxy e.symm
theorem line_lt {ps : List ByteArray} {s : ByteArray} (h : 0 ≤ lineL ps s) : lineL ps s < ps.length := by
 rcases line_is (ps := ps) (s := s) with ⟨h1, _⟩ | ⟨k, h1, h2, _⟩
 ·
  omega
 ·
  have := (List.getElem?_eq_some_iff.1 h2).1; omega
theorem do_ok {O E M : Int} {ps : List ByteArray} {cs : List Cl} (h : ExOk O E M ps cs) {kind line : Int} {num : ByteArray} {ps' : List ByteArray} {cs' : List Cl} (hd : doL E M ps cs kind line num = some (ps', cs')) : ExOk O E M ps' cs' := by
 unfold doL at hd
 split at hd
 ·
  cases hd
 rename_i hl
 split at hd
 ·
  split at hd
  ·
   cases hd
  rename_i hc
  simp only [not_or] at hc hl
  cases hd
  exact do_call h (by omega) ⟨by omega, line_lt (by omega)⟩ hc.2.1 (free_of ⟨O, E, M, h.calls⟩ hc.2.2.1) (free_of ⟨O, E, M, h.calls⟩ hc.2.2.2)
 split at hd
 ·
  split at hd
  ·
   cases hd
  split at hd
  ·
   cases hd
  ·
   cases hd
   exact ⟨dropL_ok h.calls _, h.en, h.plan, h.len, fun c hc d hd => h.part c (dropL_mem.1 hc).1 d (dropL_mem.1 hd).1⟩
 split at hd
 ·
  split at hd
  ·
   cases hd
  rename_i hc
  cases hd
  simp only [not_or, Bool.not_eq_false] at hc
  exact ⟨h.calls, h.en, (planB_iff _).1 hc.2, by rw [List.length_set]; exact h.len, h.part⟩
 ·
  cases hd

/-! Deeds one after the other. -/
abbrev Dd := Int × Int × ByteArray
end Go.Proofs.YtedadhoneebfnaaDoor

/- Contracts of NightDeeds (program and reference). -/
namespace Go.Proofs.YtedadhoneebfnaaDoor
open Go.RowKit

theorem Blk.gbr {w1 w2 : World} {b : Nat} {cs : Array Value} {T : TypeId} {r : Option Nat} (hg : w1.grownBy w2 r) (hne : some b ≠ r) (h : Blk w1 b cs T) : Blk w2 b cs T := by
 have := h.lt; unfold Blk at h ⊢; rw [hg.block b this hne]; exact h
theorem news3 (w : World) (T : TypeId) (x0 x1 x2 : Value) (b : Nat) (hb : b = w.heap.size) : ∀ (j : Nat) (u : Value), [x0, x1, x2][j]? = some u → (w.alloc (.cells #[x0, x1, x2] T)).cell? ((⟨b, 0, none⟩ : Addr).add j) = some u := by
 intro j u hu
 rw [Addr.add_spot, Nat.zero_add, (Blk.new hb).at j]
 simpa using hu
theorem oneD (a b : Int) (s : ByteArray) : ∀ u ∈ [Value.int .i64 a, Value.int .i64 b, Value.string s], u.oneCell' = true := by
 intro u hu; simp at hu; rcases hu with rfl | rfl | rfl <;> rfl
theorem oneC (a b c : Int) : ∀ u ∈ [Value.int .i64 a, Value.int .i64 b, Value.int .i64 c], u.oneCell' = true := by
 intro u hu; simp at hu; rcases hu with rfl | rfl | rfl <;> rfl
end Go.Proofs.YtedadhoneebfnaaDoor

/- Moving calls, plain: what one step of either program does to the chain. -/
namespace Go.Proofs.YtedadhoneebfnaaDoor
open Go.RowKit

/-- r is the place of what has P, or -1. -/
def Found (n : Nat) (P : Nat → Prop) (r : Int) : Prop := (r = -1 ∧ ∀ k, k < n → ¬ P k) ∨ ∃ k : Nat, k < n ∧ r = k ∧ P k
/-- A call at an outer switch through a middle switch, not at the place nt. -/
def seekP (E : Int) (cs : List Cl) (s : Bool) (outer want nt : Int) (k : Nat) : Prop := (k : Int) ≠ nt ∧ ∃ c, cs[k]? = some c ∧ c.2.2 = want ∧ swC E s c = outer
def LastOf (E : Int) (cs : List Cl) (a b : Int) (s : Bool) (outer want : Int) (ch : List Nat) (nt : Int) : Prop :=
 (ch = [] ∧ nt = -1) ∨ ∃ (l : Nat), l ∈ ch ∧ nt = l ∧ swL E cs s l = outer ∧ viaL cs l = a + b - want
def NextIs (E : Int) (cs : List Cl) (s : Bool) (outer want : Int) (ch : List Nat) (r : Int) : Prop :=
 (r = -1 ∧ nextK cs.length (viaL cs) (swL E cs) s outer want ch = none) ∨ ∃ k : Nat, r = k ∧ nextK cs.length (viaL cs) (swL E cs) s outer want ch = some k
theorem flipL_len (a b : Int) (ch : List Nat) (cs : List Cl) : (flipL a b ch cs).length = cs.length := by simp [flipL]
theorem flipL_nil (a b : Int) (cs : List Cl) : flipL a b [] cs = cs := by
 apply List.ext_getElem?
 intro k
 cases hk : cs[k]? with
 | none =>
  have : cs.length ≤ k := by rw [List.getElem?_eq_none_iff] at hk; exact hk
  rw [List.getElem?_eq_none (by rw [flipL_len]; omega)]
 | some c => rw [flipL_at hk]; simp [flipK, viaL_at hk]
theorem seek_next {E : Int} {cs : List Cl} {a b : Int} {s : Bool} {outer want : Int} {ch : List Nat} {nt r : Int} (hU : Uniq cs.length (viaL cs) (swL E cs)) (hch : ∀ k ∈ ch, k < cs.length)
  (hl : LastOf E cs a b s outer want ch nt) (hf : Found cs.length (seekP E (flipL a b ch cs) s outer want nt) r) : NextIs E cs s outer want ch r := by
 rcases hf with ⟨rfl, hno⟩ | ⟨k, hk, rfl, hnt, e, he, h1, h2⟩
 ·
  refine .inl ⟨rfl, ?_⟩
  cases hn : nextK cs.length (viaL cs) (swL E cs) s outer want ch with
  | none => rfl
  | some k =>
   obtain ⟨q1, q2, q3, q4⟩ := nextK_some hn
   exfalso
   obtain ⟨c, hc⟩ : ∃ c, cs[k]? = some c := ⟨_, List.getElem?_eq_getElem q1⟩
   refine hno k q1 ⟨?_, _, flipL_at hc, ?_, ?_⟩
   ·
    rcases hl with ⟨_, rfl⟩ | ⟨l, hm, rfl, _⟩
    ·
     omega
    ·
     intro e; have : k = l := by omega
     subst this; exact q2 hm
   ·
    show flipK _ _ _ _ _ = want
    rw [flipK, if_neg q2, q4]
   ·
    rw [swL_at hc] at q3
    cases s <;> exact q3
 ·
  refine .inr ⟨k, rfl, ?_⟩
  obtain ⟨c, hc, rfl⟩ := flipL_of he
  have hs : swL E cs s k = outer := by rw [swL_at hc]; cases s <;> exact h2
  have hv : flipK (viaL cs) a b ch k = want := h1
  have hkc : k ∉ ch := by
   intro hin
   rw [flipK, if_pos hin] at hv
   rcases hl with ⟨rfl, _⟩ | ⟨l, hm, rfl, g1, g2⟩
   ·
    simp at hin
   ·
    have := hU s k l hk (hch l hm) (by rw [hs, g1]) (by rw [g2]; omega)
    subst this; exact hnt rfl
  rw [flipK, if_neg hkc] at hv
  cases hn : nextK cs.length (viaL cs) (swL E cs) s outer want ch with
  | none => exact absurd (nextK_none hn k hk hs hv) hkc
  | some j =>
   obtain ⟨q1, q2, q3, q4⟩ := nextK_some hn
   rw [hU s j k q1 hk (by rw [q3, hs]) (by rw [q4, hv])]
/-- The last one that is not in the chain is the first one. -/
theorem last_next {E : Int} {cs : List Cl} {s : Bool} {outer want : Int} {ch : List Nat} {r : Int} (hU : Uniq cs.length (viaL cs) (swL E cs))
  (hf : Found cs.length (fun k => k ∉ ch ∧ ∃ c, cs[k]? = some c ∧ c.2.2 = want ∧ swC E s c = outer) r) : NextIs E cs s outer want ch r := by
 rcases hf with ⟨rfl, hno⟩ | ⟨k, hk, rfl, hkc, c, hc, h1, h2⟩
 ·
  refine .inl ⟨rfl, ?_⟩
  cases hn : nextK cs.length (viaL cs) (swL E cs) s outer want ch with
  | none => rfl
  | some k =>
   obtain ⟨q1, q2, q3, q4⟩ := nextK_some hn
   exfalso
   obtain ⟨c, hc⟩ : ∃ c, cs[k]? = some c := ⟨_, List.getElem?_eq_getElem q1⟩
   rw [swL_at hc] at q3
   rw [viaL_at hc] at q4
   exact hno k q1 ⟨q2, c, hc, q4, q3⟩
 ·
  refine .inr ⟨k, rfl, ?_⟩
  rw [← swL_at hc] at h2
  rw [← viaL_at hc] at h1
  cases hn : nextK cs.length (viaL cs) (swL E cs) s outer want ch with
  | none => exact absurd (nextK_none hn k hk h2 h1) hkc
  | some j =>
   obtain ⟨q1, q2, q3, q4⟩ := nextK_some hn
   rw [hU s j k q1 hk (by rw [q3, h2]) (by rw [q4, h1])]
theorem flip_step {E : Int} {cs : List Cl} {a b : Int} {s : Bool} {outer want : Int} {ch : List Nat} {k : Nat} {c : Cl} (hn : nextK cs.length (viaL cs) (swL E cs) s outer want ch = some k) (hc : cs[k]? = some c) :
  (flipL a b ch cs).set k (c.1, c.2.1, a + b - want) = flipL a b (ch ++ [k]) cs ∧ (flipL a b ch cs)[k]? = some (c.1, c.2.1, want) := by
 obtain ⟨q1, q2, q3, q4⟩ := nextK_some hn
 constructor
 ·
  apply List.ext_getElem?
  intro j
  rw [List.getElem?_set, flipL_len]
  cases hj : cs[j]? with
  | none =>
   have : cs.length ≤ j := by rw [List.getElem?_eq_none_iff] at hj; exact hj
   rw [if_neg (by omega), List.getElem?_eq_none (by rw [flipL_len]; omega), List.getElem?_eq_none (by rw [flipL_len]; omega)]
  | some d =>
   rw [flipL_at hj, flipL_at hj]
   by_cases e : k = j
   ·
    subst e
    rw [hc] at hj; cases hj
    rw [if_pos rfl, if_pos q1]
    simp [flipK, q4]
   ·
    rw [if_neg e]
    have : (j ∈ ch ++ [k]) ↔ j ∈ ch := by simp; intro e2; exact absurd e2.symm e
    simp only [flipK, this]
 ·
  rw [flipL_at hc, flipK, if_neg q2, q4]
theorem LastOf.next {E : Int} {cs : List Cl} {a b : Int} {s : Bool} {outer want : Int} {ch : List Nat} {k : Nat} (hn : nextK cs.length (viaL cs) (swL E cs) s outer want ch = some k) : LastOf E cs a b (!s) (swL E cs (!s) k) (a + b - want) (ch ++ [k]) k := by
 obtain ⟨q1, q2, q3, q4⟩ := nextK_some hn
 exact .inr ⟨k, by simp, rfl, rfl, by rw [q4]; omega⟩
/-- Where the chain stands. -/
structure ChAt (E : Int) (cs : List Cl) (a b I y : Int) (s : Bool) (outer want : Int) (ch : List Nat) : Prop where
 inv : Inv cs.length (viaL cs) (swL E cs) a b I (y / E) s outer want ch
 rest : chainL E a b cs y = chainK cs.length (viaL cs) (swL E cs) a b (cs.length + 1 - ch.length) s outer want ch
theorem ChAt.len {E : Int} {cs : List Cl} {a b I y : Int} {s : Bool} {outer want : Int} {ch : List Nat} (h : ChAt E cs a b I y s outer want ch) : ch.length ≤ cs.length := nodup_len h.inv.nd fun k hk => (h.inv.col k hk).1
theorem ChAt.lt {E : Int} {cs : List Cl} {a b I y : Int} {s : Bool} {outer want : Int} {ch : List Nat} (h : ChAt E cs a b I y s outer want ch) : ∀ k ∈ ch, k < cs.length := fun k hk => (h.inv.col k hk).1
theorem ChAt.start {E : Int} {cs : List Cl} {a b I y : Int} (hO : ∀ j, j < cs.length → swL E cs true j = y / E → viaL cs j ≠ b) : ChAt E cs a b I y true (y / E) a [] := ⟨chainK_first hO, rfl⟩
theorem ChAt.stop {E : Int} {cs : List Cl} {a b I y : Int} {s : Bool} {outer want : Int} {ch : List Nat} (h : ChAt E cs a b I y s outer want ch) (hn : nextK cs.length (viaL cs) (swL E cs) s outer want ch = none) : chainL E a b cs y = ch := by
 have := h.len
 rw [h.rest, show cs.length + 1 - ch.length = (cs.length - ch.length) + 1 by omega]
 simp only [chainK, hn]
theorem ChAt.go {E : Int} {cs : List Cl} {a b I y : Int} {s : Bool} {outer want : Int} {ch : List Nat} (hU : Uniq cs.length (viaL cs) (swL E cs)) (hI : ∀ j, j < cs.length → swL E cs false j = I → viaL cs j ≠ a) (h : ChAt E cs a b I y s outer want ch) {k : Nat} (hn : nextK cs.length (viaL cs) (swL E cs) s outer want ch = some k) : ChAt E cs a b I y (!s) (swL E cs (!s) k) (a + b - want) (ch ++ [k]) := by
 have := h.len
 refine ⟨h.inv.step hU hI hn, ?_⟩
 rw [h.rest, show cs.length + 1 - ch.length = (cs.length - ch.length) + 1 by omega]
 simp only [chainK, hn]
 rw [show cs.length + 1 - (ch ++ [k]).length = cs.length - ch.length by simp]
/-- The reference flips at the end, one after the other. -/
theorem flip_one {cs : List Cl} {a b : Int} {ch : List Nat} {k : Nat} {c : Cl} (hk : k ∉ ch) (hc : cs[k]? = some c) :
  (flipL a b ch cs)[k]? = some c ∧ (flipL a b ch cs).set k (c.1, c.2.1, a + b - c.2.2) = flipL a b (ch ++ [k]) cs := by
 have hkl := (List.getElem?_eq_some_iff.1 hc).1
 constructor
 ·
  rw [flipL_at hc, flipK, if_neg hk, viaL_at hc]
 ·
  apply List.ext_getElem?
  intro j
  rw [List.getElem?_set, flipL_len]
  cases hj : cs[j]? with
  | none =>
   have : cs.length ≤ j := by rw [List.getElem?_eq_none_iff] at hj; exact hj
   rw [if_neg (by omega), List.getElem?_eq_none (by rw [flipL_len]; omega), List.getElem?_eq_none (by rw [flipL_len]; omega)]
  | some d =>
   rw [flipL_at hj, flipL_at hj]
   by_cases e : k = j
   ·
    subst e
    rw [hc] at hj; cases hj
    rw [if_pos rfl, if_pos hkl]
    simp [flipK, viaL_at hc]
   ·
    rw [if_neg e]
    have : (j ∈ ch ++ [k]) ↔ j ∈ ch := by simp; intro e2; exact absurd e2.symm e
    simp only [flipK, this]
theorem ccells_via (cs : List Cl) : ∀ (k : Nat) (c : Cl) (z : Int), cs[k]? = some c → (ccells cs).set (k * 3 + 2) (.int .i64 z) = ccells (cs.set k (c.1, c.2.1, z)) := by
 induction cs with
 | nil => intro k r z h; simp at h
 | cons x rs ih =>
  intro k r z h
  cases k with
  | zero => simp at h; subst h; simp [ccells]
  | succ k =>
   rw [show (k + 1) * 3 + 2 = (k * 3 + 2) + 3 by omega]
   have := ih k r z (by simpa using h)
   simpa [ccells, List.flatMap_cons] using this

theorem mids_take (M : Int) (k : Nat) (h : (k : Int) < M) : (mids M).take (k + 1) = (mids M).take k ++ [(k : Int)] := by
 unfold mids
 have hl : k < ((List.range M.toNat).map Int.ofNat).length := by simp; omega
 rw [List.take_succ_eq_append_getElem hl]
 simp
theorem mids_len (M : Int) : (mids M).length = M.toNat := by simp [mids]
theorem first_at {E M : Int} {cs : List Cl} {s : Bool} {o : Int} {k : Nat} (hk : (k : Int) < M) (h : ∀ j : Nat, j < k → usedB E cs s o j = true) (h1 : usedB E cs s o k = false) : firstL E M cs s o = k := by
 unfold firstL
 have : ((mids M).find? fun m => !usedB E cs s o m) = some (k : Int) := by
  rw [List.find?_eq_some_iff_getElem]
  have hl : k < (mids M).length := by rw [mids_len]; omega
  refine ⟨by simp [h1], k, hl, by simp [mids], fun j hj => ?_⟩
  have : (mids M)[j]'(by omega) = (j : Int) := by simp [mids]
  rw [this, h j hj]; rfl
 rw [this]; rfl

end Go.Proofs.YtedadhoneebfnaaDoor

/- Contracts of the laws' helpers on shapes and calls. -/
namespace Go.Proofs.YtedadhoneebfnaaDoor
open Go.RowKit

theorem infoC : (Tryd.prog.info? 93).map (fun i => (i.zero, i.size, i.bytes)) = some (some (.agg #[.int .i64 0, .int .i64 0, .int .i64 0]), 3, 24) := by kernel_rfl

/-- A list made anew, at a block's head. -/
def Made3 (E : TypeId) (cells : List Value) (n : Nat) (w : World) (e : Ending) (w' : World) : Prop :=
 ∃ g, e = .returned (.slice (some ⟨g, 0, none⟩) n n) ∧ w.heap.size ≤ g ∧ Own w' g n n E 3 cells ∧ Below w.heap.size w w'

end Go.Proofs.YtedadhoneebfnaaDoor
