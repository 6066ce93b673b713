/- Small facts on worlds used by all walks: whole blocks that are known. No program in sight. -/
import Derived.WalkKit
import Derived.WalkSpells
import Derived.WalkLawsBesides
import Derived.Lib.Hide
import Derived.Deep.Draws
set_option linter.unusedSimpArgs false
set_option linter.unusedVariables false
namespace Go.Proofs.YtedadhoneebfnaaGreatDoor
open Go.RowKit

theorem keep_alloc {w : World} {a : Addr} {v : Value} {o : Obj} (h : w.cell? a = some v) : (w.alloc o).cell? a = some v := by
  have hlt : a.block < w.heap.size := by
    unfold World.cell? at h
    split at h
    · rename_i h'; exact lt_of_block h'
    · cases h
  rw [World.cell?_alloc_lt _ _ _ hlt]; exact h
theorem keep_drew {w : World} {a : Addr} {v : Value} (h : w.cell? a = some v) : w.drew.cell? a = some v := h
theorem keep_drewN {w : World} {a : Addr} {v : Value} {n : Nat} (h : w.cell? a = some v) : (w.drewN n).cell? a = some v := h
theorem keep_below {w w' : World} {a : Addr} {v : Value} (hb : Below w.heap.size w w') (h : w.cell? a = some v) : w'.cell? a = some v := by
  have hlt : a.block < w.heap.size := by
    unfold World.cell? at h
    split at h
    · rename_i h'; exact lt_of_block h'
    · cases h
  exact (hb.cell hlt).trans h

theorem keep_other {w : World} {a p : Addr} {u v : Value} (ha : p.block ≠ a.block) (h : w.cell? p = some v) : (w.setCell a u).cell? p = some v := by
  rw [World.cell?_setCell_other _ _ _ _ (fun e => ha (by rw [e]))]; exact h

/-- Block b holds just these cells, and may be written. -/
def Blk (w : World) (b : Nat) (cs : Array Value) (T : TypeId) : Prop := w.heap[b]? = some (.cells cs T (0, 0))

theorem Blk.lt {w : World} {b : Nat} {cs : Array Value} {T : TypeId} (h : Blk w b cs T) : b < w.heap.size := lt_of_block h
theorem Blk.far {w : World} {b : Nat} {cs : Array Value} {T : TypeId} (h : Blk w b cs T) : ∀ k, b < w.heap.size + k := fun k => Nat.lt_of_lt_of_le h.lt (Nat.le_add_right _ _)
theorem Blk.at {w : World} {b : Nat} {cs : Array Value} {T : TypeId} (h : Blk w b cs T) (i : Nat) : w.cell? ⟨b, i, none⟩ = cs[i]? := by
  unfold Blk at h; simp [World.cell?, h]
theorem Blk.free {w : World} {b : Nat} {cs : Array Value} {T : TypeId} (h : Blk w b cs T) (i : Nat) : w.frozen? ⟨b, i, none⟩ = false := by
  unfold Blk at h; simp [World.frozen?, h]
theorem Blk.new {w : World} {cs : Array Value} {T : TypeId} {b : Nat} (hb : b = w.heap.size) : Blk (w.alloc (.cells cs T)) b cs T := by
  subst hb; show (w.heap.push _)[w.heap.size]? = _; simp
theorem Blk.alloc {w : World} {b : Nat} {cs : Array Value} {T : TypeId} (h : Blk w b cs T) (o : Obj) : Blk (w.alloc o) b cs T := by
  have := h.lt; unfold Blk at h ⊢; rw [Below.heap_alloc _ _ _ this]; exact h
theorem Blk.drew {w : World} {b : Nat} {cs : Array Value} {T : TypeId} (h : Blk w b cs T) : Blk w.drew b cs T := h
theorem Blk.drewN {w : World} {b : Nat} {cs : Array Value} {T : TypeId} (h : Blk w b cs T) (n : Nat) : Blk (w.drewN n) b cs T := h
theorem Blk.below {w w' : World} {b B : Nat} {cs : Array Value} {T : TypeId} (hb : Below B w w') (hB : b < B) (h : Blk w b cs T) : Blk w' b cs T := by
  unfold Blk at h ⊢; rw [hb.block b hB]; exact h
theorem Blk.belowAll {w w' : World} {b : Nat} {cs : Array Value} {T : TypeId} (h : Blk w b cs T) (hb : Below w.heap.size w w') : Blk w' b cs T := Blk.below hb h.lt h
theorem Blk.other {w : World} {b : Nat} {cs : Array Value} {T : TypeId} {a : Addr} {u : Value} (ha : b ≠ a.block) (h : Blk w b cs T) : Blk (w.setCell a u) b cs T := by
  unfold Blk at h ⊢; rw [Below.heap_setCell _ _ _ _ ha]; exact h
theorem Blk.set {w : World} {b : Nat} {cs : Array Value} {T : TypeId} (h : Blk w b cs T) {i : Nat} {cs' : Array Value} {u : Value} (hc : cs.setIfInBounds i u = cs') : Blk (w.setCell ⟨b, i, none⟩ u) b cs' T := by
  subst hc
  have hlt := h.lt
  have h' : w.heap[b] = .cells cs T (0, 0) := by unfold Blk at h; simpa [Array.getElem?_eq_getElem hlt] using h
  show (w.heap.modify b _)[b]? = _
  rw [Array.getElem?_eq_getElem (by simpa using hlt), Array.getElem_modify_self, h']
  rfl

/-- Two cells, three cells: what a walk wants to know of them. -/
theorem Blk.two {w : World} {b : Nat} {x y : Value} {T : TypeId} (h : Blk w b #[x, y] T) : w.cell? ⟨b, 0, none⟩ = some x ∧ w.cell? ⟨b, 1, none⟩ = some y ∧ w.frozen? ⟨b, 0, none⟩ = false ∧ w.frozen? ⟨b, 1, none⟩ = false ∧ b < w.heap.size :=
  ⟨h.at 0, h.at 1, h.free 0, h.free 1, h.lt⟩
theorem Blk.one {w : World} {b : Nat} {x : Value} {T : TypeId} (h : Blk w b #[x] T) : w.cell? ⟨b, 0, none⟩ = some x ∧ w.frozen? ⟨b, 0, none⟩ = false ∧ b < w.heap.size :=
  ⟨h.at 0, h.free 0, h.lt⟩
theorem Blk.three {w : World} {b : Nat} {x y z : Value} {T : TypeId} (h : Blk w b #[x, y, z] T) : w.cell? ⟨b, 0, none⟩ = some x ∧ w.cell? ⟨b, 1, none⟩ = some y ∧ w.cell? ⟨b, 2, none⟩ = some z ∧ w.frozen? ⟨b, 0, none⟩ = false ∧ w.frozen? ⟨b, 1, none⟩ = false ∧ w.frozen? ⟨b, 2, none⟩ = false ∧ b < w.heap.size :=
  ⟨h.at 0, h.at 1, h.at 2, h.free 0, h.free 1, h.free 2, h.lt⟩

/-- A slice that begins at the head of block g, has n elements and room for cap, whose cells (of the elements) are xs; it may be written. -/
def Own (w : World) (g n cap : Nat) (E : TypeId) (size : Nat) (xs : List Value) : Prop := w.ownsRow 0 E size (.slice (some ⟨g, 0, none⟩) n cap) n xs

section
variable {w w' : World} {g n cap : Nat} {E : TypeId} {size : Nat} {xs : List Value}
theorem Own.of {base : Nat} (h : w.ownsRow base E size (.slice (some ⟨g, 0, none⟩) n cap) n xs) : Own w g n cap E size xs ∧ base ≤ g := by
  rcases h with ⟨h1, ⟨h2, _⟩ | ⟨g', cap', cur, hv, hb, r⟩⟩
  · simp at h2
  · have hv' := hv
    simp only [Value.slice.injEq, Option.some.injEq, Addr.mk.injEq, and_true, true_and] at hv'
    obtain ⟨rfl, rfl⟩ := hv'
    exact ⟨⟨h1, .inr ⟨g, cap, cur, rfl, Nat.zero_le _, r⟩⟩, hb⟩
theorem Own.back {base : Nat} (h : Own w g n cap E size xs) (hb : base ≤ g) : w.ownsRow base E size (.slice (some ⟨g, 0, none⟩) n cap) n xs := by
  rcases h with ⟨h1, ⟨h2, _⟩ | ⟨g', cap', cur, hv, _, r⟩⟩
  · simp at h2
  · have hv' := hv
    simp only [Value.slice.injEq, Option.some.injEq, Addr.mk.injEq, and_true, true_and] at hv'
    obtain ⟨rfl, rfl⟩ := hv'
    exact ⟨h1, .inr ⟨g, cap, cur, rfl, hb, r⟩⟩
theorem Own.len (h : Own w g n cap E size xs) : xs.length = n * size := h.1
theorem Own.cell (h : Own w g n cap E size xs) (j : Nat) (hj : j < n * size) : w.cell? ⟨g, j, none⟩ = xs[j]? := h.cellAt j hj
theorem Own.free (h : Own w g n cap E size xs) (j : Nat) : w.frozen? ⟨g, j, none⟩ = false := h.frozenAt j
theorem Own.blk (h : Own w g n cap E size xs) : ∃ cur, Blk w g cur E ∧ n ≤ cap ∧ cap ≤ maxLen ∧ cur.size = cap * size ∧ cur.toList.take (n * size) = xs := by
  rcases h with ⟨h1, ⟨h2, _⟩ | ⟨g', cap', cur, hv, _, hg, r⟩⟩
  · simp at h2
  · simp only [Value.slice.injEq, Option.some.injEq, Addr.mk.injEq, and_true, true_and] at hv
    obtain ⟨rfl, rfl⟩ := hv
    exact ⟨cur, hg, r⟩
theorem Own.ofBlk {cur : Array Value} (hlen : xs.length = n * size) (h : Blk w g cur E) (h1 : n ≤ cap) (h2 : cap ≤ maxLen) (h3 : cur.size = cap * size) (h4 : cur.toList.take (n * size) = xs) : Own w g n cap E size xs :=
  ⟨hlen, .inr ⟨g, cap, cur, rfl, Nat.zero_le _, h, h1, h2, h3, h4⟩⟩
theorem Own.lt (h : Own w g n cap E size xs) : g < w.heap.size := by obtain ⟨cur, hb, _⟩ := h.blk; exact hb.lt
theorem Own.caps (h : Own w g n cap E size xs) : n ≤ cap ∧ cap ≤ maxLen := by obtain ⟨cur, _, h1, h2, _⟩ := h.blk; exact ⟨h1, h2⟩
theorem Own.set {ys : List Value} {j : Nat} {u : Value} (hy : xs.set j u = ys) (h : Own w g n cap E size xs) : Own (w.setCell ⟨g, j, none⟩ u) g n cap E size ys := by
  subst hy; exact (h.stored j u).1
theorem Own.other {a : Addr} {u : Value} (ha : g ≠ a.block) (h : Own w g n cap E size xs) : Own (w.setCell a u) g n cap E size xs := by
  obtain ⟨cur, hb, r1, r2, r3, r4⟩ := h.blk
  exact Own.ofBlk h.len (Blk.other ha hb) r1 r2 r3 r4
theorem Own.alloc {o : Obj} (h : Own w g n cap E size xs) : Own (w.alloc o) g n cap E size xs := by
  obtain ⟨cur, hb, r1, r2, r3, r4⟩ := h.blk
  exact Own.ofBlk h.len (hb.alloc o) r1 r2 r3 r4
theorem Own.drewN {k : Nat} (h : Own w g n cap E size xs) : Own (w.drewN k) g n cap E size xs := h
theorem Own.drew (h : Own w g n cap E size xs) : Own w.drew g n cap E size xs := h
theorem Own.below {B : Nat} (hb : Below B w w') (hB : g < B) (h : Own w g n cap E size xs) : Own w' g n cap E size xs := by
  obtain ⟨cur, hb', r1, r2, r3, r4⟩ := h.blk
  exact Own.ofBlk h.len (Blk.below hb hB hb') r1 r2 r3 r4
theorem own_ge {w : World} {base n : Nat} {E : TypeId} {size : Nat} {v : Value} {xs : List Value} (h : w.ownsRow base E size v n xs) : ∀ k, v.ownBlock = some k → base ≤ k := by
  intro k hk
  rcases h with ⟨_, ⟨rfl, _⟩ | ⟨g, cap, cur, rfl, hb, _⟩⟩
  · simp [Value.ownBlock] at hk
  · simp [Value.ownBlock] at hk; omega
end

/-- The slice value v, of n elements of 'size' cells each, reads as the cells xs. -/
def Rds (w : World) (v : Value) (n size : Nat) (xs : List Value) : Prop :=
  xs.length = n * size ∧ n ≤ maxLen ∧ ∃ a cap, v = .slice a n cap ∧ n ≤ cap ∧ (n = 0 ∨ ∃ b off, a = some ⟨b, off, none⟩ ∧ b < w.heap.size ∧ ∀ i, i < n * size → w.cell? ⟨b, off + i, none⟩ = xs[i]?)

theorem Rds.below {w w' : World} {v : Value} {n size : Nat} {xs : List Value} (hb : Below w.heap.size w w') (h : Rds w v n size xs) : Rds w' v n size xs := by
  obtain ⟨h1, h2, a, cap, h3, h4, h5⟩ := h
  refine ⟨h1, h2, a, cap, h3, h4, ?_⟩
  rcases h5 with h5 | ⟨b, off, rfl, hlt, hc⟩
  · exact .inl h5
  · exact .inr ⟨b, off, rfl, by have := hb.size; omega, fun i hi => (hb.cell (p := ⟨b, off + i, none⟩) hlt).trans (hc i hi)⟩
theorem Rds.ofOwns {w : World} {base n : Nat} {E : TypeId} {size : Nat} {v : Value} {xs : List Value} (h : w.ownsRow base E size v n xs) : Rds w v n size xs := by
  obtain ⟨h1, ⟨rfl, h2⟩ | ⟨g, cap, cur, rfl, hb, hg, h3, h4, h5, h6⟩⟩ := h
  · exact ⟨h1, by omega, _, _, by rw [h2], by omega, .inl h2⟩
  · refine ⟨h1, by omega, _, _, rfl, h3, .inr ⟨g, 0, rfl, lt_of_block hg, fun i hi => ?_⟩⟩
    have hc := World.ownsRow.cellAt (w := w) (base := base) (e := E) (size := size) (g := g) (n := n) (cap := cap) (xs := xs) ⟨h1, .inr ⟨g, cap, cur, rfl, hb, hg, h3, h4, h5, h6⟩⟩ i hi
    simpa using hc
theorem Rds.ofOwn {w : World} {g n cap : Nat} {E : TypeId} {size : Nat} {xs : List Value} (h : Own w g n cap E size xs) : Rds w (.slice (some ⟨g, 0, none⟩) n cap) n size xs := Rds.ofOwns h
/-- What a walk opens: the value's shape, and its cells where there are any. -/
theorem Rds.open1 {w : World} {v : Value} {n : Nat} {xs : List Value} (h : Rds w v n 1 xs) : ∃ a cap, v = .slice a n cap ∧ xs.length = n ∧ n ≤ maxLen ∧ n ≤ cap ∧ (n = 0 ∨ ∃ b off, a = some ⟨b, off, none⟩ ∧ b < w.heap.size ∧ ∀ i, i < n → w.cell? ⟨b, off + i, none⟩ = xs[i]?) := by
  obtain ⟨h1, h2, a, cap, h3, h4, h5⟩ := h
  refine ⟨a, cap, h3, by omega, h2, h4, ?_⟩
  simpa using h5

theorem owns_below {w w' : World} {base n : Nat} {E : TypeId} {size : Nat} {v : Value} {xs : List Value} (hb : Below w.heap.size w w') (h : w.ownsRow base E size v n xs) : w'.ownsRow base E size v n xs := by
  refine ⟨h.1, ?_⟩
  rcases h.2 with h2 | ⟨g, cap, cur, hv, hg, hh, r⟩
  · exact .inl h2
  · exact .inr ⟨g, cap, cur, hv, hg, by rw [hb.block g (lt_of_block hh)]; exact hh, r⟩
theorem owns_base {w : World} {base base' n : Nat} {E : TypeId} {size : Nat} {v : Value} {xs : List Value} (hb : base' ≤ base) (h : w.ownsRow base E size v n xs) : w.ownsRow base' E size v n xs := by
  refine ⟨h.1, ?_⟩
  rcases h.2 with h2 | ⟨g, cap, cur, hv, hg, r⟩
  · exact .inl h2
  · exact .inr ⟨g, cap, cur, hv, by omega, r⟩
/-- What is owned lies in a block that there is. -/
theorem own_lt {w : World} {base n : Nat} {E : TypeId} {size : Nat} {v : Value} {xs : List Value} (h : w.ownsRow base E size v n xs) : ∀ k, v.ownBlock = some k → k < w.heap.size := by
  intro k hk
  rcases h.2 with ⟨rfl, _⟩ | ⟨g, cap, cur, rfl, _, hg, _⟩
  · simp [Value.ownBlock] at hk
  · simp [Value.ownBlock] at hk; subst hk; exact lt_of_block hg
/-- A row that reads is read on where only another block was written. -/
theorem Rds.gb {w w' : World} {v : Value} {n size : Nat} {xs : List Value} {r : Option Nat} (hg : w.grownBy w' r) (h : Rds w v n size xs) (hne : ∀ a n' c, v = .slice (some a) n' c → some a.block ≠ r) : Rds w' v n size xs := by
  obtain ⟨h1, h2, a, cap, h3, h4, h5⟩ := h
  refine ⟨h1, h2, a, cap, h3, h4, ?_⟩
  rcases h5 with h5 | ⟨b, off, rfl, hlt, hc⟩
  · exact .inl h5
  · have hb := hg.block b hlt (hne _ _ _ h3)
    exact .inr ⟨b, off, rfl, by have := hg.size; omega, fun i hi => (World.cell?_of_block (a := ⟨b, off + i, none⟩) hb).trans (hc i hi)⟩

theorem Rds.drewN {w : World} {v : Value} {n size : Nat} {xs : List Value} (k : Nat) (h : Rds w v n size xs) : Rds (w.drewN k) v n size xs := h
theorem Rds.take {w : World} {a : Option Addr} {n cap size m : Nat} {xs : List Value} (h : Rds w (.slice a n cap) n size xs) (hm : m ≤ n) : Rds w (.slice a m cap) m size (xs.take (m * size)) := by
  obtain ⟨h1, h2, a', cap', h3, h4, h5⟩ := h
  simp only [Value.slice.injEq] at h3
  obtain ⟨rfl, _, rfl⟩ := h3
  have hmul : m * size ≤ n * size := Nat.mul_le_mul_right _ hm
  refine ⟨by rw [List.length_take]; omega, by omega, _, _, rfl, by omega, ?_⟩
  rcases h5 with h5 | ⟨b, off, rfl, hlt, hc⟩
  · exact .inl (by omega)
  · exact .inr ⟨b, off, rfl, hlt, fun i hi => by rw [hc i (by omega), List.getElem?_take_of_lt hi]⟩
theorem Rds.drop {w : World} {b off n cap size m cap' : Nat} {xs : List Value} {a' : Option Addr} (h : Rds w (.slice (some ⟨b, off, none⟩) n cap) n size xs) (hm : m ≤ n) (hc' : n - m ≤ cap') (ha : m < n → a' = some ⟨b, off + m * size, none⟩) :
    Rds w (.slice a' (n - m) cap') (n - m) size (xs.drop (m * size)) := by
  obtain ⟨h1, h2, a2, cap2, h3, h4, h5⟩ := h
  simp only [Value.slice.injEq] at h3
  obtain ⟨rfl, _, rfl⟩ := h3
  refine ⟨by rw [List.length_drop, h1, Nat.sub_mul], by omega, _, _, rfl, hc', ?_⟩
  by_cases hmn : m < n
  · rw [ha hmn]
    rcases h5 with h5 | ⟨b', off', hb, hlt, hc⟩
    · omega
    · simp only [Option.some.injEq, Addr.mk.injEq] at hb
      obtain ⟨rfl, rfl, _⟩ := hb
      refine .inr ⟨_, _, rfl, hlt, fun i hi => ?_⟩
      rw [Nat.sub_mul] at hi
      rw [Nat.add_assoc, hc _ (by omega), List.getElem?_drop]
  · exact .inl (by omega)
theorem bytes_ext {a b : ByteArray} (h : a.data.toList = b.data.toList) : a = b := by
  obtain ⟨⟨a⟩⟩ := a; obtain ⟨⟨b⟩⟩ := b; simp at h; rw [h]
theorem str_eq {a b : ByteArray} (h : a = b) : (a.toList == b.toList) = true := by rw [h]; simp
theorem str_ne {a b : ByteArray} (h : a ≠ b) : (a.toList == b.toList) = false := by
  rw [Bool.eq_false_iff]
  intro e
  rw [beq_iff_eq, ByteArray.toList_eq, ByteArray.toList_eq] at e
  exact h (bytes_ext e)
theorem Addr.add_spot (b off i : Nat) : (⟨b, off, none⟩ : Addr).add i = ⟨b, off + i, none⟩ := by
  unfold Addr.add; split <;> simp_all

/-! Only block g, of those that were there, may have been written. -/
section
variable {w w1 w2 : World} {r : Option Nat}
theorem gb_trans (h : w.grownBy w1 r) (h' : w1.grownBy w2 r) : w.grownBy w2 r :=
  ⟨h'.os.trans h.os, h'.tape.trans h.tape, h'.output.trans h.output, Nat.le_trans h.size h'.size, fun k hk hr => (h'.block k (Nat.lt_of_lt_of_le hk h.size) hr).trans (h.block k hk hr)⟩
theorem gb_set {g j : Nat} {u : Value} (h : w.grownBy w1 (some g)) : w.grownBy (w1.setCell ⟨g, j, none⟩ u) (some g) :=
  gb_trans h ⟨rfl, rfl, rfl, by simp, fun k _ hr => Below.heap_setCell _ _ _ _ (fun e => hr (by rw [e]))⟩
theorem gb_new {a : Addr} {u : Value} (ha : w.heap.size ≤ a.block) (h : w.grownBy w1 r) : w.grownBy (w1.setCell a u) r :=
  ⟨h.os, h.tape, h.output, by have := h.size; simpa using this, fun k hk hr => (Below.heap_setCell _ _ _ _ (by omega)).trans (h.block k hk hr)⟩
theorem gb_alloc {o : Obj} (h : w.grownBy w1 r) : w.grownBy (w1.alloc o) r :=
  gb_trans h ⟨rfl, rfl, rfl, by simp, fun k hk _ => Below.heap_alloc _ _ _ hk⟩
theorem gb_drewN {n : Nat} (h : w.grownBy w1 r) : w.grownBy (w1.drewN n) r := ⟨h.os, h.tape, h.output, h.size, h.block⟩
theorem gb_drew (h : w.grownBy w1 r) : w.grownBy w1.drew r := ⟨h.os, h.tape, h.output, h.size, h.block⟩
theorem gb_below {B : Nat} (hb : Below B w1 w2) (hB : w.heap.size ≤ B) (h : w.grownBy w1 r) : w.grownBy w2 r :=
  ⟨hb.os.trans h.os, hb.tape.trans h.tape, hb.output.trans h.output, Nat.le_trans h.size hb.size, fun k hk hr => (hb.block k (by omega)).trans (h.block k hk hr)⟩
/-- A callee that may have written block g alone, where g lies above the line. -/
theorem below_gb {B g : Nat} (hg : w1.grownBy w2 (some g)) (hB : B ≤ w1.heap.size) (hBg : B ≤ g) (h : Below B w w1) : Below B w w2 :=
  h.grown hg hB (by intro k hk; cases hk; exact hBg)
theorem Blk.gb {b g : Nat} {cs : Array Value} {T : TypeId} (hg : w1.grownBy w2 (some g)) (hbg : b ≠ g) (h : Blk w1 b cs T) : Blk w2 b cs T := by
  have := h.lt; unfold Blk at h ⊢; rw [hg.block b this (by simpa using hbg)]; exact h
theorem Own.gb {b g n cap : Nat} {E : TypeId} {size : Nat} {xs : List Value} (hg : w1.grownBy w2 (some g)) (hbg : b ≠ g) (h : Own w1 b n cap E size xs) : Own w2 b n cap E size xs := by
  obtain ⟨cur, hb', r1, r2, r3, r4⟩ := h.blk
  exact Own.ofBlk h.len (Blk.gb hg hbg hb') r1 r2 r3 r4
end

/-! What is tried over and over, each as the default of a hypothesis. -/
theorem grownA {P : Prop} (h : P := by (repeat' (first | (with_reducible exact Below.refl _ _) | (with_reducible assumption) | (with_reducible refine Below.drew ?_) | (with_reducible refine below_drewN ?_ _) | (with_reducible refine Below.alloc ?_ ?_ _) | (with_reducible refine Below.setCell ?_ ?_ _) | (refine Below.trans ?_ (Below.mono (by assumption) (by first | omega | (with_reducible exact Below.size (by assumption)) | (simp; done) | (simp; omega)))) | (with_reducible exact Nat.le_refl _) | omega | (with_reducible exact Below.size (by assumption)) | (simp only [World.size_alloc, World.size_setCell, World.size_drew]; omega) | (simp; done) | (simp; omega)))) : P := h
theorem keepA {P : Prop} (h : P := by ((repeat' (first | (with_reducible assumption) | (with_reducible apply And.intro) | (with_reducible apply keep_drew) | (with_reducible apply keep_drewN) | (simp [go_sem, World.cell?_alloc_past]; done) | (simp [*]; done) | (with_reducible apply keep_other (by first | (simp; done) | (simp; omega) | omega)) | (with_reducible apply keep_below (by assumption)) | (with_reducible apply keep_alloc))))) : P := h
theorem againA {P : Prop} (h : P := by (try dsimp only); ((repeat' (first | (with_reducible assumption) | (with_reducible apply And.intro) | (with_reducible apply keep_drew) | (with_reducible apply keep_drewN) | (simp [go_sem, World.cell?_alloc_past]; done) | (simp [*]; done) | (with_reducible apply keep_other (by first | (simp; done) | (simp; omega) | omega)) | (with_reducible apply keep_below (by assumption)) | (with_reducible apply keep_alloc))))) : P := h
theorem ownA {P : Prop} (h : P := by (repeat' (first | (with_reducible assumption) | rfl | omega | (with_reducible apply Own.set) | (with_reducible apply Own.other (by first | (simp; done) | (simp; omega) | omega)) | (with_reducible apply Own.alloc) | (with_reducible apply Own.drewN) | (with_reducible apply Own.drew) | (with_reducible apply Own.below) | (simp; omega)))) : P := h
theorem blkA {P : Prop} (h : P := by (repeat' (first | (with_reducible assumption) | rfl | omega | (with_reducible exact Blk.new (by first | rfl | (simp; done) | (simp; omega))) | (with_reducible apply Blk.set) | (with_reducible apply Blk.other (by first | (simp; done) | (simp; omega) | omega)) | (with_reducible apply Blk.alloc) | (with_reducible apply Blk.drewN) | (with_reducible apply Blk.drew) | (with_reducible apply Blk.below) | (simp; omega)))) : P := h
theorem gbA {P : Prop} (h : P := by (repeat' (first | (with_reducible assumption) | (with_reducible exact World.grownBy.refl _ _) | omega | (with_reducible apply gb_set) | (with_reducible apply gb_new (by first | omega | (simp; done) | (simp; omega))) | (with_reducible apply gb_alloc) | (with_reducible apply gb_drewN) | (with_reducible apply gb_drew) | (with_reducible apply gb_below (by assumption)) | (simp; omega)))) : P := h
theorem zp1 {α : Type} (l : List α) (i : Nat) (a : α) : l.toArray.setIfInBounds i a = (l.set i a).toArray := by simp
theorem zp2 {α : Type} (x y : α) (l : List α) : (x :: l).set 0 y = y :: l := rfl
theorem zp3 {α : Type} (x y : α) (l : List α) (n : Nat) : (x :: l).set (n + 1) y = x :: l.set n y := rfl

end Go.Proofs.YtedadhoneebfnaaGreatDoor
