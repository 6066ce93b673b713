/- Exchanges in memory: what is owned, and how it is carried on. -/
import Derived.Test.YtedadhoneebfnaaCc
import Derived.Test.YtedadhoneebfnaaStr
import Derived.Test.YtedadhoneebfnaaDd
import Derived.Test.YtedadhoneebfnaaStep
import Derived.Test.YtedadhoneebfnaaRows
import Derived.Handy
set_option linter.unusedSimpArgs false
set_option linter.unusedVariables false
namespace Go.Proofs.Ytedadhoneebfnaa
open Go.RowKit

theorem Blk.five {w : World} {b : Nat} {x0 x1 x2 x3 x4 : Value} {T : TypeId} (h : Blk w b #[x0, x1, x2, x3, x4] T) : w.cell? ⟨b, 0, none⟩ = some x0 ∧ w.cell? ⟨b, 1, none⟩ = some x1 ∧ w.cell? ⟨b, 2, none⟩ = some x2 ∧ w.cell? ⟨b, 3, none⟩ = some x3 ∧ w.cell? ⟨b, 4, none⟩ = some x4 ∧ w.frozen? ⟨b, 0, none⟩ = false ∧ w.frozen? ⟨b, 1, none⟩ = false ∧ w.frozen? ⟨b, 2, none⟩ = false ∧ w.frozen? ⟨b, 3, none⟩ = false ∧ w.frozen? ⟨b, 4, none⟩ = false ∧ b < w.heap.size :=
  ⟨h.at 0, h.at 1, h.at 2, h.at 3, h.at 4, h.free 0, h.free 1, h.free 2, h.free 3, h.free 4, h.lt⟩
/-- The plan and the calls of an exchange are owned, apart from each other. -/
structure ExOwn (w : World) (base : Nat) (vp vc : Value) (ps : List ByteArray) (cs : List Cl) : Prop where
  plan : w.ownsRow base 9 1 vp ps.length (strs ps)
  calls : w.ownsRow base 57 3 vc cs.length (ccells cs)
  apart : vp.ownBlock = none ∨ vp.ownBlock ≠ vc.ownBlock
/-- The plan and the calls read. -/
structure ExRd (w : World) (vp vc : Value) (ps : List ByteArray) (cs : List Cl) : Prop where
  plan : Rds w vp ps.length 1 (strs ps)
  calls : Rds w vc cs.length 3 (ccells cs)
section
variable {w w' : World} {base : Nat} {vp vc : Value} {ps : List ByteArray} {cs : List Cl}
theorem ExOwn.rd (h : ExOwn w base vp vc ps cs) : ExRd w vp vc ps cs := ⟨Rds.ofOwns h.plan, Rds.ofOwns h.calls⟩
theorem ExOwn.below (hb : Below w.heap.size w w') (h : ExOwn w base vp vc ps cs) : ExOwn w' base vp vc ps cs := ⟨owns_below hb h.plan, owns_below hb h.calls, h.apart⟩
theorem ExOwn.lower {base' : Nat} (hb : base' ≤ base) (h : ExOwn w base vp vc ps cs) : ExOwn w base' vp vc ps cs := ⟨owns_base hb h.plan, owns_base hb h.calls, h.apart⟩
theorem ExRd.below (hb : Below w.heap.size w w') (h : ExRd w vp vc ps cs) : ExRd w' vp vc ps cs := ⟨h.plan.below hb, h.calls.below hb⟩
theorem ExRd.drewN (k : Nat) (h : ExRd w vp vc ps cs) : ExRd (w.drewN k) vp vc ps cs := ⟨h.plan.drewN k, h.calls.drewN k⟩
theorem ExOwn.drewN (k : Nat) (h : ExOwn w base vp vc ps cs) : ExOwn (w.drewN k) base vp vc ps cs := ⟨h.plan, h.calls, h.apart⟩
theorem ExOwn.nothing (w : World) (base : Nat) : ExOwn w base (.slice none 0 0) (.slice none 0 0) [] [] := ⟨World.ownsRow_nil _ _ _ _, World.ownsRow_nil _ _ _ _, .inl rfl⟩
/-- One block alone was written, which is none of these. -/
theorem ExOwn.kept {r : Option Nat} (hg : w.grownBy w' r) (h1 : vp.ownBlock = Option.none ∨ vp.ownBlock ≠ r) (h2 : vc.ownBlock = Option.none ∨ vc.ownBlock ≠ r) (h : ExOwn w base vp vc ps cs) : ExOwn w' base vp vc ps cs :=
  ⟨h.plan.kept hg h1, h.calls.kept hg h2, h.apart⟩
theorem far_old {w0 : World} {b0 n : Nat} {E : TypeId} {size : Nat} {v : Value} {xs : List Value} (h : w0.ownsRow b0 E size v n xs) {B : Nat} (hB : w0.heap.size ≤ B) {u : Value} (hu : ∀ k, u.ownBlock = some k → B ≤ k) : v.ownBlock = Option.none ∨ v.ownBlock ≠ u.ownBlock := by
  cases hv : v.ownBlock with
  | none => exact .inl rfl
  | some k => exact .inr fun e => by have h1 := own_lt h k hv; have h2 := hu k e.symm; omega
theorem far_new {w0 : World} {b0 n : Nat} {E : TypeId} {size : Nat} {v : Value} {xs : List Value} (h : w0.ownsRow b0 E size v n xs) {B : Nat} (hB : B ≤ b0) {u : Value} (hu : ∀ k, u.ownBlock = some k → k < B) : v.ownBlock = Option.none ∨ v.ownBlock ≠ u.ownBlock := by
  cases hv : v.ownBlock with
  | none => exact .inl rfl
  | some k => exact .inr fun e => by have h1 := own_ge h k hv; have h2 := hu k e.symm; omega
/-- Two blocks alone may have been written. -/
def Gb2 (w w' : World) (r1 r2 : Option Nat) : Prop := ∃ wm, w.grownBy wm r1 ∧ wm.grownBy w' r2
theorem Gb2.below {B : Nat} {w0 : World} {r1 r2 : Option Nat} (h : Gb2 w w' r1 r2) (hB : B ≤ w.heap.size) (h1 : ∀ k, r1 = some k → B ≤ k) (h2 : ∀ k, r2 = some k → B ≤ k) (hb : Below B w0 w) : Below B w0 w' := by
  obtain ⟨wm, g1, g2⟩ := h
  exact (hb.grown g1 hB h1).grown g2 (Nat.le_trans hB g1.size) h2
theorem Gb2.size {r1 r2 : Option Nat} (h : Gb2 w w' r1 r2) : w.heap.size ≤ w'.heap.size := by
  obtain ⟨wm, g1, g2⟩ := h
  exact Nat.le_trans g1.size g2.size
theorem ExOwn.kept2 {r1 r2 : Option Nat} (hg : Gb2 w w' r1 r2) (a1 : vp.ownBlock = Option.none ∨ vp.ownBlock ≠ r1) (a2 : vc.ownBlock = Option.none ∨ vc.ownBlock ≠ r1) (a3 : vp.ownBlock = Option.none ∨ vp.ownBlock ≠ r2) (a4 : vc.ownBlock = Option.none ∨ vc.ownBlock ≠ r2) (h : ExOwn w base vp vc ps cs) : ExOwn w' base vp vc ps cs := by
  obtain ⟨wm, g1, g2⟩ := hg
  exact (h.kept g1 a1 a2).kept g2 a3 a4
theorem owns_kept2 {r1 r2 : Option Nat} (hg : Gb2 w w' r1 r2) {n : Nat} {E : TypeId} {size : Nat} {v : Value} {xs : List Value} (a1 : v.ownBlock = Option.none ∨ v.ownBlock ≠ r1) (a3 : v.ownBlock = Option.none ∨ v.ownBlock ≠ r2) (h : w.ownsRow base E size v n xs) : w'.ownsRow base E size v n xs := by
  obtain ⟨wm, g1, g2⟩ := hg
  exact (h.kept g1 a1).kept g2 a3
end
/-- An exchange that has been made anew, as a value. -/
def ExAt (w' : World) (base : Nat) (v : Value) (O E M : Int) (ps : List ByteArray) (cs : List Cl) : Prop :=
  ∃ vp vc, v = .agg #[.int .i64 O, .int .i64 E, .int .i64 M, vp, vc] ∧ ExOwn w' base vp vc ps cs
/-- Slices of strings, each as long as there may be. -/
theorem StLen.set {ps : List ByteArray} (h : StLen ps) (k : Nat) {s : ByteArray} (hs : s.size ≤ maxLen) : StLen (ps.set k s) := by
  intro j t ht
  rw [List.getElem?_set] at ht
  split at ht
  · split at ht
    · cases ht; exact hs
    · cases ht
  · exact h j t ht

end Go.Proofs.Ytedadhoneebfnaa
