/- The draws of exchanges: what is drawn is owned and small. -/
import Derived.Test.YtedadhoneebfnaaXe
set_option linter.unusedSimpArgs false
set_option linter.unusedVariables false
namespace Go.Proofs.Ytedadhoneebfnaa
open Go.RowKit

/-- An exchange that was drawn: it reads, and it is small. -/
structure Drawn (w w' : World) (vp vc : Value) (ps : List ByteArray) (cs : List Cl) : Prop where
 own : ExOwn w' w.heap.size vp vc ps cs
 ln : ps.length ≤ 12
 cn : cs.length ≤ 14
 st : StSmall ps
 bel : Below w.heap.size w w'
/-- The reader and the exchange in its box. -/
structure DrB (w W : World) (rb q eb : Nat) (O E M : Int) (vp vc : Value) (ps : List ByteArray) (cs : List Cl) : Prop where
 box : Blk W eb #[.int .i64 O, .int .i64 E, .int .i64 M, vp, vc] 33
 own : ExOwn W (rb + 1) vp vc ps cs
 ap1 : vp.ownBlock = none ∨ vp.ownBlock ≠ some eb
 ap2 : vc.ownBlock = none ∨ vc.ownBlock ≠ some eb
 rb1 : vp.ownBlock = none ∨ vp.ownBlock ≠ some rb
 rb2 : vc.ownBlock = none ∨ vc.ownBlock ≠ some rb
 ln : ps.length ≤ 12
 cn : cs.length ≤ 14
 st : StSmall ps
 rdr : Rdr W rb q
 bel : Below w.heap.size w W
 big : w.heap.size + 1 ≤ rb
 far : rb < eb
section
variable {w W W' : World} {rb q q' eb : Nat} {O E M : Int} {vp vc : Value} {ps : List ByteArray} {cs : List Cl}
theorem DrB.pick (h : DrB w W rb q eb O E M vp vc ps cs) (hr : Rdr W' rb q') (hg : W.grownBy W' (some rb)) : DrB w W' rb q' eb O E M vp vc ps cs := by
 have h1 := h.far
 have h2 := h.big
 have h3 := h.bel.size
 exact ⟨h.box.gb hg (by omega), h.own.kept hg h.rb1 h.rb2, h.ap1, h.ap2, h.rb1, h.rb2, h.ln, h.cn, h.st, hr, below_gb hg h3 (by omega) h.bel, h2, h1⟩
theorem DrB.drew (h : DrB w W rb q eb O E M vp vc ps cs) : DrB w W.drew rb q eb O E M vp vc ps cs := ⟨h.box.drew, h.own.drewN 1, h.ap1, h.ap2, h.rb1, h.rb2, h.ln, h.cn, h.st, h.rdr.drew, h.bel.drew, h.big, h.far⟩
theorem DrB.below (h : DrB w W rb q eb O E M vp vc ps cs) (hb : Below W.heap.size W W') : DrB w W' rb q eb O E M vp vc ps cs :=
 ⟨h.box.belowAll hb, h.own.below hb, h.ap1, h.ap2, h.rb1, h.rb2, h.ln, h.cn, h.st, h.rdr.below hb h.rdr.lt, h.bel.trans (Below.mono hb h.bel.size), h.big, h.far⟩
theorem DrB.alloc (h : DrB w W rb q eb O E M vp vc ps cs) (ob : Obj) : DrB w (W.alloc ob) rb q eb O E M vp vc ps cs := h.below ((Below.refl _ _).alloc (Nat.le_refl _) _)
/-- What l20Exchange leaves, in its box. -/
theorem DrB.of {w0 w1 W : World} (hr : w.heap.size + 1 ≤ rb) (hrw : rb < w1.heap.size) (hb : Below w.heap.size w w1) (hg : w1.grownBy W (some rb)) (hrd : Rdr W rb q) (ho : ExOwn W w1.heap.size vp vc ps cs) (hl : ps.length ≤ 12) (hc : cs.length ≤ 14) (hs : StSmall ps) :
  DrB w (W.alloc (.cells #[.int .i64 O, .int .i64 E, .int .i64 M, vp, vc] 33)) rb q W.heap.size O E M vp vc ps cs := by
 have h1 := hb.size
 have h2 := hg.size
 exact ⟨Blk.new rfl, (ho.lower (show rb + 1 ≤ w1.heap.size by omega)).below (by (exact grownA)), own_new8 ho.plan, own_new8 ho.calls, far_of ho.plan hrw, far_of ho.calls hrw, hl, hc, hs, hrd.alloc, (below_gb hg h1 (by omega) hb).alloc (by omega) _, hr, by omega⟩
/-- Stored into the result. -/
theorem DrB.done (h : DrB w W rb q eb O E M vp vc ps cs) (y0 y1 y2 y3 y4 : Value) : Drawn w (((((W.setCell ⟨w.heap.size, 0, none⟩ y0).setCell ⟨w.heap.size, 1, none⟩ y1).setCell ⟨w.heap.size, 2, none⟩ y2).setCell ⟨w.heap.size, 3, none⟩ y3).setCell ⟨w.heap.size, 4, none⟩ y4) vp vc ps cs :=
 by
 have h2 := h.big
 exact ⟨(h.own.result _ _ _ _ _ (by omega)).lower (by omega), h.ln, h.cn, h.st, five_below _ _ _ _ _ h.bel (Nat.le_refl _)⟩
theorem DrB.low (h : DrB w W rb q eb O E M vp vc ps cs) {b : Nat} (hb : b ≤ rb) : (vp.ownBlock = none ∨ vp.ownBlock ≠ some b) ∧ (vc.ownBlock = none ∨ vc.ownBlock ≠ some b) := ⟨far_of h.own.plan (by omega), far_of h.own.calls (by omega)⟩
end
/-- Three cells of a block that is none of the exchange's. -/
theorem Drawn.deed {w W : World} {vp vc : Value} {ps : List ByteArray} {cs : List Cl} (h : Drawn w W vp vc ps cs) (b : Nat) (k l : Int) (s : ByteArray) (hb : w.heap.size ≤ b) (h1 : vp.ownBlock = none ∨ vp.ownBlock ≠ some b) (h2 : vc.ownBlock = none ∨ vc.ownBlock ≠ some b) :
  Drawn w (((W.setCell ⟨b, 0, none⟩ (.int .i64 k)).setCell ⟨b, 1, none⟩ (.int .i64 l)).setCell ⟨b, 2, none⟩ (.string s)) vp vc ps cs := by
 have hg : W.grownBy (((W.setCell ⟨b, 0, none⟩ (.int .i64 k)).setCell ⟨b, 1, none⟩ (.int .i64 l)).setCell ⟨b, 2, none⟩ (.string s)) (some b) := gb_set (gb_set (gb_set (World.grownBy.refl _ _)))
 exact ⟨h.own.kept hg h1 h2, h.ln, h.cn, h.st, ((h.bel.setCell hb _).setCell hb _).setCell hb _⟩

/-- An exchange in a box, that reads. -/
structure EBx (W : World) (b : Nat) (O E M : Int) (vp vc : Value) (ps : List ByteArray) (cs : List Cl) : Prop where
 box : Blk W b #[.int .i64 O, .int .i64 E, .int .i64 M, vp, vc] 33
 rd : ExRd W vp vc ps cs
theorem EBx.below {W W' : World} {b : Nat} {O E M : Int} {vp vc : Value} {ps : List ByteArray} {cs : List Cl} (h : EBx W b O E M vp vc ps cs) (hb : Below W.heap.size W W') : EBx W' b O E M vp vc ps cs := ⟨h.box.belowAll hb, h.rd.below hb⟩
theorem EBx.alloc {W : World} {b : Nat} {O E M : Int} {vp vc : Value} {ps : List ByteArray} {cs : List Cl} (h : EBx W b O E M vp vc ps cs) (ob : Obj) : EBx (W.alloc ob) b O E M vp vc ps cs := h.below ((Below.refl _ _).alloc (Nat.le_refl _) _)
theorem EBx.new {W : World} {O E M : Int} {vp vc : Value} {ps : List ByteArray} {cs : List Cl} (h : ExRd W vp vc ps cs) : EBx (W.alloc (.cells #[.int .i64 O, .int .i64 E, .int .i64 M, vp, vc] 33)) W.heap.size O E M vp vc ps cs := ⟨Blk.new rfl, h.below ((Below.refl _ _).alloc (Nat.le_refl _) _)⟩

end Go.Proofs.Ytedadhoneebfnaa
