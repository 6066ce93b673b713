/- What the laws of ExLines keep in memory: an exchange and a row of texts beside it. -/
import Derived.Test.YtedadhoneebfnaaGreatDoorTo
import Derived.Test.YtedadhoneebfnaaGreatDoorJ14
set_option linter.unusedSimpArgs false
set_option linter.unusedVariables false
namespace Go.Proofs.YtedadhoneebfnaaGreatDoor
open Go.RowKit

theorem linesR_small (O E M : Int) (ps : List ByteArray) (cs : List Cl) (ls : List ByteArray) : (linesR O E M ps cs ls).2.1.1.length ≤ 13 ∧ (linesR O E M ps cs ls).2.1.2.length ≤ 13 ∧ (linesR O E M ps cs ls).2.2.length ≤ 40 := by
 unfold linesR
 split
 ·
  rename_i hx
  have h := ok_small (lines_ok ((exB_iff _ _ _ _ _).1 hx.1) ls).1
  exact ⟨h.1, h.2, by show (linesQ E M ps cs ls).2.length ≤ 40; rw [lines_len]; exact hx.2⟩
 ·
  simp
theorem ap_sym {u v : Value} (h : u.ownBlock = none ∨ u.ownBlock ≠ v.ownBlock) : v.ownBlock = none ∨ v.ownBlock ≠ u.ownBlock := by
 rcases h with h | h
 ·
  cases hv : v.ownBlock with
  | none => exact .inl rfl
  | some k => exact .inr (fun e => by rw [h] at e; cases e)
 ·
  exact .inr (fun e => h e.symm)
theorem own_ty {w : World} {base n b : Nat} {E T : TypeId} {size : Nat} {v : Value} {xs : List Value} {cs : Array Value} (h : w.ownsRow base E size v n xs) (hb : Blk w b cs T) (hT : T ≠ E) : v.ownBlock = none ∨ v.ownBlock ≠ some b := by
 rcases h.2 with ⟨rfl, _⟩ | ⟨g, cap, cur, rfl, _, hg, _⟩
 ·
  exact .inl rfl
 ·
  refine .inr fun e => ?_
  simp [Value.ownBlock] at e
  subst e
  unfold Blk at hb
  rw [hg] at hb
  simp at hb
  exact hT hb.2.symm
/-- An exchange made behind world W0, in a box of its own, and a row of texts. -/
structure LnRes (W0 W : World) (b : Nat) (O E M : Int) (vq vr va : Value) (ps : List ByteArray) (cs : List Cl) (av : List ByteArray) : Prop where
 res : ExRes W0 W b O E M vq vr ps cs
 row : W.ownsRow W0.heap.size 9 1 va av.length (strs av)
 apP : vq.ownBlock = none ∨ vq.ownBlock ≠ va.ownBlock
section
variable {W0 W W' : World} {b B : Nat} {O E M : Int} {vq vr va : Value} {ps : List ByteArray} {cs : List Cl} {av : List ByteArray}
theorem LnRes.mkA (hb : Below W0.heap.size W0 W) (ho : ExOwn W B vq vr ps cs) (hr : W.ownsRow B 9 1 va av.length (strs av)) (ap : vq.ownBlock = none ∨ vq.ownBlock ≠ va.ownBlock) (hB : W0.heap.size ≤ B) : LnRes W0 (W.alloc (.cells #[.int .i64 O, .int .i64 E, .int .i64 M, vq, vr] 33)) W.heap.size O E M vq vr va ps cs av :=
 ⟨ExRes.mkA hb ho hB, owns_base hB (hr.alloc _), ap⟩
theorem LnRes.mkB {z0 z1 z2 z3 z4 : Value} (hb : Below W0.heap.size W0 W) (hX : Blk W b #[z0, z1, z2, z3, z4] 33) (hbig : W0.heap.size ≤ b) (ho : ExOwn W B vq vr ps cs) (hr : W.ownsRow B 9 1 va av.length (strs av)) (ap : vq.ownBlock = none ∨ vq.ownBlock ≠ va.ownBlock) (hB : b < B) :
  LnRes W0 (((((W.setCell ⟨b, 0, none⟩ (.int .i64 O)).setCell ⟨b, 1, none⟩ (.int .i64 E)).setCell ⟨b, 2, none⟩ (.int .i64 M)).setCell ⟨b, 3, none⟩ vq).setCell ⟨b, 4, none⟩ vr) b O E M vq vr va ps cs av :=
 ⟨ExRes.mkB hb hX hbig ho hB, owns_base (by omega) (hr.kept (five_gb _ _ _ _ _ _ _) (far_of hr hB)), ap⟩
end

end Go.Proofs.YtedadhoneebfnaaGreatDoor
