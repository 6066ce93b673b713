/- Joined texts: Cp, Md, Mf. -/
import Derived.Test.YtedadhoneebfnaaDoorJ3
import Derived.Test.YtedadhoneebfnaaDoorJ6
import Derived.Laws.CopyRow
import Derived.Laws.CopyOwn
import Derived.Laws.MakeOwn
set_option linter.unusedSimpArgs false
set_option linter.unusedVariables false
/- Contract of copyCalls (program); make with room to spare and copy at structs. -/
namespace Go.Proofs.YtedadhoneebfnaaDoor
open Go.RowKit

end Go.Proofs.YtedadhoneebfnaaDoor

/- Contracts of the program's helpers for moving calls: middlesFrom, middlesTo, firstUnused, callFrom, callTo, linesFree. -/
namespace Go.Proofs.YtedadhoneebfnaaDoor
open Go.RowKit

theorem cl_get {w : World} {b off n k : Nat} {cs : List Cl} {c : Cl} (h : ∀ i, i < n * 3 → w.cell? ⟨b, off + i, none⟩ = (ccells cs)[i]?) (hc : cs[k]? = some c) (hk : k < n) :
  w.cell? ⟨b, off + k * 3, none⟩ = some (.int .i64 c.1) ∧ w.cell? ⟨b, off + k * 3 + 1, none⟩ = some (.int .i64 c.2.1) ∧ w.cell? ⟨b, off + k * 3 + 2, none⟩ = some (.int .i64 c.2.2) := by
 obtain ⟨g1, g2, g3⟩ := ccells_at cs k c hc
 exact ⟨by rw [h _ (by omega), g1], by rw [Nat.add_assoc, h _ (by omega), g2], by rw [Nat.add_assoc, h _ (by omega), g3]⟩
theorem cl_below {w wr : World} {B b off n : Nat} {cs : List Cl} (hbel : Below B w wr) (hb : b < B) (h : ∀ i, i < n * 3 → w.cell? ⟨b, off + i, none⟩ = (ccells cs)[i]?) : ∀ i, i < n * 3 → wr.cell? ⟨b, off + i, none⟩ = (ccells cs)[i]? :=
 fun i hi => (hbel.cell (p := ⟨b, off + i, none⟩) hb).trans (h i hi)
end Go.Proofs.YtedadhoneebfnaaDoor

/- Contracts of MiddleFree (program). -/
namespace Go.Proofs.YtedadhoneebfnaaDoor
open Go.RowKit

def ivs (zs : List Int) : List Value := zs.map (Value.int .i64)
theorem ivs_at (zs : List Int) (j : Nat) (z : Int) (h : zs[j]? = some z) : (ivs zs)[j]? = some (.int .i64 z) := by simp [ivs, h]
theorem ivs_snoc (zs : List Int) (z : Int) : ivs zs ++ [.int .i64 z] = ivs (zs ++ [z]) := by simp [ivs]
theorem infoI8 : (Tryd.prog.info? 3).map (fun i => (i.zero, i.size, i.bytes)) = some (some (.int .i64 0), 1, 8) := by kernel_rfl
/-- Numbers made anew. -/
def IvOut (zs : List Int) (w : World) (e : Ending) (w' : World) : Prop := ∃ v, e = .returned v ∧ w'.ownsRow w.heap.size 3 1 v zs.length (ivs zs) ∧ Below w.heap.size w w'
theorem new1 (w : World) (T : TypeId) (x0 : Value) (b : Nat) (hb : b = w.heap.size) : ∀ (j : Nat) (u : Value), [x0][j]? = some u → (w.alloc (.cells #[x0] T)).cell? ((⟨b, 0, none⟩ : Addr).add j) = some u := by
 subst hb
 intro j u hu
 match j with
 | 0 => simp at hu; subst hu; rw [Addr.add_spot, World.cell?_alloc_at _ _ _ _ rfl]; rfl
 | j + 1 => simp at hu
theorem one1 (z : Int) : ∀ u ∈ [Value.int .i64 z], u.oneCell' = true := by intro u hu; simp at hu; subst hu; rfl
def freeTo (E M : Int) (cs : List Cl) (x y : Int) (k : Nat) : List Int := ((mids M).take k).filter fun m => !usedB E cs false (x / E) m && !usedB E cs true (y / E) m
theorem freeTo_zero (E M : Int) (cs : List Cl) (x y : Int) : freeTo E M cs x y 0 = [] := by simp [freeTo]
theorem freeTo_all (E : Int) (m : Nat) (cs : List Cl) (x y : Int) : freeTo E m cs x y m = freeL E m cs x y := by
 unfold freeTo freeL
 rw [List.take_of_length_le (by rw [mids_len]; simp)]
theorem freeTo_len (E M : Int) (cs : List Cl) (x y : Int) (k : Nat) : (freeTo E M cs x y k).length ≤ k := by
 unfold freeTo
 exact Nat.le_trans (List.length_filter_le _ _) (by rw [List.length_take]; omega)
theorem freeTo_yes {E : Int} {m : Nat} {cs : List Cl} {x y : Int} {k : Nat} (hk : k < m) (h1 : usedB E cs false (x / E) k = false) (h2 : usedB E cs true (y / E) k = false) : freeTo E m cs x y (k + 1) = freeTo E m cs x y k ++ [(k : Int)] := by
 unfold freeTo
 rw [mids_take _ _ (by omega), List.filter_append]
 simp [h1, h2]
theorem freeTo_no {E : Int} {m : Nat} {cs : List Cl} {x y : Int} {k : Nat} (hk : k < m) (h : usedB E cs false (x / E) k = true ∨ usedB E cs true (y / E) k = true) : freeTo E m cs x y (k + 1) = freeTo E m cs x y k := by
 unfold freeTo
 rw [mids_take _ _ (by omega), List.filter_append]
 rcases h with h | h <;> simp [h]

end Go.Proofs.YtedadhoneebfnaaDoor
