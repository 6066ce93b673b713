/- The draw of a text: l20Spoil, DrawReadDeed. -/
import Derived.Test.YtedadhoneebfnaaGreatDoorDv
import Derived.Test.YtedadhoneebfnaaGreatDoorJ2
set_option linter.unusedSimpArgs false
set_option linter.unusedVariables false
namespace Go.Proofs.YtedadhoneebfnaaGreatDoor
open Go.RowKit

def sixes : Array Value := #[.string ⟨#[]⟩, .string ⟨#[48]⟩, .string ⟨#[32]⟩, .string ⟨#[10]⟩, .string ⟨#[51]⟩, .string ⟨#[100, 114, 111, 112]⟩]
theorem sixes_at (k : Int) (h0 : 0 ≤ k) (h1 : k < 6) : ∃ x : ByteArray, sixes[k.toNat]? = some (.string x) ∧ x.size ≤ 4 := by
 have : k = 0 ∨ k = 1 ∨ k = 2 ∨ k = 3 ∨ k = 4 ∨ k = 5 := by omega
 rcases this with rfl | rfl | rfl | rfl | rfl | rfl <;> exact ⟨_, rfl, by decide⟩
/-- What l20Spoil leaves. -/
def SpoilPost (rb p : Nat) (s : ByteArray) (w : World) (e : Ending) (w' : World) : Prop :=
 ∃ (t : ByteArray) (q : Nat), e = .returned (.string t) ∧ t.size ≤ 2 * s.size + 4 ∧ p ≤ q ∧ q ≤ p + 2 ∧ Rdr w' rb q ∧ w.grownBy w' (some rb)

set_option maxRecDepth 100000 in
set_option maxHeartbeats 4000000 in
theorem l20Spoil_any (rb p : Nat) (s : ByteArray) (w : World) (h : Rdr w rb p) (hp : p ≤ 1000000) (hs : s.size ≤ 1000000) :
  Calls Tryz.prog 52 #[.pointer (some ⟨rb, 0, none⟩), .string s] w (SpoilPost rb p s w) := by
 by_cases h0 : s.size = 0
 ·
  go_enter Tryz.func52, Tryz.ntmps52
  go_wp2
  go_returns
  exact ⟨⟨#[10]⟩, p, rfl, by show 1 ≤ _; omega, by omega, by omega, h, World.grownBy.refl _ _⟩
 ·
  go_enter Tryz.func52, Tryz.ntmps52
  go_wp2_with fail
  refine (pick_any rb p _ _ h (by omega) (by omega)).mono ?_
  rintro e w1 ⟨y, rfl, hya, hyb, hr1, hg1⟩
  obtain ⟨k, rfl⟩ := Int.eq_ofNat_of_zero_le hya
  have hk : k < s.size := by omega
  have hx1 : (s.extract 0 k).size ≤ s.size := by rw [ByteArray.size_extract]; omega
  have hx2 : (s.extract (k + 1) s.size).size ≤ s.size := by rw [ByteArray.size_extract]; omega
  have hrlt := hr1.lt
  have i1 : (0 : Int) ≤ (k : Int) := by omega
  have i2 : (k : Int) ≤ (s.size : Int) := by omega
  have i3 : (0 : Int) ≤ (k : Int) + 1 := by omega
  have i4 : (k : Int) + 1 ≤ (s.size : Int) := by omega
  have i5 : k + 1 ≤ s.size := hk
  have i6 : (k : Int) < (s.size : Int) := by omega
  have i7 : k ≤ s.size := by omega
  have i8 : IntKind.i64.wrap ((k : Int) + 1) = (k : Int) + 1 := IntWalk.i64_in _ (by omega)
  have i9 : ((k : Int) + 1).toNat = k + 1 := by omega
  clear h hya hyb
  have tok1 : True := trivial
  go_wp2_with fail
  go_region_with (first
   | (go_at_call 51; have _t := tok1; refine (pick_any rb (p + 1) _ _ ?hh (by omega) (by omega)).mono ?_; (case hh => first | exact hr1.drew | exact hr1.alloc.drew | exact hr1.drew.alloc); rintro e w6 ⟨y, rfl, hy0, hy1, hr6, hg6⟩; clear tok1; have hy : y < 6 := (by omega); have hz6 := hg6.size; (try simp only [World.size_alloc, World.size_drew] at hz6); have hgg : w.grownBy w6 (some rb) := (by first | exact gb_trans (gb_drew hg1) hg6 | exact gb_trans (gb_alloc (gb_drew hg1)) hg6); obtain ⟨x, hx, hxs⟩ := sixes_at y hy0 hy; (first | (have hS6 : Blk w6 w1.heap.size sixes 9 := Blk.gb hg6 (by omega) (Blk.new rfl)) | (have hS6 : Blk (w6.alloc (.cells sixes 9)) w6.heap.size sixes 9 := Blk.new rfl)); have hcell6 := (hS6.at y.toNat).trans hx; have hslt := hS6.lt; clear hg6 hy1 hS6 hx; unfold sixes at hcell6))
  all_goals
   have hx3 : (s.extract 0 k ++ x).size ≤ s.size + 4 := by rw [ByteArray.size_append]; omega
   have hx4 : ((s.extract 0 k ++ x) ++ s.extract (k + 1) s.size).size ≤ 2 * s.size + 4 := by rw [ByteArray.size_append]; omega
   go_wp2
   go_returns
   first
    | exact ⟨_, p + 2, rfl, hx4, by omega, by omega, hr6, hgg⟩
    | exact ⟨_, p + 2, rfl, hx4, by omega, by omega, hr6.alloc, gb_alloc hgg⟩

end Go.Proofs.YtedadhoneebfnaaGreatDoor
