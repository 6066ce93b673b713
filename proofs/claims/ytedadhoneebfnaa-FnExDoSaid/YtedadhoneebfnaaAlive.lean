/- alive answers true. -/
import Derived.Test.YtedadhoneebfnaaJ1
import Derived.Test.YtedadhoneebfnaaRows
import Derived.Handy
set_option linter.unusedSimpArgs false
set_option linter.unusedVariables false
namespace Go.Proofs.Ytedadhoneebfnaa
open Go.RowKit

/-- isOrder of two numbers. -/
theorem isOrder2 (b : Nat) (x y : Int) (w : World) (hB : Blk w b #[.int .i64 x, .int .i64 y] 3) (r : Bool) (hx : x = 1) (hy : y = 0 ∧ r = true ∨ y = 1 ∧ r = false) :
  Calls Try.prog 110 #[.slice (some ⟨b, 0, none⟩) 2 2] w fun e w' => e = .returned (.bool r) ∧ Below w.heap.size w w' := by
 have hmk : ∀ w : World, (Instr.makeSlice 90 (.int .i64 2) (.int .i64 2)).run Try.prog w = .ok (.slice (some ⟨w.heap.size, 0, none⟩) 2 2) (w.alloc (.cells #[.bool false, .bool false] 4)) := fun _ => by kernel_rfl
 obtain ⟨c0, c1, f0, f1, hl⟩ := hB.two
 subst hx
 rcases hy with ⟨rfl, rfl⟩ | ⟨rfl, rfl⟩
 ·
  go_enter Try.func110, Try.ntmps110
  go_wp2
  go_rounds 3
  go_returns
  exact ⟨rfl, by (exact grownA)⟩
 ·
  go_enter Try.func110, Try.ntmps110
  go_wp2
  go_rounds 3
  go_returns
  exact ⟨rfl, by (exact grownA)⟩

/-- PermValid of two numbers. -/
theorem perm2 (b : Nat) (x y : Int) (w : World) (hB : Blk w b #[.int .i64 x, .int .i64 y] 3) (r : Bool) (hx : x = 1) (hy : y = 0 ∧ r = true ∨ y = 1 ∧ r = false) :
  Calls Try.prog 83 #[.slice (some ⟨b, 0, none⟩) 2 2] w fun e w' => e = .returned (.bool r) ∧ Below w.heap.size w w' := by
 go_enter Try.func83, Try.ntmps83
 go_wp2_with fail
 refine (isOrder2 b x y _ hB r hx hy).mono ?_
 rintro e w1 ⟨rfl, hb1⟩
 go_wp2
 go_returns
 exact ⟨rfl, hb1⟩

set_option maxHeartbeats 400000 in
theorem alive_any (w : World) : Calls Try.prog 41 #[] w fun e w' => e = .returned (.bool true) ∧ Below w.heap.size w w' := by
 have hB := Blk.new (w := w) (cs := #[.int .i64 1, .int .i64 0]) (T := 3) rfl
 go_enter Try.func41, Try.ntmps41
 go_wp2_with fail
 refine (perm2 _ _ _ _ hB true rfl (.inl ⟨rfl, rfl⟩)).mono ?_
 rintro e w1 ⟨rfl, hb1⟩
 have hz1 := hb1.size
 have hB1 := Blk.new (w := w1) (cs := #[.int .i64 1, .int .i64 1]) (T := 3) rfl
 simp only [World.size_alloc] at hz1
 go_wp2_with fail
 refine (perm2 _ _ _ _ hB1 false rfl (.inr ⟨rfl, rfl⟩)).mono ?_
 rintro e w2 ⟨rfl, hb2⟩
 go_wp2
 go_returns
 refine ⟨rfl, ?_⟩
 have hbel1 : Below w.heap.size w w1 := by (exact grownA)
 (exact grownA)

end Go.Proofs.Ytedadhoneebfnaa
