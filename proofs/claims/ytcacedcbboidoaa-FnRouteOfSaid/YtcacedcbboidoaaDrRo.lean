/- The draw of a table and a text: DrawRouteOf. -/
import Derived.Test.YtcacedcbboidoaaDrTab
import Derived.Test.YtcacedcbboidoaaStep
import Derived.Deep.RegionWith
set_option linter.unusedSimpArgs false
set_option linter.unusedVariables false
namespace Go.Proofs.Ytcacedcbboidoaa
open Go.RowKit

/-- A table and a text that were drawn. -/
def TabTxt (w : World) (e : Ending) (w' : World) : Prop :=
  ∃ (g n cap : Nat) (rs : List Rt) (s : ByteArray), e = .returned (.tuple #[.slice (some ⟨g, 0, none⟩) n cap, .string s]) ∧ n = rs.length ∧ w.heap.size ≤ g ∧ Own w' g n cap 32 2 (rcells rs) ∧ rs.length ≤ 10 ∧ RtSmall rs ∧ s.size ≤ 10 ∧ Below w.heap.size w w'

def sixes : Array Value := #[.string ⟨#[]⟩, .string ⟨#[]⟩, .string ⟨#[]⟩, .string ⟨#[]⟩, .string ⟨#[]⟩, .string ⟨#[55]⟩]
theorem sixes_at (k : Int) (h0 : 0 ≤ k) (h1 : k < 6) : ∃ x : ByteArray, sixes[k.toNat]? = some (.string x) ∧ x.size ≤ 1 := by
  have : k = 0 ∨ k = 1 ∨ k = 2 ∨ k = 3 ∨ k = 4 ∨ k = 5 := by omega
  rcases this with rfl | rfl | rfl | rfl | rfl | rfl <;> exact ⟨_, rfl, by decide⟩

set_option maxRecDepth 100000 in
set_option maxHeartbeats 2000000 in
theorem DrawRouteOf_any (a : Option Addr) (len cap : Nat) (zs : List Int) (w : World) (h : Code w a len cap zs) :
    Calls Try.prog 32 #[.slice a len cap] w (TabTxt w) := by
  go_enter Try.func32, Try.ntmps32
  go_wp2_with fail
  refine (open_any _ _ _ _ _ h).mono ?_
  rintro e w1 ⟨rb, rfl, hrb, hr, hb⟩
  have hz1 := hb.size
  go_wp2_with fail
  have hrlt := hr.lt
  have hbel1 : Below w.heap.size w w1 := hb
  have tok1 : True := trivial
  have tok2 : True := trivial
  have tok3 : True := trivial
  go_region_with (first
    | (go_at_call 81; have _t := tok1; refine (l20Table_any rb 0 _ _ ?hh (by omega) (by omega)).mono ?_; (case hh => first | exact hr.drew | exact hr.alloc.drew); rintro e w2 ⟨g, n, cap', rs, q2, rfl, hn2, hg2, hO2, hl2, hs2, hq2a, hq2b, hr2, hgb2⟩; clear tok1; have HN2 := Lib.hid hn2; clear hn2; have hz2 := hgb2.size; simp only [World.size_drew, World.size_alloc] at hz2 hg2; have hbel2 : Below w.heap.size w w2 := below_gb hgb2 (by first | omega | (simp; omega)) hrb (by (repeat' (first | (with_reducible exact Below.refl _ _) | (with_reducible assumption) | (with_reducible refine Below.drew ?_) | (with_reducible refine below_drewN ?_ _) | (with_reducible refine Below.alloc ?_ ?_ _) | (with_reducible refine Below.setCell ?_ ?_ _) | (refine Below.trans ?_ (Below.mono (by assumption) (by first | omega | (with_reducible exact Below.size (by assumption)) | (simp; done) | (simp; omega)))) | (with_reducible exact Nat.le_refl _) | omega | (with_reducible exact Below.size (by assumption)) | (simp only [World.size_alloc, World.size_setCell, World.size_drew]; omega) | (simp; done) | (simp; omega))));
        (try (have hB2 : Blk w2 w1.heap.size sixes 9 := Blk.gb hgb2 (by omega) (Blk.drew (Blk.new rfl)))); clear hgb2)
    | (go_at_call 89; have _t := tok2; refine (l20Digits_any rb q2 _ _ ?hh (by omega) (by omega) (by omega)).mono ?_; (case hh => first | exact hr2 | exact hr2.alloc); rintro e w3 ⟨s3, q3, rfl, hs3, -, hq3a, hq3b, hr3, hgb3⟩; clear tok2; have hz3 := hgb3.size; (try simp only [World.size_alloc] at hz3); have hbel3 : Below w.heap.size w w3 := below_gb hgb3 (by first | omega | (simp; omega)) hrb (by (repeat' (first | (with_reducible exact Below.refl _ _) | (with_reducible assumption) | (with_reducible refine Below.drew ?_) | (with_reducible refine below_drewN ?_ _) | (with_reducible refine Below.alloc ?_ ?_ _) | (with_reducible refine Below.setCell ?_ ?_ _) | (refine Below.trans ?_ (Below.mono (by assumption) (by first | omega | (with_reducible exact Below.size (by assumption)) | (simp; done) | (simp; omega)))) | (with_reducible exact Nat.le_refl _) | omega | (with_reducible exact Below.size (by assumption)) | (simp only [World.size_alloc, World.size_setCell, World.size_drew]; omega) | (simp; done) | (simp; omega)))); have hO3 : Own w3 g n cap' 32 2 (rcells rs) := (by first | exact Own.gb hgb3 (by omega) hO2 | exact Own.gb hgb3 (by omega) hO2.alloc);
        (first | (have hB3 : Blk w3 w1.heap.size sixes 9 := Blk.gb hgb3 (by omega) hB2) | (have hB3 : Blk w3 w2.heap.size sixes 9 := Blk.gb hgb3 (by omega) (Blk.new rfl)) | skip); clear hgb3)
    | (go_at_call 90; have _t := tok3; refine (pick_any rb q3 _ _ ?hh (by omega) (by omega)).mono ?_; (case hh => first | exact hr3 | exact hr3.alloc); rintro e w4 ⟨y, rfl, hy0, hy1, hr4, hgb4⟩; clear tok3; have hy : y < 6 := (by omega); have hz4 := hgb4.size; (try simp only [World.size_alloc] at hz4); have hbel4 : Below w.heap.size w w4 := below_gb hgb4 (by first | omega | (simp; omega)) hrb (by (repeat' (first | (with_reducible exact Below.refl _ _) | (with_reducible assumption) | (with_reducible refine Below.drew ?_) | (with_reducible refine below_drewN ?_ _) | (with_reducible refine Below.alloc ?_ ?_ _) | (with_reducible refine Below.setCell ?_ ?_ _) | (refine Below.trans ?_ (Below.mono (by assumption) (by first | omega | (with_reducible exact Below.size (by assumption)) | (simp; done) | (simp; omega)))) | (with_reducible exact Nat.le_refl _) | omega | (with_reducible exact Below.size (by assumption)) | (simp only [World.size_alloc, World.size_setCell, World.size_drew]; omega) | (simp; done) | (simp; omega)))); have hO4 : Own w4 g n cap' 32 2 (rcells rs) := (by first | exact Own.gb hgb4 (by omega) hO3 | exact Own.gb hgb4 (by omega) hO3.alloc); obtain ⟨x, hx, hxs⟩ := sixes_at y hy0 hy;
        (first | (have hB4 : Blk w4 w1.heap.size sixes 9 := Blk.gb hgb4 (by omega) hB3) | (have hB4 : Blk w4 w2.heap.size sixes 9 := Blk.gb hgb4 (by omega) hB3) | (have hB4 : Blk w4 w3.heap.size sixes 9 := Blk.gb hgb4 (by omega) (Blk.new rfl)) | (have hB4 : Blk (w4.alloc (.cells sixes 9)) w4.heap.size sixes 9 := Blk.new rfl)); have hcell4 := (hB4.at y.toNat).trans hx; have hblt := hB4.lt; clear hgb4 hy1 hB4 hx; unfold sixes at hcell4))
  all_goals
    have hsx : (s3 ++ x).size ≤ 10 := by rw [ByteArray.size_append]; omega
    clear hr hr2 hr3 hr4 hb hO2 hO3 hcell4
    go_wp2
    go_returns
    first
      | exact ⟨g, n, cap', rs, s3 ++ x, rfl, HN2.out, by omega, hO4, hl2, hs2, hsx, hbel4⟩
      | exact ⟨g, n, cap', rs, s3 ++ x, rfl, HN2.out, by omega, hO4.alloc, hl2, hs2, hsx, by (repeat' (first | (with_reducible exact Below.refl _ _) | (with_reducible assumption) | (with_reducible refine Below.drew ?_) | (with_reducible refine below_drewN ?_ _) | (with_reducible refine Below.alloc ?_ ?_ _) | (with_reducible refine Below.setCell ?_ ?_ _) | (refine Below.trans ?_ (Below.mono (by assumption) (by first | omega | (with_reducible exact Below.size (by assumption)) | (simp; done) | (simp; omega)))) | (with_reducible exact Nat.le_refl _) | omega | (with_reducible exact Below.size (by assumption)) | (simp only [World.size_alloc, World.size_setCell, World.size_drew]; omega) | (simp; done) | (simp; omega)))⟩

end Go.Proofs.Ytcacedcbboidoaa
