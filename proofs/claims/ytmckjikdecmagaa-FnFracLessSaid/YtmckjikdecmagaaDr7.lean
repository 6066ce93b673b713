/- The draws of the chapter on blocking, and alive. -/
import Derived.Test.YtmckjikdecmagaaRd
import Derived.Deep.RegionHeld3
set_option linter.unusedSimpArgs false
set_option linter.unusedVariables false
namespace Go.Proofs.Ytmckjikdecmagaa
open Go.RowKit

/-- What l20Frac leaves. -/
def FracPost (rb p : Nat) (w : World) (e : Ending) (w' : World) : Prop :=
  ∃ (a b : Int) (q : Nat), e = .returned (.agg #[.int .i64 a, .int .i64 b]) ∧ -1000000 ≤ a ∧ a ≤ 1000000 ∧ -1000000 ≤ b ∧ b ≤ 1000000001 ∧ p ≤ q ∧ q ≤ p + 3 ∧ Rdr w' rb q ∧ w.grownBy w' (some rb)

set_option maxHeartbeats 1000000 in
theorem l20Frac_any (rb p : Nat) (n : Int) (w : World) (h : Rdr w rb p) (hp : p ≤ 1000000) (hn : n ≤ 1000000000) :
    Calls Try.prog 47 #[.pointer (some ⟨rb, 0, none⟩), .int .i64 n] w (FracPost rb p w) := by
  have hlt := h.lt
  have hB0 := Blk.new (w := w) (cs := #[.int .i64 0, .int .i64 0]) (T := 25) rfl
  go_enter Try.func47, Try.ntmps47
  go_wp2_with fail
  refine (odd_any rb p _ _ h.alloc (by omega) hn).mono ?_
  rintro e w1 ⟨b, q, rfl, -, hq1, hq2, hr1, hg1⟩
  have hg1' : w.grownBy w1 (some rb) := gb_trans (gb_alloc (World.grownBy.refl _ _)) hg1
  have hB1 := Blk.gb hg1 (by omega) hB0
  obtain ⟨d0, d1, g0, g1, l0⟩ := hB1.two
  clear hg1 hB0 h
  cases b
  · go_wp2_with fail
    refine (pick_any rb q _ _ hr1 (by omega) (by omega)).mono ?_
    rintro e w2 ⟨x, rfl, hx0, hx1, hr2, hg2⟩
    have hx : x < 40 := by omega
    have hg2' := gb_trans hg1' hg2
    have hB2 := Blk.gb hg2 (by omega) hB1
    clear d0 d1 g0 g1 l0 hx1
    go_wp2_with fail
    refine (pick_any rb (q + 1) _ _ hr2 (by omega) (by omega)).mono ?_
    rintro e w3 ⟨y, rfl, hy0, hy1, hr3, hg3⟩
    have hy : y < 60 := by omega
    have hg3' := gb_trans hg2' hg3
    have hB3 := Blk.gb hg3 (by omega) hB2
    obtain ⟨d0, d1, g0, g1, l0⟩ := hB3.two
    clear hg2 hg3 hy1
    go_wp2
    refine bodyPost_ret (v := .agg #[.int .i64 x, .int .i64 (1 + y)]) (by simp [results, Try.results47, go_sem, d0, d1, l0]) rfl ⟨_, _, q + 2, rfl, by omega, by omega, by omega, by omega, by omega, by omega, ?_, ?_⟩
    · exact Rdr.other (by simp; omega) (Rdr.other (by simp; omega) hr3)
    · (repeat' (first | (with_reducible assumption) | (with_reducible exact World.grownBy.refl _ _) | omega | (with_reducible apply gb_set) | (with_reducible apply gb_new (by first | omega | (simp; done) | (simp; omega))) | (with_reducible apply gb_alloc) | (with_reducible apply gb_drewN) | (with_reducible apply gb_drew) | (with_reducible apply gb_below (by assumption)) | (simp; omega)))
  · go_wp2_with fail
    refine (pick_any rb q _ _ hr1.alloc (by omega) (by omega)).mono ?_
    rintro e w2 ⟨x, rfl, hx0, hx1, hr2, hg2⟩
    have hx : x = 0 ∨ x = 1 ∨ x = 2 := by omega
    have hg2' : w.grownBy w2 (some rb) := gb_trans (gb_alloc hg1') hg2
    have hB2 := Blk.gb hg2 (by omega) (hB1.alloc _)
    have hlt1 := hr1.lt
    have hC2 := Blk.gb hg2 (b := w1.heap.size) (by omega) (Blk.new rfl)
    have k0 := hC2.at 0
    have k1 := hC2.at 1
    have k2 := hC2.at 2
    have k3 := hC2.at 3
    have k4 := hC2.at 4
    have k5 := hC2.at 5
    simp at k0 k1 k2 k3 k4 k5
    clear d0 d1 g0 g1 l0 hx1 hg2 hg1'
    obtain ⟨d0, d1, g0, g1, l0⟩ := hB2.two
    rcases hx with rfl | rfl | rfl
    · go_wp2
      refine bodyPost_ret (v := .agg #[.int .i64 (-1), .int .i64 5]) (by simp [results, Try.results47, go_sem, d0, d1, l0]) rfl ⟨_, _, q + 1, rfl, by omega, by omega, by omega, by omega, by omega, by omega, ?_, ?_⟩
      · exact Rdr.other (by simp; omega) (Rdr.other (by simp; omega) hr2)
      · (repeat' (first | (with_reducible assumption) | (with_reducible exact World.grownBy.refl _ _) | omega | (with_reducible apply gb_set) | (with_reducible apply gb_new (by first | omega | (simp; done) | (simp; omega))) | (with_reducible apply gb_alloc) | (with_reducible apply gb_drewN) | (with_reducible apply gb_drew) | (with_reducible apply gb_below (by assumption)) | (simp; omega)))
    · go_wp2
      refine bodyPost_ret (v := .agg #[.int .i64 1, .int .i64 0]) (by simp [results, Try.results47, go_sem, d0, d1, l0]) rfl ⟨_, _, q + 1, rfl, by omega, by omega, by omega, by omega, by omega, by omega, ?_, ?_⟩
      · exact Rdr.other (by simp; omega) (Rdr.other (by simp; omega) hr2)
      · (repeat' (first | (with_reducible assumption) | (with_reducible exact World.grownBy.refl _ _) | omega | (with_reducible apply gb_set) | (with_reducible apply gb_new (by first | omega | (simp; done) | (simp; omega))) | (with_reducible apply gb_alloc) | (with_reducible apply gb_drewN) | (with_reducible apply gb_drew) | (with_reducible apply gb_below (by assumption)) | (simp; omega)))
    · go_wp2
      refine bodyPost_ret (v := .agg #[.int .i64 1, .int .i64 1000000001]) (by simp [results, Try.results47, go_sem, d0, d1, l0]) rfl ⟨_, _, q + 1, rfl, by omega, by omega, by omega, by omega, by omega, by omega, ?_, ?_⟩
      · exact Rdr.other (by simp; omega) (Rdr.other (by simp; omega) hr2)
      · (repeat' (first | (with_reducible assumption) | (with_reducible exact World.grownBy.refl _ _) | omega | (with_reducible apply gb_set) | (with_reducible apply gb_new (by first | omega | (simp; done) | (simp; omega))) | (with_reducible apply gb_alloc) | (with_reducible apply gb_drewN) | (with_reducible apply gb_drew) | (with_reducible apply gb_below (by assumption)) | (simp; omega)))

/-- What l20Load leaves. -/
def LoadPost (rb p : Nat) (w : World) (e : Ending) (w' : World) : Prop :=
  ∃ (a b : Int) (q : Nat), e = .returned (.tuple #[.int .i64 a, .int .i64 b]) ∧ -1000 ≤ a ∧ a ≤ 1000 ∧ -1000 ≤ b ∧ b ≤ 1000 ∧ p ≤ q ∧ q ≤ p + 6 ∧ Rdr w' rb q ∧ w.grownBy w' (some rb)

set_option maxHeartbeats 1000000 in
theorem l20Load_any (rb p : Nat) (w : World) (h : Rdr w rb p) (hp : p ≤ 1000000) :
    Calls Try.prog 55 #[.pointer (some ⟨rb, 0, none⟩)] w (LoadPost rb p w) := by
  go_enter Try.func55, Try.ntmps55
  go_wp2_with fail
  refine (pick_any rb p _ _ h (by omega) (by omega)).mono ?_
  rintro e w1 ⟨x1, rfl, a1, b1, hr1, hg1⟩
  have c1 : x1 ≤ 7 := by omega
  clear b1
  go_wp2_with fail
  refine (pick_any rb (p + 1) _ _ hr1 (by omega) (by omega)).mono ?_
  rintro e w2 ⟨x2, rfl, a2, b2, hr2, hg2⟩
  have c2 : x2 ≤ 20 := by omega
  have g2 := gb_trans hg1 hg2
  clear b2 hg1 hg2
  go_wp2_with fail
  refine (pick_any rb (p + 2) _ _ hr2 (by omega) (by omega)).mono ?_
  rintro e w3 ⟨x3, rfl, a3, b3, hr3, hg3⟩
  have c3 : x3 ≤ 20 := by omega
  have g3 := gb_trans g2 hg3
  clear b3 g2 hg3
  go_wp2_with fail
  refine (pick_any rb (p + 3) _ _ hr3 (by omega) (by omega)).mono ?_
  rintro e w4 ⟨x4, rfl, a4, b4, hr4, hg4⟩
  have c4 : x4 ≤ 9 := by omega
  have g4 := gb_trans g3 hg4
  clear b4 g3 hg4
  go_wp2_with fail
  refine (pick_any rb (p + 4) _ _ hr4 (by omega) (by omega)).mono ?_
  rintro e w5 ⟨x5, rfl, a5, b5, hr5, hg5⟩
  have c5 : x5 ≤ 20 := by omega
  have g5 := gb_trans g4 hg5
  clear b5 g4 hg5
  go_wp2_with fail
  refine (pick_any rb (p + 5) _ _ hr5 (by omega) (by omega)).mono ?_
  rintro e w6 ⟨x6, rfl, a6, b6, hr6, hg6⟩
  have c6 : x6 ≤ 20 := by omega
  have g6 := gb_trans g5 hg6
  clear b6 g5 hg6
  go_wp2
  go_returns
  exact ⟨_, _, p + 6, rfl, by omega, by omega, by omega, by omega, by omega, by omega, hr6, g6⟩

set_option maxHeartbeats 400000 in
theorem DrawLostPart_any (a : Option Addr) (len cap : Nat) (zs : List Int) (w : World) (h : Code w a len cap zs) :
    Calls Try.prog 43 #[.slice a len cap] w fun e w' => ∃ x y : Int, e = .returned (.tuple #[.int .i64 x, .int .i64 y]) ∧ -1000 ≤ x ∧ x ≤ 1000 ∧ -1000 ≤ y ∧ y ≤ 1000 ∧ Below w.heap.size w w' := by
  go_enter Try.func43, Try.ntmps43
  go_wp2_with fail
  refine (open_any _ _ _ _ _ h).mono ?_
  rintro e w1 ⟨rb, rfl, hrb, hr, hb⟩
  go_wp2_with fail
  refine (l20Load_any rb 0 _ hr (by omega)).mono ?_
  rintro e w2 ⟨x, y, q, rfl, h1, h2, h3, h4, h5, h6, hr2, hg2⟩
  go_wp2
  go_returns
  exact ⟨x, y, rfl, h1, h2, h3, h4, below_gb hg2 hb.size hrb hb⟩
set_option maxHeartbeats 400000 in
theorem DrawLostSum_any (a : Option Addr) (len cap : Nat) (zs : List Int) (w : World) (h : Code w a len cap zs) :
    Calls Try.prog 41 #[.slice a len cap] w fun e w' => ∃ x y : Int, e = .returned (.tuple #[.int .i64 x, .int .i64 y]) ∧ -1000 ≤ x ∧ x ≤ 1000 ∧ -1000 ≤ y ∧ y ≤ 1000 ∧ Below w.heap.size w w' := by
  go_enter Try.func41, Try.ntmps41
  go_wp2_with fail
  refine (open_any _ _ _ _ _ h).mono ?_
  rintro e w1 ⟨rb, rfl, hrb, hr, hb⟩
  go_wp2_with fail
  refine (l20Load_any rb 0 _ hr (by omega)).mono ?_
  rintro e w2 ⟨x, y, q, rfl, h1, h2, h3, h4, h5, h6, hr2, hg2⟩
  go_wp2
  go_returns
  exact ⟨x, y, rfl, h1, h2, h3, h4, below_gb hg2 hb.size hrb hb⟩
set_option maxHeartbeats 400000 in
theorem DrawTakenLoad_any (a : Option Addr) (len cap : Nat) (zs : List Int) (w : World) (h : Code w a len cap zs) :
    Calls Try.prog 44 #[.slice a len cap] w fun e w' => ∃ x y : Int, e = .returned (.tuple #[.int .i64 x, .int .i64 y]) ∧ -1000 ≤ x ∧ x ≤ 1000 ∧ -1000 ≤ y ∧ y ≤ 1000 ∧ Below w.heap.size w w' := by
  go_enter Try.func44, Try.ntmps44
  go_wp2_with fail
  refine (open_any _ _ _ _ _ h).mono ?_
  rintro e w1 ⟨rb, rfl, hrb, hr, hb⟩
  go_wp2_with fail
  refine (l20Load_any rb 0 _ hr (by omega)).mono ?_
  rintro e w2 ⟨x, y, q, rfl, h1, h2, h3, h4, h5, h6, hr2, hg2⟩
  go_wp2
  go_returns
  exact ⟨x, y, rfl, h1, h2, h3, h4, below_gb hg2 hb.size hrb hb⟩
set_option maxHeartbeats 400000 in
theorem DrawBusyParts_any (a : Option Addr) (len cap : Nat) (zs : List Int) (w : World) (h : Code w a len cap zs) :
    Calls Try.prog 39 #[.slice a len cap] w fun e w' => ∃ x y : Int, e = .returned (.tuple #[.int .i64 x, .int .i64 y]) ∧ -1000 ≤ x ∧ x ≤ 1000 ∧ -1000 ≤ y ∧ y ≤ 1000 ∧ Below w.heap.size w w' := by
  go_enter Try.func39, Try.ntmps39
  go_wp2_with fail
  refine (open_any _ _ _ _ _ h).mono ?_
  rintro e w1 ⟨rb, rfl, hrb, hr, hb⟩
  go_wp2_with fail
  refine (l20Load_any rb 0 _ hr (by omega)).mono ?_
  rintro e w2 ⟨x, y, q, rfl, h1, h2, h3, h4, h5, h6, hr2, hg2⟩
  go_wp2
  go_returns
  exact ⟨x, y, rfl, h1, h2, h3, h4, below_gb hg2 hb.size hrb hb⟩

set_option maxHeartbeats 400000 in
theorem DrawFracValid_any (a : Option Addr) (len cap : Nat) (zs : List Int) (w : World) (h : Code w a len cap zs) :
    Calls Try.prog 22 #[.slice a len cap] w fun e w' => ∃ x y : Int, e = .returned (.agg #[.int .i64 x, .int .i64 y]) ∧ -1000000 ≤ x ∧ x ≤ 1000000 ∧ -1000000 ≤ y ∧ y ≤ 1000000001 ∧ Below w.heap.size w w' := by
  go_enter Try.func22, Try.ntmps22
  go_wp2_with fail
  refine (open_any _ _ _ _ _ (h.below ((Below.refl _ _).alloc (Nat.le_refl _) _))).mono ?_
  rintro e w1 ⟨rb, rfl, hrb, hr, hb⟩
  simp only [World.size_alloc] at hrb
  have hz1 := hb.size
  simp only [World.size_alloc] at hz1
  have hB1 := Blk.below hb (by simp) (Blk.new (w := w) (cs := #[.int .i64 0, .int .i64 0]) (T := 25) rfl)
  have hbel1 : Below w.heap.size w w1 := by (repeat' (first | (with_reducible exact Below.refl _ _) | (with_reducible assumption) | (with_reducible refine Below.drew ?_) | (with_reducible refine below_drewN ?_ _) | (with_reducible refine Below.alloc ?_ ?_ _) | (with_reducible refine Below.setCell ?_ ?_ _) | (refine Below.trans ?_ (Below.mono (by assumption) (by first | omega | (with_reducible exact Below.size (by assumption)) | (simp; done) | (simp; omega)))) | (with_reducible exact Nat.le_refl _) | omega | (with_reducible exact Below.size (by assumption)) | (simp only [World.size_alloc, World.size_setCell, World.size_drew]; omega) | (simp; done) | (simp; omega)))
  clear hb
  go_wp2_with fail
  refine (l20Frac_any rb 0 _ _ hr (by omega) (by omega)).mono ?_
  rintro e w2 ⟨x, y, q, rfl, h1, h2, h3, h4, h5, h6, hr2, hg2⟩
  have hB2 := Blk.gb hg2 (by omega) hB1
  have hbel2 : Below w.heap.size w w2 := below_gb hg2 (by omega) (by omega) hbel1
  obtain ⟨d0, d1, g0, g1, l0⟩ := hB2.two
  go_wp2
  refine bodyPost_ret (v := .agg #[.int .i64 x, .int .i64 y]) (by simp [results, Try.results22, go_sem, d0, d1, l0]) rfl ⟨x, y, rfl, h1, h2, h3, h4, by (repeat' (first | (with_reducible exact Below.refl _ _) | (with_reducible assumption) | (with_reducible refine Below.drew ?_) | (with_reducible refine below_drewN ?_ _) | (with_reducible refine Below.alloc ?_ ?_ _) | (with_reducible refine Below.setCell ?_ ?_ _) | (refine Below.trans ?_ (Below.mono (by assumption) (by first | omega | (with_reducible exact Below.size (by assumption)) | (simp; done) | (simp; omega)))) | (with_reducible exact Nat.le_refl _) | omega | (with_reducible exact Below.size (by assumption)) | (simp only [World.size_alloc, World.size_setCell, World.size_drew]; omega) | (simp; done) | (simp; omega)))⟩

set_option maxHeartbeats 400000 in
theorem DrawTrunksFor_any (a : Option Addr) (len cap : Nat) (zs : List Int) (w : World) (h : Code w a len cap zs) :
    Calls Try.prog 45 #[.slice a len cap] w fun e w' => ∃ z x y : Int, e = .returned (.tuple #[.int .i64 z, .agg #[.int .i64 x, .int .i64 y]]) ∧ -1000 ≤ z ∧ z ≤ 1000 ∧ -1000000 ≤ x ∧ x ≤ 1000000 ∧ -1000000 ≤ y ∧ y ≤ 1000000001 ∧ Below w.heap.size w w' := by
  go_enter Try.func45, Try.ntmps45
  go_wp2_with fail
  refine (open_any _ _ _ _ _ (h.below ((Below.refl _ _).alloc (Nat.le_refl _) _))).mono ?_
  rintro e w1 ⟨rb, rfl, hrb, hr, hb⟩
  simp only [World.size_alloc] at hrb
  have hz1 := hb.size
  simp only [World.size_alloc] at hz1
  have hB1 := Blk.below hb (by simp) (Blk.new (w := w) (cs := #[.int .i64 0, .int .i64 0]) (T := 25) rfl)
  have hbel1 : Below w.heap.size w w1 := by (repeat' (first | (with_reducible exact Below.refl _ _) | (with_reducible assumption) | (with_reducible refine Below.drew ?_) | (with_reducible refine below_drewN ?_ _) | (with_reducible refine Below.alloc ?_ ?_ _) | (with_reducible refine Below.setCell ?_ ?_ _) | (refine Below.trans ?_ (Below.mono (by assumption) (by first | omega | (with_reducible exact Below.size (by assumption)) | (simp; done) | (simp; omega)))) | (with_reducible exact Nat.le_refl _) | omega | (with_reducible exact Below.size (by assumption)) | (simp only [World.size_alloc, World.size_setCell, World.size_drew]; omega) | (simp; done) | (simp; omega)))
  clear hb
  go_wp2_with fail
  refine (l20Load_any rb 0 _ hr (by omega)).mono ?_
  rintro e w2 ⟨z, z', q, rfl, k1, k2, k3, k4, k5, k6, hr2, hg2⟩
  have hB2 := Blk.gb hg2 (by omega) hB1
  have hz2 := hg2.size
  have hbel2 : Below w.heap.size w w2 := below_gb hg2 (by omega) (by omega) hbel1
  clear hg2 hB1
  go_wp2_with fail
  refine (l20Frac_any rb q _ _ hr2 (by omega) (by omega)).mono ?_
  rintro e w3 ⟨x, y, q', rfl, h1, h2, h3, h4, h5, h6, hr3, hg3⟩
  have hB3 := Blk.gb hg3 (by omega) hB2
  have hbel3 : Below w.heap.size w w3 := below_gb hg3 (by omega) (by omega) hbel2
  obtain ⟨d0, d1, g0, g1, l0⟩ := hB3.two
  go_wp2
  refine bodyPost_ret (v := .tuple #[.int .i64 z, .agg #[.int .i64 x, .int .i64 y]]) (by simp [results, Try.results45, go_sem, d0, d1, l0]) rfl ⟨z, x, y, rfl, k1, k2, h1, h2, h3, h4, by (repeat' (first | (with_reducible exact Below.refl _ _) | (with_reducible assumption) | (with_reducible refine Below.drew ?_) | (with_reducible refine below_drewN ?_ _) | (with_reducible refine Below.alloc ?_ ?_ _) | (with_reducible refine Below.setCell ?_ ?_ _) | (refine Below.trans ?_ (Below.mono (by assumption) (by first | omega | (with_reducible exact Below.size (by assumption)) | (simp; done) | (simp; omega)))) | (with_reducible exact Nat.le_refl _) | omega | (with_reducible exact Below.size (by assumption)) | (simp only [World.size_alloc, World.size_setCell, World.size_drew]; omega) | (simp; done) | (simp; omega)))⟩

set_option maxHeartbeats 1000000 in
theorem DrawFracLess_any (a : Option Addr) (len cap : Nat) (zs : List Int) (w : World) (h : Code w a len cap zs) :
    Calls Try.prog 32 #[.slice a len cap] w fun e w' => ∃ x y x' y' : Int, e = .returned (.tuple #[.agg #[.int .i64 x, .int .i64 y], .agg #[.int .i64 x', .int .i64 y']]) ∧ Below w.heap.size w w' := by
  go_enter Try.func32, Try.ntmps32
  go_wp2_with fail
  refine (open_any _ _ _ _ _ (h.below (((Below.refl _ _).alloc (Nat.le_refl _) _).alloc (by simp) _))).mono ?_
  rintro e w1 ⟨rb, rfl, hrb, hr, hb⟩
  simp only [World.size_alloc] at hrb
  have hz1 := hb.size
  simp only [World.size_alloc] at hz1
  have hA1 := Blk.below hb (by simp; omega) ((Blk.new (w := w) (cs := #[.int .i64 0, .int .i64 0]) (T := 25) rfl).alloc (.cells #[.int .i64 0, .int .i64 0] 25))
  have hB1 := Blk.below hb (by simp) (Blk.new (w := w.alloc (.cells #[.int .i64 0, .int .i64 0] 25)) (b := w.heap.size + 1) (cs := #[.int .i64 0, .int .i64 0]) (T := 25) (by simp))
  have hbel1 : Below w.heap.size w w1 := by (repeat' (first | (with_reducible exact Below.refl _ _) | (with_reducible assumption) | (with_reducible refine Below.drew ?_) | (with_reducible refine below_drewN ?_ _) | (with_reducible refine Below.alloc ?_ ?_ _) | (with_reducible refine Below.setCell ?_ ?_ _) | (refine Below.trans ?_ (Below.mono (by assumption) (by first | omega | (with_reducible exact Below.size (by assumption)) | (simp; done) | (simp; omega)))) | (with_reducible exact Nat.le_refl _) | omega | (with_reducible exact Below.size (by assumption)) | (simp only [World.size_alloc, World.size_setCell, World.size_drew]; omega) | (simp; done) | (simp; omega)))
  clear hb
  go_wp2_with fail
  refine (l20Frac_any rb 0 _ _ hr (by omega) (by omega)).mono ?_
  rintro e w2 ⟨x, y, q, rfl, h1, h2, h3, h4, h5, h6, hr2, hg2⟩
  have hz2 := hg2.size
  have hA2 := Blk.gb hg2 (by omega) hA1
  have hB2 := Blk.gb hg2 (by omega) hB1
  have hC2 := Blk.new (w := w2) (cs := #[.int .i64 x, .int .i64 y]) (T := 25) rfl
  have hbel2 : Below w.heap.size w w2 := below_gb hg2 (by omega) (by omega) hbel1
  clear hg2 hA1 hB1
  go_wp2_with fail
  refine (pick_any rb q _ _ hr2.alloc (by omega) (by omega)).mono ?_
  rintro e w3 ⟨k, rfl, k0, k1, hr3, hg3⟩
  have hz3 := hg3.size
  simp only [World.size_alloc] at hz3
  have hlt2 := hr2.lt
  have hA3 := Blk.gb hg3 (by omega) (hA2.alloc _)
  have hB3 := Blk.gb hg3 (by omega) (hB2.alloc _)
  have hC3 := Blk.gb hg3 (by omega) hC2
  have hbel3 : Below w.heap.size w w3 := below_gb hg3 (by simp; omega) (by omega) (hbel2.alloc (by omega) _)
  clear hg3 hA2 hB2 hC2 k1
  obtain ⟨a0, a1, af0, af1, al⟩ := hA3.two
  obtain ⟨b0, b1, bf0, bf1, bl⟩ := hB3.two
  obtain ⟨c0, c1, cf0, cf1, cl⟩ := hC3.two
  by_cases hk : k = 0
  · have hkb : (k == 0) = true := by simp [hk]
    go_wp2_with fail
    go_region
    go_wp2
    refine bodyPost_ret (v := .tuple #[.agg #[.int .i64 x, .int .i64 y], .agg #[.int .i64 (3 * x), .int .i64 (3 * y)]]) (by simp [results, Try.results32, go_sem, a0, a1, b0, b1]) rfl ⟨x, y, 3 * x, 3 * y, rfl, by (repeat' (first | (with_reducible exact Below.refl _ _) | (with_reducible assumption) | (with_reducible refine Below.drew ?_) | (with_reducible refine below_drewN ?_ _) | (with_reducible refine Below.alloc ?_ ?_ _) | (with_reducible refine Below.setCell ?_ ?_ _) | (refine Below.trans ?_ (Below.mono (by assumption) (by first | omega | (with_reducible exact Below.size (by assumption)) | (simp; done) | (simp; omega)))) | (with_reducible exact Nat.le_refl _) | omega | (with_reducible exact Below.size (by assumption)) | (simp only [World.size_alloc, World.size_setCell, World.size_drew]; omega) | (simp; done) | (simp; omega)))⟩
  · have hkb : (k == 0) = false := by simpa using hk
    go_wp2_with fail
    go_region_held3 (fun w' => w'.cell? ⟨w2.heap.size, 0, none⟩ = some (.int .i64 x) ∧ w'.cell? ⟨w2.heap.size, 1, none⟩ = some (.int .i64 y)) (first | (with_reducible exact ⟨c0, c1⟩) | (with_reducible exact ⟨c0', c1'⟩) | ((repeat' (first | (with_reducible assumption) | (with_reducible apply And.intro) | (with_reducible apply keep_drew) | (with_reducible apply keep_drewN) | (simp [go_sem, World.cell?_alloc_past]; done) | (simp [*]; done) | (with_reducible apply keep_other (by first | (simp; done) | (simp; omega) | omega)) | (with_reducible apply keep_below (by assumption)) | (with_reducible apply keep_alloc)))))
      (first | (go_at_call 47; refine (l20Frac_any rb (q + 1) _ _ (Rdr.drew hr3) (by omega) (by omega)).mono ?_; rintro e w4 ⟨x', y', q', rfl, j1, j2, j3, j4, j5, j6, hr4, hg4⟩; obtain ⟨c0', c1', -⟩ := (Blk.gb hg4 (by omega) hC3.drew).two; obtain ⟨a0', a1', af0', af1', al'⟩ := (Blk.gb hg4 (by omega) hA3.drew).two; obtain ⟨b0', b1', bf0', bf1', bl'⟩ := (Blk.gb hg4 (by omega) hB3.drew).two))
    have hz4 := hg4.size
    simp only [World.size_drew] at hz4
    have hbel4 : Below w.heap.size w w4 := below_gb hg4 (by simp; omega) (by omega) hbel3.drew
    go_wp2
    refine bodyPost_ret (v := .tuple #[.agg #[.int .i64 x, .int .i64 y], .agg #[.int .i64 x', .int .i64 y']]) (by simp [results, Try.results32, go_sem, a0', a1', b0', b1']) rfl ⟨x, y, x', y', rfl, by (repeat' (first | (with_reducible exact Below.refl _ _) | (with_reducible assumption) | (with_reducible refine Below.drew ?_) | (with_reducible refine below_drewN ?_ _) | (with_reducible refine Below.alloc ?_ ?_ _) | (with_reducible refine Below.setCell ?_ ?_ _) | (refine Below.trans ?_ (Below.mono (by assumption) (by first | omega | (with_reducible exact Below.size (by assumption)) | (simp; done) | (simp; omega)))) | (with_reducible exact Nat.le_refl _) | omega | (with_reducible exact Below.size (by assumption)) | (simp only [World.size_alloc, World.size_setCell, World.size_drew]; omega) | (simp; done) | (simp; omega)))⟩

/-- isOrder of two numbers. -/
theorem isOrder2 (b : Nat) (x y : Int) (w : World) (hB : Blk w b #[.int .i64 x, .int .i64 y] 3) (r : Bool) (hx : x = 1) (hy : y = 0 ∧ r = true ∨ y = 1 ∧ r = false) :
    Calls Try.prog 57 #[.slice (some ⟨b, 0, none⟩) 2 2] w fun e w' => e = .returned (.bool r) ∧ Below w.heap.size w w' := by
  have hmk : ∀ w : World, (Instr.makeSlice 63 (.int .i64 2) (.int .i64 2)).run Try.prog w = .ok (.slice (some ⟨w.heap.size, 0, none⟩) 2 2) (w.alloc (.cells #[.bool false, .bool false] 4)) := fun _ => by kernel_rfl
  obtain ⟨c0, c1, f0, f1, hl⟩ := hB.two
  subst hx
  rcases hy with ⟨rfl, rfl⟩ | ⟨rfl, rfl⟩
  · go_enter Try.func57, Try.ntmps57
    go_wp2
    go_rounds 3
    go_returns
    exact ⟨rfl, by (repeat' (first | (with_reducible exact Below.refl _ _) | (with_reducible assumption) | (with_reducible refine Below.drew ?_) | (with_reducible refine below_drewN ?_ _) | (with_reducible refine Below.alloc ?_ ?_ _) | (with_reducible refine Below.setCell ?_ ?_ _) | (refine Below.trans ?_ (Below.mono (by assumption) (by first | omega | (with_reducible exact Below.size (by assumption)) | (simp; done) | (simp; omega)))) | (with_reducible exact Nat.le_refl _) | omega | (with_reducible exact Below.size (by assumption)) | (simp only [World.size_alloc, World.size_setCell, World.size_drew]; omega) | (simp; done) | (simp; omega)))⟩
  · go_enter Try.func57, Try.ntmps57
    go_wp2
    go_rounds 3
    go_returns
    exact ⟨rfl, by (repeat' (first | (with_reducible exact Below.refl _ _) | (with_reducible assumption) | (with_reducible refine Below.drew ?_) | (with_reducible refine below_drewN ?_ _) | (with_reducible refine Below.alloc ?_ ?_ _) | (with_reducible refine Below.setCell ?_ ?_ _) | (refine Below.trans ?_ (Below.mono (by assumption) (by first | omega | (with_reducible exact Below.size (by assumption)) | (simp; done) | (simp; omega)))) | (with_reducible exact Nat.le_refl _) | omega | (with_reducible exact Below.size (by assumption)) | (simp only [World.size_alloc, World.size_setCell, World.size_drew]; omega) | (simp; done) | (simp; omega)))⟩

/-- PermValid of two numbers. -/
theorem perm2 (b : Nat) (x y : Int) (w : World) (hB : Blk w b #[.int .i64 x, .int .i64 y] 3) (r : Bool) (hx : x = 1) (hy : y = 0 ∧ r = true ∨ y = 1 ∧ r = false) :
    Calls Try.prog 49 #[.slice (some ⟨b, 0, none⟩) 2 2] w fun e w' => e = .returned (.bool r) ∧ Below w.heap.size w w' := by
  go_enter Try.func49, Try.ntmps49
  go_wp2_with fail
  refine (isOrder2 b x y _ hB r hx hy).mono ?_
  rintro e w1 ⟨rfl, hb1⟩
  go_wp2
  go_returns
  exact ⟨rfl, hb1⟩

set_option maxHeartbeats 400000 in
theorem alive_any (w : World) : Calls Try.prog 23 #[] w fun e w' => e = .returned (.bool true) ∧ Below w.heap.size w w' := by
  have hB := Blk.new (w := w) (cs := #[.int .i64 1, .int .i64 0]) (T := 3) rfl
  go_enter Try.func23, Try.ntmps23
  go_wp2_with fail
  refine (perm2 _ _ _ _ hB true rfl (.inl ⟨rfl, rfl⟩)).mono ?_
  rintro e w1 ⟨rfl, hb1⟩
  have hz1 := hb1.size
  have hB1 := Blk.new (w := w1) (cs := #[.int .i64 1, .int .i64 1]) (T := 3) rfl
  simp only [World.size_alloc] at hz1
  go_wp2_with fail
  refine (perm2 _ _ _ _ hB1 false rfl (.inr ⟨rfl, rfl⟩)).mono ?_
  rintro e w2 ⟨rfl, hb2⟩
  go_wp2
  go_returns
  refine ⟨rfl, ?_⟩
  have hbel1 : Below w.heap.size w w1 := by (repeat' (first | (with_reducible exact Below.refl _ _) | (with_reducible assumption) | (with_reducible refine Below.drew ?_) | (with_reducible refine below_drewN ?_ _) | (with_reducible refine Below.alloc ?_ ?_ _) | (with_reducible refine Below.setCell ?_ ?_ _) | (refine Below.trans ?_ (Below.mono (by assumption) (by first | omega | (with_reducible exact Below.size (by assumption)) | (simp; done) | (simp; omega)))) | (with_reducible exact Nat.le_refl _) | omega | (with_reducible exact Below.size (by assumption)) | (simp only [World.size_alloc, World.size_setCell, World.size_drew]; omega) | (simp; done) | (simp; omega)))
  (repeat' (first | (with_reducible exact Below.refl _ _) | (with_reducible assumption) | (with_reducible refine Below.drew ?_) | (with_reducible refine below_drewN ?_ _) | (with_reducible refine Below.alloc ?_ ?_ _) | (with_reducible refine Below.setCell ?_ ?_ _) | (refine Below.trans ?_ (Below.mono (by assumption) (by first | omega | (with_reducible exact Below.size (by assumption)) | (simp; done) | (simp; omega)))) | (with_reducible exact Nat.le_refl _) | omega | (with_reducible exact Below.size (by assumption)) | (simp only [World.size_alloc, World.size_setCell, World.size_drew]; omega) | (simp; done) | (simp; omega)))

end Go.Proofs.Ytmckjikdecmagaa
