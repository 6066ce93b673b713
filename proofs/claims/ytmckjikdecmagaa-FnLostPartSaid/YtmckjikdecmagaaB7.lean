/- The walks of the drawn laws of the chapter on blocking. -/
import Derived.Test.YtmckjikdecmagaaA7
import Derived.Test.YtmckjikdecmagaaDr7
set_option linter.unusedSimpArgs false
set_option linter.unusedVariables false
namespace Go.Proofs.Ytmckjikdecmagaa
open Go.RowKit

set_option maxHeartbeats 1000000 in
theorem wFracValid (a : Option Addr) (len cap : Nat) (zs : List Int) (w : World) (h0 : IsRow .u8 w a len cap zs) :
    Calls Try.prog 5 #[.slice a len cap] w fun e w' => e = .returned (.bool true) ∧ Below w.heap.size w w' := by
  have h := h0.code
  have hm := h.bd
  by_cases hbig : len > 1048576
  · go_enter Try.func5, Try.ntmps5
    go_wp2
    go_returns
    exact ⟨rfl, Below.refl _ _⟩
  · go_enter Try.func5, Try.ntmps5
    go_wp2_with fail
    refine (DrawFracValid_any _ _ _ _ _ h).mono ?_
    rintro e w1 ⟨x, y, rfl, hx1, hx2, hy1, hy2, hb1⟩
    have hz1 := hb1.size
    obtain ⟨o, ho⟩ : ∃ o, fracValidB x y = o := ⟨_, rfl⟩
    have HO := Lib.hid ho
    go_wp2_with fail
    refine (iFracValid_any _ _ _).mono ?_
    rintro e w2 ⟨rfl, rfl⟩
    rw [ho]
    go_wp2_with fail
    refine (sFracValid_any _ _ _).mono ?_
    rintro e w2 ⟨rfl, rfl⟩
    rw [ho]
    have hoo : (o != o) = false := by cases o <;> rfl
    have hx0 : fracValidB x 0 = false := by simp [fracValidB]
    cases o
    · go_wp2_with fail
      refine (iFracValid_any _ _ _).mono ?_
      rintro e w2 ⟨rfl, rfl⟩
      rw [hx0]
      clear hx0 ho
      go_wp2_with fail
      refine (alive_any _).mono ?_
      rintro e w2 ⟨rfl, hb2⟩
      go_wp2
      go_returns
      exact ⟨rfl, by (repeat' (first | (with_reducible exact Below.refl _ _) | (with_reducible assumption) | (with_reducible refine Below.drew ?_) | (with_reducible refine below_drewN ?_ _) | (with_reducible refine Below.alloc ?_ ?_ _) | (with_reducible refine Below.setCell ?_ ?_ _) | (refine Below.trans ?_ (Below.mono (by assumption) (by first | omega | (with_reducible exact Below.size (by assumption)) | (simp; done) | (simp; omega)))) | (with_reducible exact Nat.le_refl _) | omega | (with_reducible exact Below.size (by assumption)) | (simp only [World.size_alloc, World.size_setCell, World.size_drew]; omega) | (simp; done) | (simp; omega)))⟩
    · have h0y : fracValidB 0 y = true := by
        have := (fracValidB_iff x y).1 ho
        exact (fracValidB_iff 0 y).2 ⟨by omega, by omega, this.2.2.1, this.2.2.2⟩
      go_wp2_with fail
      refine (iFracValid_any _ _ _).mono ?_
      rintro e w2 ⟨rfl, rfl⟩
      rw [h0y]
      clear h0y
      go_wp2_with fail
      refine (iFracValid_any _ _ _).mono ?_
      rintro e w2 ⟨rfl, rfl⟩
      rw [hx0]
      clear hx0 ho
      go_wp2_with fail
      refine (alive_any _).mono ?_
      rintro e w2 ⟨rfl, hb2⟩
      go_wp2
      go_returns
      exact ⟨rfl, by (repeat' (first | (with_reducible exact Below.refl _ _) | (with_reducible assumption) | (with_reducible refine Below.drew ?_) | (with_reducible refine below_drewN ?_ _) | (with_reducible refine Below.alloc ?_ ?_ _) | (with_reducible refine Below.setCell ?_ ?_ _) | (refine Below.trans ?_ (Below.mono (by assumption) (by first | omega | (with_reducible exact Below.size (by assumption)) | (simp; done) | (simp; omega)))) | (with_reducible exact Nat.le_refl _) | omega | (with_reducible exact Below.size (by assumption)) | (simp only [World.size_alloc, World.size_setCell, World.size_drew]; omega) | (simp; done) | (simp; omega)))⟩

set_option maxHeartbeats 2000000 in
theorem wFracLess (a : Option Addr) (len cap : Nat) (zs : List Int) (w : World) (h0 : IsRow .u8 w a len cap zs) :
    Calls Try.prog 8 #[.slice a len cap] w fun e w' => e = .returned (.bool true) ∧ Below w.heap.size w w' := by
  have h := h0.code
  have hm := h.bd
  by_cases hbig : len > 1048576
  · go_enter Try.func8, Try.ntmps8
    go_wp2
    go_returns
    exact ⟨rfl, Below.refl _ _⟩
  · go_enter Try.func8, Try.ntmps8
    go_wp2_with fail
    refine (DrawFracLess_any _ _ _ _ _ h).mono ?_
    rintro e w1 ⟨x, y, x', y', rfl, hb1⟩
    have hz1 := hb1.size
    obtain ⟨o, ho⟩ : ∃ o, fracLessB x y x' y' = o := ⟨_, rfl⟩
    have HO := Lib.hid ho
    clear ho
    have hA := (Blk.new (w := w1) (cs := #[.int .i64 x, .int .i64 y]) (T := 25) rfl).alloc (.cells #[.int .i64 x', .int .i64 y'] 25)
    have hB := Blk.new (w := w1.alloc (.cells #[.int .i64 x, .int .i64 y] 25)) (b := w1.heap.size + 1) (cs := #[.int .i64 x', .int .i64 y']) (T := 25) (by simp)
    go_wp2_with fail
    refine (iFracLess_any _ _ _ _ _).mono ?_
    rintro e w2 ⟨rfl, hb2⟩
    rw [HO.out]
    have hA2 := Blk.belowAll hA hb2
    have hB2 := Blk.belowAll hB hb2
    have hbel2 : Below w.heap.size w w2 := by (repeat' (first | (with_reducible exact Below.refl _ _) | (with_reducible assumption) | (with_reducible refine Below.drew ?_) | (with_reducible refine below_drewN ?_ _) | (with_reducible refine Below.alloc ?_ ?_ _) | (with_reducible refine Below.setCell ?_ ?_ _) | (refine Below.trans ?_ (Below.mono (by assumption) (by first | omega | (with_reducible exact Below.size (by assumption)) | (simp; done) | (simp; omega)))) | (with_reducible exact Nat.le_refl _) | omega | (with_reducible exact Below.size (by assumption)) | (simp only [World.size_alloc, World.size_setCell, World.size_drew]; omega) | (simp; done) | (simp; omega)))
    clear hA hB hb2
    obtain ⟨a0, a1, af0, af1, al⟩ := hA2.two
    obtain ⟨b0, b1, bf0, bf1, bl⟩ := hB2.two
    go_wp2_with fail
    refine (sFracLess_any _ _ _ _ _).mono ?_
    rintro e w3 ⟨rfl, hb3⟩
    rw [HO.out]
    have hA3 := Blk.belowAll hA2 hb3
    have hB3 := Blk.belowAll hB2 hb3
    have hbel3 : Below w.heap.size w w3 := by (repeat' (first | (with_reducible exact Below.refl _ _) | (with_reducible assumption) | (with_reducible refine Below.drew ?_) | (with_reducible refine below_drewN ?_ _) | (with_reducible refine Below.alloc ?_ ?_ _) | (with_reducible refine Below.setCell ?_ ?_ _) | (refine Below.trans ?_ (Below.mono (by assumption) (by first | omega | (with_reducible exact Below.size (by assumption)) | (simp; done) | (simp; omega)))) | (with_reducible exact Nat.le_refl _) | omega | (with_reducible exact Below.size (by assumption)) | (simp only [World.size_alloc, World.size_setCell, World.size_drew]; omega) | (simp; done) | (simp; omega)))
    have hoo : (o != o) = false := by cases o <;> rfl
    clear hA2 hB2 hb3 a0 a1 af0 af1 al b0 b1 bf0 bf1 bl
    obtain ⟨a0, a1, af0, af1, al⟩ := hA3.two
    obtain ⟨b0, b1, bf0, bf1, bl⟩ := hB3.two
    cases o
    · go_wp2_with fail
      refine (iFracLess_any _ _ _ _ _).mono ?_
      rintro e w4 ⟨rfl, hb4⟩
      rw [less_irrefl]
      have hbel4 : Below w.heap.size w w4 := by (repeat' (first | (with_reducible exact Below.refl _ _) | (with_reducible assumption) | (with_reducible refine Below.drew ?_) | (with_reducible refine below_drewN ?_ _) | (with_reducible refine Below.alloc ?_ ?_ _) | (with_reducible refine Below.setCell ?_ ?_ _) | (refine Below.trans ?_ (Below.mono (by assumption) (by first | omega | (with_reducible exact Below.size (by assumption)) | (simp; done) | (simp; omega)))) | (with_reducible exact Nat.le_refl _) | omega | (with_reducible exact Below.size (by assumption)) | (simp only [World.size_alloc, World.size_setCell, World.size_drew]; omega) | (simp; done) | (simp; omega)))
      go_wp2_with fail
      refine (alive_any _).mono ?_
      rintro e w5 ⟨rfl, hb5⟩
      have hbel5 : Below w.heap.size w w5 := by (repeat' (first | (with_reducible exact Below.refl _ _) | (with_reducible assumption) | (with_reducible refine Below.drew ?_) | (with_reducible refine below_drewN ?_ _) | (with_reducible refine Below.alloc ?_ ?_ _) | (with_reducible refine Below.setCell ?_ ?_ _) | (refine Below.trans ?_ (Below.mono (by assumption) (by first | omega | (with_reducible exact Below.size (by assumption)) | (simp; done) | (simp; omega)))) | (with_reducible exact Nat.le_refl _) | omega | (with_reducible exact Below.size (by assumption)) | (simp only [World.size_alloc, World.size_setCell, World.size_drew]; omega) | (simp; done) | (simp; omega)))
      go_wp2
      go_returns
      exact ⟨rfl, hbel5⟩
    · have hs := less_asymm _ _ _ _ HO.out
      obtain ⟨v1, v2⟩ := less_valid _ _ _ _ HO.out
      have HS := Lib.hid hs
      have V1 := Lib.hid v1
      have V2 := Lib.hid v2
      clear hs v1 v2
      go_wp2_with fail
      refine (iFracLess_any _ _ _ _ _).mono ?_
      rintro e w4 ⟨rfl, hb4⟩
      rw [HS.out]
      have hA4 := Blk.belowAll hA3 hb4
      have hB4 := Blk.belowAll hB3 hb4
      have hbel4 : Below w.heap.size w w4 := by (repeat' (first | (with_reducible exact Below.refl _ _) | (with_reducible assumption) | (with_reducible refine Below.drew ?_) | (with_reducible refine below_drewN ?_ _) | (with_reducible refine Below.alloc ?_ ?_ _) | (with_reducible refine Below.setCell ?_ ?_ _) | (refine Below.trans ?_ (Below.mono (by assumption) (by first | omega | (with_reducible exact Below.size (by assumption)) | (simp; done) | (simp; omega)))) | (with_reducible exact Nat.le_refl _) | omega | (with_reducible exact Below.size (by assumption)) | (simp only [World.size_alloc, World.size_setCell, World.size_drew]; omega) | (simp; done) | (simp; omega)))
      clear hA3 hB3 hb4 a0 a1 af0 af1 al b0 b1 bf0 bf1 bl
      obtain ⟨a0, a1, af0, af1, al⟩ := hA4.two
      obtain ⟨b0, b1, bf0, bf1, bl⟩ := hB4.two
      go_wp2_with fail
      refine (iFracLess_any _ _ _ _ _).mono ?_
      rintro e w5 ⟨rfl, hb5⟩
      rw [less_irrefl]
      have hA5 := Blk.belowAll hA4 hb5
      have hB5 := Blk.belowAll hB4 hb5
      have hbel5 : Below w.heap.size w w5 := by (repeat' (first | (with_reducible exact Below.refl _ _) | (with_reducible assumption) | (with_reducible refine Below.drew ?_) | (with_reducible refine below_drewN ?_ _) | (with_reducible refine Below.alloc ?_ ?_ _) | (with_reducible refine Below.setCell ?_ ?_ _) | (refine Below.trans ?_ (Below.mono (by assumption) (by first | omega | (with_reducible exact Below.size (by assumption)) | (simp; done) | (simp; omega)))) | (with_reducible exact Nat.le_refl _) | omega | (with_reducible exact Below.size (by assumption)) | (simp only [World.size_alloc, World.size_setCell, World.size_drew]; omega) | (simp; done) | (simp; omega)))
      clear hA4 hB4 hb5 a0 a1 af0 af1 al b0 b1 bf0 bf1 bl
      obtain ⟨a0, a1, af0, af1, al⟩ := hA5.two
      obtain ⟨b0, b1, bf0, bf1, bl⟩ := hB5.two
      go_wp2_with fail
      refine (iFracValid_any _ _ _).mono ?_
      rintro e w6 ⟨rfl, rfl⟩
      rw [V1.out]
      go_wp2_with fail
      refine (iFracValid_any _ _ _).mono ?_
      rintro e w6 ⟨rfl, rfl⟩
      rw [V2.out]
      go_wp2_with fail
      refine (alive_any _).mono ?_
      rintro e w7 ⟨rfl, hb7⟩
      go_wp2
      go_returns
      exact ⟨rfl, by (repeat' (first | (with_reducible exact Below.refl _ _) | (with_reducible assumption) | (with_reducible refine Below.drew ?_) | (with_reducible refine below_drewN ?_ _) | (with_reducible refine Below.alloc ?_ ?_ _) | (with_reducible refine Below.setCell ?_ ?_ _) | (refine Below.trans ?_ (Below.mono (by assumption) (by first | omega | (with_reducible exact Below.size (by assumption)) | (simp; done) | (simp; omega)))) | (with_reducible exact Nat.le_refl _) | omega | (with_reducible exact Below.size (by assumption)) | (simp only [World.size_alloc, World.size_setCell, World.size_drew]; omega) | (simp; done) | (simp; omega)))⟩

set_option maxHeartbeats 2000000 in
theorem wTrunksFor (a : Option Addr) (len cap : Nat) (zs : List Int) (w : World) (h0 : IsRow .u8 w a len cap zs) :
    Calls Try.prog 16 #[.slice a len cap] w fun e w' => e = .returned (.bool true) ∧ Below w.heap.size w w' := by
  have h := h0.code
  have hm := h.bd
  by_cases hbig : len > 1048576
  · go_enter Try.func16, Try.ntmps16
    go_wp2
    go_returns
    exact ⟨rfl, Below.refl _ _⟩
  · go_enter Try.func16, Try.ntmps16
    go_wp2_with fail
    refine (DrawTrunksFor_any _ _ _ _ _ h).mono ?_
    rintro e w1 ⟨l, x, y, rfl, k1, k2, k3, k4, k5, k6, hb1⟩
    have hz1 := hb1.size
    have hB := Blk.new (w := w1) (cs := #[.int .i64 x, .int .i64 y]) (T := 25) rfl
    go_wp2_with fail
    refine (iTrunks_any _ _ _ _).mono ?_
    rintro e w2 ⟨n, rfl, hn, hb2⟩
    have hB2 := Blk.belowAll hB hb2
    have hbel2 : Below w.heap.size w w2 := by (repeat' (first | (with_reducible exact Below.refl _ _) | (with_reducible assumption) | (with_reducible refine Below.drew ?_) | (with_reducible refine below_drewN ?_ _) | (with_reducible refine Below.alloc ?_ ?_ _) | (with_reducible refine Below.setCell ?_ ?_ _) | (refine Below.trans ?_ (Below.mono (by assumption) (by first | omega | (with_reducible exact Below.size (by assumption)) | (simp; done) | (simp; omega)))) | (with_reducible exact Nat.le_refl _) | omega | (with_reducible exact Below.size (by assumption)) | (simp only [World.size_alloc, World.size_setCell, World.size_drew]; omega) | (simp; done) | (simp; omega)))
    obtain ⟨b0, b1, bf0, bf1, bl⟩ := hB2.two
    clear hb2 hB
    go_wp2_with fail
    refine (sTrunks_any _ _ _ _).mono ?_
    rintro e w3 ⟨m, rfl, hm', hb3⟩
    obtain rfl := hm'.unique hn
    have hB3 := Blk.belowAll hB2 hb3
    have hbel3 : Below w.heap.size w w3 := by (repeat' (first | (with_reducible exact Below.refl _ _) | (with_reducible assumption) | (with_reducible refine Below.drew ?_) | (with_reducible refine below_drewN ?_ _) | (with_reducible refine Below.alloc ?_ ?_ _) | (with_reducible refine Below.setCell ?_ ?_ _) | (refine Below.trans ?_ (Below.mono (by assumption) (by first | omega | (with_reducible exact Below.size (by assumption)) | (simp; done) | (simp; omega)))) | (with_reducible exact Nat.le_refl _) | omega | (with_reducible exact Below.size (by assumption)) | (simp only [World.size_alloc, World.size_setCell, World.size_drew]; omega) | (simp; done) | (simp; omega)))
    clear hb3 hB2 b0 b1 bf0 bf1 bl hm'
    obtain ⟨b0, b1, bf0, bf1, bl⟩ := hB3.two
    have hneg : m = -1 ∨ ∃ j : Nat, j ≤ 8 ∧ m = j ∧ 0 ≤ l ∧ l ≤ 6 ∧ trLess l x y j = false ∧ ∀ i, i < j → trLess l x y i = true := by
      rcases hn with ⟨_, h⟩ | ⟨_, h, _⟩ | ⟨h1, j, h2, h3, h4, h5⟩
      · exact .inl h
      · exact .inl h
      · have : 0 ≤ l ∧ l ≤ 6 ∧ fracValidB x y = true := by simpa [trOk, and_assoc] using h1
        exact .inr ⟨j, h2, h3, this.1, this.2.1, h4, h5⟩
    clear hn
    rcases hneg with rfl | ⟨j, hj, rfl, hl0, hl6, hno, hall⟩
    · go_wp2_with fail
      refine (alive_any _).mono ?_
      rintro e w4 ⟨rfl, hb4⟩
      go_wp2
      go_returns
      exact ⟨rfl, by (repeat' (first | (with_reducible exact Below.refl _ _) | (with_reducible assumption) | (with_reducible refine Below.drew ?_) | (with_reducible refine below_drewN ?_ _) | (with_reducible refine Below.alloc ?_ ?_ _) | (with_reducible refine Below.setCell ?_ ?_ _) | (refine Below.trans ?_ (Below.mono (by assumption) (by first | omega | (with_reducible exact Below.size (by assumption)) | (simp; done) | (simp; omega)))) | (with_reducible exact Nat.le_refl _) | omega | (with_reducible exact Below.size (by assumption)) | (simp only [World.size_alloc, World.size_setCell, World.size_drew]; omega) | (simp; done) | (simp; omega)))⟩
    · have HNO : Hid (fracLessB x y (lostN l j) (lostD l j) = false) := hno
      have HALL := Lib.hid hall
      clear hno hall
      have hok : loadOk l j = true := (loadOk_iff _ _).2 ⟨hl0, hl6, by omega, by omega⟩
      go_wp2_with fail
      refine (iLostPart_any _ _ _).mono ?_
      rintro e w4 ⟨rfl, hb4⟩
      rw [hok]
      have hz4 := hb4.size
      have hB4 := Blk.belowAll hB3 hb4
      have hbel4 : Below w.heap.size w w4 := by (repeat' (first | (with_reducible exact Below.refl _ _) | (with_reducible assumption) | (with_reducible refine Below.drew ?_) | (with_reducible refine below_drewN ?_ _) | (with_reducible refine Below.alloc ?_ ?_ _) | (with_reducible refine Below.setCell ?_ ?_ _) | (refine Below.trans ?_ (Below.mono (by assumption) (by first | omega | (with_reducible exact Below.size (by assumption)) | (simp; done) | (simp; omega)))) | (with_reducible exact Nat.le_refl _) | omega | (with_reducible exact Below.size (by assumption)) | (simp only [World.size_alloc, World.size_setCell, World.size_drew]; omega) | (simp; done) | (simp; omega)))
      clear hb4 hB3 b0 b1 bf0 bf1 bl hok
      obtain ⟨b0, b1, bf0, bf1, bl⟩ := hB4.two
      have hP := Blk.new (w := w4) (cs := #[.int .i64 (lostN l j), .int .i64 (lostD l j)]) (T := 25) rfl
      go_wp2_with fail
      refine (iLostPart_any _ _ _).mono ?_
      rintro e w5 ⟨rfl, hb5⟩
      have hB5 := Blk.belowAll (hB4.alloc _) hb5
      have hP5 := Blk.belowAll hP hb5
      have hbel5 : Below w.heap.size w w5 := by (repeat' (first | (with_reducible exact Below.refl _ _) | (with_reducible assumption) | (with_reducible refine Below.drew ?_) | (with_reducible refine below_drewN ?_ _) | (with_reducible refine Below.alloc ?_ ?_ _) | (with_reducible refine Below.setCell ?_ ?_ _) | (refine Below.trans ?_ (Below.mono (by assumption) (by first | omega | (with_reducible exact Below.size (by assumption)) | (simp; done) | (simp; omega)))) | (with_reducible exact Nat.le_refl _) | omega | (with_reducible exact Below.size (by assumption)) | (simp only [World.size_alloc, World.size_setCell, World.size_drew]; omega) | (simp; done) | (simp; omega)))
      clear hb5 hB4 hP b0 b1 bf0 bf1 bl
      obtain ⟨b0, b1, bf0, bf1, bl⟩ := hB5.two
      obtain ⟨p0, p1, pf0, pf1, pl⟩ := hP5.two
      obtain ⟨o, ho⟩ : ∃ o, loadOk l ((j : Int) - 1) = o := ⟨_, rfl⟩
      obtain ⟨qn, hqn⟩ : ∃ o, lostN l ((j : Int) - 1) = o := ⟨_, rfl⟩
      obtain ⟨qd, hqd⟩ : ∃ o, lostD l ((j : Int) - 1) = o := ⟨_, rfl⟩
      have hq : o = true → fracLessB x y qn qd = true := by
        intro h1
        have h2 := (loadOk_iff _ _).1 (ho.trans h1)
        have h3 := HALL.out (j - 1) (by omega)
        rw [← hqn, ← hqd, show (j : Int) - 1 = ((j - 1 : Nat) : Int) from by omega]
        exact h3
      have HQ := Lib.hid hq
      rw [ho, hqn, hqd]
      clear ho hqn hqd hq
      have hB5' := hB5.alloc (.cells #[.int .i64 qn, .int .i64 qd] 25)
      have hQ5 := Blk.new (w := w5) (cs := #[.int .i64 qn, .int .i64 qd]) (T := 25) rfl
      cases o
      · go_wp2_with fail
        refine (iFracLess_any _ _ _ _ _).mono ?_
        rintro e w6 ⟨rfl, hb6⟩
        rw [HNO.out]
        go_wp2
        go_returns
        exact ⟨rfl, by (repeat' (first | (with_reducible exact Below.refl _ _) | (with_reducible assumption) | (with_reducible refine Below.drew ?_) | (with_reducible refine below_drewN ?_ _) | (with_reducible refine Below.alloc ?_ ?_ _) | (with_reducible refine Below.setCell ?_ ?_ _) | (refine Below.trans ?_ (Below.mono (by assumption) (by first | omega | (with_reducible exact Below.size (by assumption)) | (simp; done) | (simp; omega)))) | (with_reducible exact Nat.le_refl _) | omega | (with_reducible exact Below.size (by assumption)) | (simp only [World.size_alloc, World.size_setCell, World.size_drew]; omega) | (simp; done) | (simp; omega)))⟩
      · go_wp2_with fail
        refine (iFracLess_any _ _ _ _ _).mono ?_
        rintro e w6 ⟨rfl, hb6⟩
        rw [HNO.out]
        have hB6 := Blk.belowAll hB5' hb6
        have hQ6 := Blk.belowAll hQ5 hb6
        have hbel6 : Below w.heap.size w w6 := by (repeat' (first | (with_reducible exact Below.refl _ _) | (with_reducible assumption) | (with_reducible refine Below.drew ?_) | (with_reducible refine below_drewN ?_ _) | (with_reducible refine Below.alloc ?_ ?_ _) | (with_reducible refine Below.setCell ?_ ?_ _) | (refine Below.trans ?_ (Below.mono (by assumption) (by first | omega | (with_reducible exact Below.size (by assumption)) | (simp; done) | (simp; omega)))) | (with_reducible exact Nat.le_refl _) | omega | (with_reducible exact Below.size (by assumption)) | (simp only [World.size_alloc, World.size_setCell, World.size_drew]; omega) | (simp; done) | (simp; omega)))
        clear hb6 hB5 hP5 b0 b1 bf0 bf1 bl p0 p1 pf0 pf1 pl hB5' hQ5
        obtain ⟨b0, b1, bf0, bf1, bl⟩ := hB6.two
        obtain ⟨p0, p1, pf0, pf1, pl⟩ := hQ6.two
        go_wp2_with fail
        refine (iFracLess_any _ _ _ _ _).mono ?_
        rintro e w7 ⟨rfl, hb7⟩
        rw [HQ.out trivial]
        go_wp2
        go_returns
        exact ⟨rfl, by (repeat' (first | (with_reducible exact Below.refl _ _) | (with_reducible assumption) | (with_reducible refine Below.drew ?_) | (with_reducible refine below_drewN ?_ _) | (with_reducible refine Below.alloc ?_ ?_ _) | (with_reducible refine Below.setCell ?_ ?_ _) | (refine Below.trans ?_ (Below.mono (by assumption) (by first | omega | (with_reducible exact Below.size (by assumption)) | (simp; done) | (simp; omega)))) | (with_reducible exact Nat.le_refl _) | omega | (with_reducible exact Below.size (by assumption)) | (simp only [World.size_alloc, World.size_setCell, World.size_drew]; omega) | (simp; done) | (simp; omega)))⟩

end Go.Proofs.Ytmckjikdecmagaa
