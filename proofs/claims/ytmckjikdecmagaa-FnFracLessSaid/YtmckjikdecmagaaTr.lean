/- Contracts of TrunksFor (program and reference). -/
import Derived.Test.YtmckjikdecmagaaSev
set_option linter.unusedSimpArgs false
set_option linter.unusedVariables false
namespace Go.Proofs.Ytmckjikdecmagaa
open Go.RowKit

def trOk (l a b : Int) : Bool := decide (0 ≤ l) && decide (l ≤ 6) && fracValidB a b
def trLess (l a b : Int) (n : Nat) : Bool := fracLessB a b (lostN l n) (lostD l n)

set_option maxHeartbeats 1000000 in
theorem iTrunks_any (l a b : Int) (w : World) :
    Calls Try.prog 38 #[.int .i64 l, .agg #[.int .i64 a, .int .i64 b]] w fun e w' => ∃ x : Int, e = .returned (.int .i64 x) ∧ IsTrunks (trLess l a b) (trOk l a b) x ∧ Below w.heap.size w w' := by
  by_cases hok : trOk l a b = true
  · have hv : 0 ≤ l ∧ l ≤ 6 ∧ fracValidB a b = true := by simpa [trOk, and_assoc] using hok
    obtain ⟨h1, h2, h3⟩ := hv
    have HOK := Lib.hid hok
    clear hok
    have hB0 := Blk.new (w := w) (cs := #[.int .i64 a, .int .i64 b]) (T := 25) rfl
    have hd : (decide (0 ≤ l) && decide (l ≤ 6)) = true := by simp [h1, h2]
    go_enter Try.func38, Try.ntmps38
    go_wp2_with (go_at_call 19; refine (iFracValid_any _ _ _).mono ?_; rintro e w1 ⟨rfl, rfl⟩)
    go_loopw [19] (fun i wr => ∃ j : Nat, Hid (∀ m, m < j → trLess l a b m = true) ∧ j ≤ 9 ∧ i = .int .i64 j ∧ Blk wr w.heap.size #[.int .i64 a, .int .i64 b] 25 ∧ Below w.heap.size w wr) (fun i _ => 9 - (intOf i).toNat)
    case atStart => exact ⟨0, fun m hm => absurd hm (by omega), by omega, rfl, by (repeat' (first | (with_reducible assumption) | rfl | omega | (with_reducible exact Blk.new (by first | rfl | (simp; done) | (simp; omega))) | (with_reducible apply Blk.set) | (with_reducible apply Blk.other (by first | (simp; done) | (simp; omega) | omega)) | (with_reducible apply Blk.alloc) | (with_reducible apply Blk.drewN) | (with_reducible apply Blk.drew) | (with_reducible apply Blk.below) | (simp; omega))), by (repeat' (first | (with_reducible exact Below.refl _ _) | (with_reducible assumption) | (with_reducible refine Below.drew ?_) | (with_reducible refine below_drewN ?_ _) | (with_reducible refine Below.alloc ?_ ?_ _) | (with_reducible refine Below.setCell ?_ ?_ _) | (refine Below.trans ?_ (Below.mono (by assumption) (by first | omega | (with_reducible exact Below.size (by assumption)) | (simp; done) | (simp; omega)))) | (with_reducible exact Nat.le_refl _) | omega | (with_reducible exact Below.size (by assumption)) | (simp only [World.size_alloc, World.size_setCell, World.size_drew]; omega) | (simp; done) | (simp; omega)))⟩
    case round =>
      obtain ⟨j, hlt, hj, rfl, hB, hbel⟩ := hrel
      obtain ⟨c0, c1, f0, f1, l0⟩ := hB.two
      have hz0 := hbel.size
      by_cases hj9 : j < 9
      · go_wp2_with (first | (go_at_call 19; refine (iFracValid_any _ _ _).mono ?_; rintro e w1 ⟨rfl, rfl⟩) | (go_at_call 46; refine (sIn_any _ _ _ _).mono ?_; rintro e w1 ⟨rfl, rfl⟩))
        refine (iLostPart_any _ _ _).mono ?_
        rintro e w2 ⟨rfl, hb2⟩
        have hz2 := hb2.size
        have hB2 : Blk w2 w.heap.size #[.int .i64 a, .int .i64 b] 25 := by (repeat' (first | (with_reducible assumption) | rfl | omega | (with_reducible exact Blk.new (by first | rfl | (simp; done) | (simp; omega))) | (with_reducible apply Blk.set) | (with_reducible apply Blk.other (by first | (simp; done) | (simp; omega) | omega)) | (with_reducible apply Blk.alloc) | (with_reducible apply Blk.drewN) | (with_reducible apply Blk.drew) | (with_reducible apply Blk.below) | (simp; omega)))
        clear c0 c1 f0 f1
        obtain ⟨c0, c1, f0, f1, l2⟩ := hB2.two
        try simp only [World.size_alloc] at hz2
        go_wp2_with fail
        refine (iFracLess_any _ _ _ _ _).mono ?_
        rintro e w3 ⟨rfl, hb3⟩
        have hz3 := hb3.size
        have hB3 : Blk w3 w.heap.size #[.int .i64 a, .int .i64 b] 25 := by (repeat' (first | (with_reducible assumption) | rfl | omega | (with_reducible exact Blk.new (by first | rfl | (simp; done) | (simp; omega))) | (with_reducible apply Blk.set) | (with_reducible apply Blk.other (by first | (simp; done) | (simp; omega) | omega)) | (with_reducible apply Blk.alloc) | (with_reducible apply Blk.drewN) | (with_reducible apply Blk.drew) | (with_reducible apply Blk.below) | (simp; omega)))
        have hbel3 : Below w.heap.size w w3 := by (repeat' (first | (with_reducible exact Below.refl _ _) | (with_reducible assumption) | (with_reducible refine Below.drew ?_) | (with_reducible refine below_drewN ?_ _) | (with_reducible refine Below.alloc ?_ ?_ _) | (with_reducible refine Below.setCell ?_ ?_ _) | (refine Below.trans ?_ (Below.mono (by assumption) (by first | omega | (with_reducible exact Below.size (by assumption)) | (simp; done) | (simp; omega)))) | (with_reducible exact Nat.le_refl _) | omega | (with_reducible exact Below.size (by assumption)) | (simp only [World.size_alloc, World.size_setCell, World.size_drew]; omega) | (simp; done) | (simp; omega)))
        clear c0 c1 f0 f1
        by_cases hless : fracLessB a b (lostN l j) (lostD l j) = true
        · rw [hless]
          go_wp2_with fail
          go_roundw
          case rel =>
            refine ⟨j + 1, fun m hm => ?_, by omega, by go_num, hB3, hbel3⟩
            by_cases hmj : m < j
            · exact hlt.out m hmj
            · obtain rfl : m = j := by omega
              exact hless
          case measure => simp [intOf]; omega
        · have hless' : fracLessB a b (lostN l j) (lostD l j) = false := by simpa using hless
          rw [hless']
          go_wp2_with fail
          go_returns
          exact ⟨_, rfl, .inr (.inr ⟨HOK.out, j, by omega, rfl, hless', hlt.out⟩), hbel3⟩
      · go_wp2_with (first | (go_at_call 19; refine (iFracValid_any _ _ _).mono ?_; rintro e w1 ⟨rfl, rfl⟩) | (go_at_call 46; refine (sIn_any _ _ _ _).mono ?_; rintro e w1 ⟨rfl, rfl⟩))
        go_returns
        exact ⟨_, rfl, .inr (.inl ⟨HOK.out, rfl, fun m hm => hlt.out m (by omega)⟩), by (repeat' (first | (with_reducible exact Below.refl _ _) | (with_reducible assumption) | (with_reducible refine Below.drew ?_) | (with_reducible refine below_drewN ?_ _) | (with_reducible refine Below.alloc ?_ ?_ _) | (with_reducible refine Below.setCell ?_ ?_ _) | (refine Below.trans ?_ (Below.mono (by assumption) (by first | omega | (with_reducible exact Below.size (by assumption)) | (simp; done) | (simp; omega)))) | (with_reducible exact Nat.le_refl _) | omega | (with_reducible exact Below.size (by assumption)) | (simp only [World.size_alloc, World.size_setCell, World.size_drew]; omega) | (simp; done) | (simp; omega)))⟩
  · have hno : trOk l a b = false := by simpa using hok
    have hx : ∀ x : Int, x = -1 → IsTrunks (trLess l a b) (trOk l a b) x := fun x hx => .inl ⟨hno, hx⟩
    have HX := Lib.hid hx
    clear hx
    have hno2 : (decide (0 ≤ l) && decide (l ≤ 6) && fracValidB a b) = false := hno
    clear hno hok
    by_cases h1 : 0 ≤ l
    · by_cases h2 : l ≤ 6
      · have h3 : fracValidB a b = false := by simpa [h1, h2] using hno2
        have hd : (decide (0 ≤ l) && decide (l ≤ 6)) = true := by simp [h1, h2]
        clear hno2
        go_enter Try.func38, Try.ntmps38
        go_wp2_with (go_at_call 19; refine (iFracValid_any _ _ _).mono ?_; rintro e w1 ⟨rfl, rfl⟩)
        all_goals try (refine wp_loop_rounds 1 ?_; rw [rounds_succ]; go_wp2_with (first | (go_at_call 19; refine (iFracValid_any _ _ _).mono ?_; rintro e w1 ⟨rfl, rfl⟩) | (go_at_call 46; refine (sIn_any _ _ _ _).mono ?_; rintro e w1 ⟨rfl, rfl⟩)))
        go_returns
        exact ⟨_, rfl, HX.out _ rfl, by (repeat' (first | (with_reducible exact Below.refl _ _) | (with_reducible assumption) | (with_reducible refine Below.drew ?_) | (with_reducible refine below_drewN ?_ _) | (with_reducible refine Below.alloc ?_ ?_ _) | (with_reducible refine Below.setCell ?_ ?_ _) | (refine Below.trans ?_ (Below.mono (by assumption) (by first | omega | (with_reducible exact Below.size (by assumption)) | (simp; done) | (simp; omega)))) | (with_reducible exact Nat.le_refl _) | omega | (with_reducible exact Below.size (by assumption)) | (simp only [World.size_alloc, World.size_setCell, World.size_drew]; omega) | (simp; done) | (simp; omega)))⟩
      · have hd : (decide (0 ≤ l) && decide (l ≤ 6)) = false := by simp [h2]
        clear hno2
        go_enter Try.func38, Try.ntmps38
        go_wp2_with (go_at_call 19; refine (iFracValid_any _ _ _).mono ?_; rintro e w1 ⟨rfl, rfl⟩)
        all_goals try (refine wp_loop_rounds 1 ?_; rw [rounds_succ]; go_wp2_with (first | (go_at_call 19; refine (iFracValid_any _ _ _).mono ?_; rintro e w1 ⟨rfl, rfl⟩) | (go_at_call 46; refine (sIn_any _ _ _ _).mono ?_; rintro e w1 ⟨rfl, rfl⟩)))
        go_returns
        exact ⟨_, rfl, HX.out _ rfl, by (repeat' (first | (with_reducible exact Below.refl _ _) | (with_reducible assumption) | (with_reducible refine Below.drew ?_) | (with_reducible refine below_drewN ?_ _) | (with_reducible refine Below.alloc ?_ ?_ _) | (with_reducible refine Below.setCell ?_ ?_ _) | (refine Below.trans ?_ (Below.mono (by assumption) (by first | omega | (with_reducible exact Below.size (by assumption)) | (simp; done) | (simp; omega)))) | (with_reducible exact Nat.le_refl _) | omega | (with_reducible exact Below.size (by assumption)) | (simp only [World.size_alloc, World.size_setCell, World.size_drew]; omega) | (simp; done) | (simp; omega)))⟩
    · have hd : (decide (0 ≤ l) && decide (l ≤ 6)) = false := by simp [h1]
      clear hno2
      go_enter Try.func38, Try.ntmps38
      go_wp2_with (go_at_call 19; refine (iFracValid_any _ _ _).mono ?_; rintro e w1 ⟨rfl, rfl⟩)
      all_goals try (refine wp_loop_rounds 1 ?_; rw [rounds_succ]; go_wp2_with (first | (go_at_call 19; refine (iFracValid_any _ _ _).mono ?_; rintro e w1 ⟨rfl, rfl⟩) | (go_at_call 46; refine (sIn_any _ _ _ _).mono ?_; rintro e w1 ⟨rfl, rfl⟩)))
      go_returns
      exact ⟨_, rfl, HX.out _ rfl, by (repeat' (first | (with_reducible exact Below.refl _ _) | (with_reducible assumption) | (with_reducible refine Below.drew ?_) | (with_reducible refine below_drewN ?_ _) | (with_reducible refine Below.alloc ?_ ?_ _) | (with_reducible refine Below.setCell ?_ ?_ _) | (refine Below.trans ?_ (Below.mono (by assumption) (by first | omega | (with_reducible exact Below.size (by assumption)) | (simp; done) | (simp; omega)))) | (with_reducible exact Nat.le_refl _) | omega | (with_reducible exact Below.size (by assumption)) | (simp only [World.size_alloc, World.size_setCell, World.size_drew]; omega) | (simp; done) | (simp; omega)))⟩
set_option maxHeartbeats 1000000 in
theorem sTrunks_any (l a b : Int) (w : World) :
    Calls Try.prog 37 #[.int .i64 l, .agg #[.int .i64 a, .int .i64 b]] w fun e w' => ∃ x : Int, e = .returned (.int .i64 x) ∧ IsTrunks (trLess l a b) (trOk l a b) x ∧ Below w.heap.size w w' := by
  by_cases hok : trOk l a b = true
  · have hv : 0 ≤ l ∧ l ≤ 6 ∧ fracValidB a b = true := by simpa [trOk, and_assoc] using hok
    obtain ⟨h1, h2, h3⟩ := hv
    have HOK := Lib.hid hok
    clear hok
    have hB0 := Blk.new (w := w) (cs := #[.int .i64 a, .int .i64 b]) (T := 25) rfl
    have hd : (decide (0 ≤ l) && decide (l ≤ 6)) = true := by simp [h1, h2]
    go_enter Try.func37, Try.ntmps37
    go_wp2_with (go_at_call 17; refine (sFracValid_any _ _ _).mono ?_; rintro e w1 ⟨rfl, rfl⟩)
    go_loopw [5] (fun i wr => ∃ j : Nat, Hid (∀ m, m < j → trLess l a b m = true) ∧ j ≤ 9 ∧ i = .int .i64 j ∧ Blk wr w.heap.size #[.int .i64 a, .int .i64 b] 25 ∧ Below w.heap.size w wr) (fun i _ => 9 - (intOf i).toNat)
    case atStart => exact ⟨0, fun m hm => absurd hm (by omega), by omega, rfl, by (repeat' (first | (with_reducible assumption) | rfl | omega | (with_reducible exact Blk.new (by first | rfl | (simp; done) | (simp; omega))) | (with_reducible apply Blk.set) | (with_reducible apply Blk.other (by first | (simp; done) | (simp; omega) | omega)) | (with_reducible apply Blk.alloc) | (with_reducible apply Blk.drewN) | (with_reducible apply Blk.drew) | (with_reducible apply Blk.below) | (simp; omega))), by (repeat' (first | (with_reducible exact Below.refl _ _) | (with_reducible assumption) | (with_reducible refine Below.drew ?_) | (with_reducible refine below_drewN ?_ _) | (with_reducible refine Below.alloc ?_ ?_ _) | (with_reducible refine Below.setCell ?_ ?_ _) | (refine Below.trans ?_ (Below.mono (by assumption) (by first | omega | (with_reducible exact Below.size (by assumption)) | (simp; done) | (simp; omega)))) | (with_reducible exact Nat.le_refl _) | omega | (with_reducible exact Below.size (by assumption)) | (simp only [World.size_alloc, World.size_setCell, World.size_drew]; omega) | (simp; done) | (simp; omega)))⟩
    case round =>
      obtain ⟨j, hlt, hj, rfl, hB, hbel⟩ := hrel
      obtain ⟨c0, c1, f0, f1, l0⟩ := hB.two
      have hz0 := hbel.size
      by_cases hj9 : j < 9
      · go_wp2_with (first | (go_at_call 17; refine (sFracValid_any _ _ _).mono ?_; rintro e w1 ⟨rfl, rfl⟩) | (go_at_call 46; refine (sIn_any _ _ _ _).mono ?_; rintro e w1 ⟨rfl, rfl⟩))
        refine (sLostPart_any _ _ _).mono ?_
        rintro e w2 ⟨rfl, hb2⟩
        have hz2 := hb2.size
        have hB2 : Blk w2 w.heap.size #[.int .i64 a, .int .i64 b] 25 := by (repeat' (first | (with_reducible assumption) | rfl | omega | (with_reducible exact Blk.new (by first | rfl | (simp; done) | (simp; omega))) | (with_reducible apply Blk.set) | (with_reducible apply Blk.other (by first | (simp; done) | (simp; omega) | omega)) | (with_reducible apply Blk.alloc) | (with_reducible apply Blk.drewN) | (with_reducible apply Blk.drew) | (with_reducible apply Blk.below) | (simp; omega)))
        clear c0 c1 f0 f1
        obtain ⟨c0, c1, f0, f1, l2⟩ := hB2.two
        try simp only [World.size_alloc] at hz2
        go_wp2_with fail
        refine (sFracLess_any _ _ _ _ _).mono ?_
        rintro e w3 ⟨rfl, hb3⟩
        have hz3 := hb3.size
        have hB3 : Blk w3 w.heap.size #[.int .i64 a, .int .i64 b] 25 := by (repeat' (first | (with_reducible assumption) | rfl | omega | (with_reducible exact Blk.new (by first | rfl | (simp; done) | (simp; omega))) | (with_reducible apply Blk.set) | (with_reducible apply Blk.other (by first | (simp; done) | (simp; omega) | omega)) | (with_reducible apply Blk.alloc) | (with_reducible apply Blk.drewN) | (with_reducible apply Blk.drew) | (with_reducible apply Blk.below) | (simp; omega)))
        have hbel3 : Below w.heap.size w w3 := by (repeat' (first | (with_reducible exact Below.refl _ _) | (with_reducible assumption) | (with_reducible refine Below.drew ?_) | (with_reducible refine below_drewN ?_ _) | (with_reducible refine Below.alloc ?_ ?_ _) | (with_reducible refine Below.setCell ?_ ?_ _) | (refine Below.trans ?_ (Below.mono (by assumption) (by first | omega | (with_reducible exact Below.size (by assumption)) | (simp; done) | (simp; omega)))) | (with_reducible exact Nat.le_refl _) | omega | (with_reducible exact Below.size (by assumption)) | (simp only [World.size_alloc, World.size_setCell, World.size_drew]; omega) | (simp; done) | (simp; omega)))
        clear c0 c1 f0 f1
        by_cases hless : fracLessB a b (lostN l j) (lostD l j) = true
        · rw [hless]
          go_wp2_with fail
          go_roundw
          case rel =>
            refine ⟨j + 1, fun m hm => ?_, by omega, by go_num, hB3, hbel3⟩
            by_cases hmj : m < j
            · exact hlt.out m hmj
            · obtain rfl : m = j := by omega
              exact hless
          case measure => simp [intOf]; omega
        · have hless' : fracLessB a b (lostN l j) (lostD l j) = false := by simpa using hless
          rw [hless']
          go_wp2_with fail
          go_returns
          exact ⟨_, rfl, .inr (.inr ⟨HOK.out, j, by omega, rfl, hless', hlt.out⟩), hbel3⟩
      · go_wp2_with (first | (go_at_call 17; refine (sFracValid_any _ _ _).mono ?_; rintro e w1 ⟨rfl, rfl⟩) | (go_at_call 46; refine (sIn_any _ _ _ _).mono ?_; rintro e w1 ⟨rfl, rfl⟩))
        go_returns
        exact ⟨_, rfl, .inr (.inl ⟨HOK.out, rfl, fun m hm => hlt.out m (by omega)⟩), by (repeat' (first | (with_reducible exact Below.refl _ _) | (with_reducible assumption) | (with_reducible refine Below.drew ?_) | (with_reducible refine below_drewN ?_ _) | (with_reducible refine Below.alloc ?_ ?_ _) | (with_reducible refine Below.setCell ?_ ?_ _) | (refine Below.trans ?_ (Below.mono (by assumption) (by first | omega | (with_reducible exact Below.size (by assumption)) | (simp; done) | (simp; omega)))) | (with_reducible exact Nat.le_refl _) | omega | (with_reducible exact Below.size (by assumption)) | (simp only [World.size_alloc, World.size_setCell, World.size_drew]; omega) | (simp; done) | (simp; omega)))⟩
  · have hno : trOk l a b = false := by simpa using hok
    have hx : ∀ x : Int, x = -1 → IsTrunks (trLess l a b) (trOk l a b) x := fun x hx => .inl ⟨hno, hx⟩
    have HX := Lib.hid hx
    clear hx
    have hno2 : (decide (0 ≤ l) && decide (l ≤ 6) && fracValidB a b) = false := hno
    clear hno hok
    by_cases h1 : 0 ≤ l
    · by_cases h2 : l ≤ 6
      · have h3 : fracValidB a b = false := by simpa [h1, h2] using hno2
        have hd : (decide (0 ≤ l) && decide (l ≤ 6)) = true := by simp [h1, h2]
        clear hno2
        go_enter Try.func37, Try.ntmps37
        go_wp2_with (go_at_call 17; refine (sFracValid_any _ _ _).mono ?_; rintro e w1 ⟨rfl, rfl⟩)
        all_goals try (refine wp_loop_rounds 1 ?_; rw [rounds_succ]; go_wp2_with (first | (go_at_call 17; refine (sFracValid_any _ _ _).mono ?_; rintro e w1 ⟨rfl, rfl⟩) | (go_at_call 46; refine (sIn_any _ _ _ _).mono ?_; rintro e w1 ⟨rfl, rfl⟩)))
        go_returns
        exact ⟨_, rfl, HX.out _ rfl, by (repeat' (first | (with_reducible exact Below.refl _ _) | (with_reducible assumption) | (with_reducible refine Below.drew ?_) | (with_reducible refine below_drewN ?_ _) | (with_reducible refine Below.alloc ?_ ?_ _) | (with_reducible refine Below.setCell ?_ ?_ _) | (refine Below.trans ?_ (Below.mono (by assumption) (by first | omega | (with_reducible exact Below.size (by assumption)) | (simp; done) | (simp; omega)))) | (with_reducible exact Nat.le_refl _) | omega | (with_reducible exact Below.size (by assumption)) | (simp only [World.size_alloc, World.size_setCell, World.size_drew]; omega) | (simp; done) | (simp; omega)))⟩
      · have hd : (decide (0 ≤ l) && decide (l ≤ 6)) = false := by simp [h2]
        clear hno2
        go_enter Try.func37, Try.ntmps37
        go_wp2_with (go_at_call 17; refine (sFracValid_any _ _ _).mono ?_; rintro e w1 ⟨rfl, rfl⟩)
        all_goals try (refine wp_loop_rounds 1 ?_; rw [rounds_succ]; go_wp2_with (first | (go_at_call 17; refine (sFracValid_any _ _ _).mono ?_; rintro e w1 ⟨rfl, rfl⟩) | (go_at_call 46; refine (sIn_any _ _ _ _).mono ?_; rintro e w1 ⟨rfl, rfl⟩)))
        go_returns
        exact ⟨_, rfl, HX.out _ rfl, by (repeat' (first | (with_reducible exact Below.refl _ _) | (with_reducible assumption) | (with_reducible refine Below.drew ?_) | (with_reducible refine below_drewN ?_ _) | (with_reducible refine Below.alloc ?_ ?_ _) | (with_reducible refine Below.setCell ?_ ?_ _) | (refine Below.trans ?_ (Below.mono (by assumption) (by first | omega | (with_reducible exact Below.size (by assumption)) | (simp; done) | (simp; omega)))) | (with_reducible exact Nat.le_refl _) | omega | (with_reducible exact Below.size (by assumption)) | (simp only [World.size_alloc, World.size_setCell, World.size_drew]; omega) | (simp; done) | (simp; omega)))⟩
    · have hd : (decide (0 ≤ l) && decide (l ≤ 6)) = false := by simp [h1]
      clear hno2
      go_enter Try.func37, Try.ntmps37
      go_wp2_with (go_at_call 17; refine (sFracValid_any _ _ _).mono ?_; rintro e w1 ⟨rfl, rfl⟩)
      all_goals try (refine wp_loop_rounds 1 ?_; rw [rounds_succ]; go_wp2_with (first | (go_at_call 17; refine (sFracValid_any _ _ _).mono ?_; rintro e w1 ⟨rfl, rfl⟩) | (go_at_call 46; refine (sIn_any _ _ _ _).mono ?_; rintro e w1 ⟨rfl, rfl⟩)))
      go_returns
      exact ⟨_, rfl, HX.out _ rfl, by (repeat' (first | (with_reducible exact Below.refl _ _) | (with_reducible assumption) | (with_reducible refine Below.drew ?_) | (with_reducible refine below_drewN ?_ _) | (with_reducible refine Below.alloc ?_ ?_ _) | (with_reducible refine Below.setCell ?_ ?_ _) | (refine Below.trans ?_ (Below.mono (by assumption) (by first | omega | (with_reducible exact Below.size (by assumption)) | (simp; done) | (simp; omega)))) | (with_reducible exact Nat.le_refl _) | omega | (with_reducible exact Below.size (by assumption)) | (simp only [World.size_alloc, World.size_setCell, World.size_drew]; omega) | (simp; done) | (simp; omega)))⟩

end Go.Proofs.Ytmckjikdecmagaa
