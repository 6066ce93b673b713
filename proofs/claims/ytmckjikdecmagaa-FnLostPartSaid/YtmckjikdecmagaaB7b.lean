/- The walk of the law of LostPart. -/
import Derived.Test.YtmckjikdecmagaaB7
set_option linter.unusedSimpArgs false
set_option linter.unusedVariables false
namespace Go.Proofs.Ytmckjikdecmagaa
open Go.RowKit

set_option maxHeartbeats 1000000 in
/-- FracLess of two valid fractions, the world written out. -/
theorem iFracLess_yes (a b c d : Int) (r : Bool) (w : World) (h : fracLessB a b c d = r) (h1 : fracValidB a b = true) (h2 : fracValidB c d = true) :
    Calls Try.prog 21 #[.agg #[.int .i64 a, .int .i64 b], .agg #[.int .i64 c, .int .i64 d]] w fun e w' => e = .returned (.bool r) ∧
      (((w.alloc (.cells #[.int .i64 a, .int .i64 b] 25)).alloc (.cells #[.int .i64 c, .int .i64 d] 25)).alloc (.cells #[.int .i64 a, .int .i64 b] 25)).alloc (.cells #[.int .i64 c, .int .i64 d] 25) = w' := by
  obtain ⟨a1, a2, b1, b2⟩ := (fracValidB_iff _ _).1 h1
  obtain ⟨c1, c2, d1, d2⟩ := (fracValidB_iff _ _).1 h2
  obtain ⟨m1, m2⟩ := mul_small a d a1 a2 (by omega) d2
  obtain ⟨m3, m4⟩ := mul_small c b c1 c2 (by omega) b2
  have H := Lib.hid h
  clear h
  go_enter Try.func21, Try.ntmps21
  go_wp2_with fail
  refine ((iFracValid_any _ _ _).mono ?_); rintro e w1 ⟨rfl, rfl⟩
  go_wp2_with fail
  refine ((iFracValid_any _ _ _).mono ?_); rintro e w1 ⟨rfl, rfl⟩
  go_wp2
  all_goals
    go_returns
    refine ⟨?_, rfl⟩
    rw [← H.out]
    simp [fracLessB, h1, h2, *]

theorem lost_valid (l t : Nat) (hl : l ≤ 6) (ht : t ≤ 8) : fracValidB (lostP l t).1 (lostP l t).2 = true := by
  obtain ⟨s1, s2, s3⟩ := lostP_small l hl t ht
  exact (fracValidB_iff _ _).2 ⟨by omega, by omega, by omega, by omega⟩

set_option maxHeartbeats 4000000 in
theorem wLostPart (a : Option Addr) (len cap : Nat) (zs : List Int) (w : World) (h0 : IsRow .u8 w a len cap zs) :
    Calls Try.prog 14 #[.slice a len cap] w fun e w' => e = .returned (.bool true) ∧ Below w.heap.size w w' := by
  have h := h0.code
  have hm := h.bd
  by_cases hbig : len > 1048576
  · go_enter Try.func14, Try.ntmps14
    go_wp2
    go_returns
    exact ⟨rfl, Below.refl _ _⟩
  · go_enter Try.func14, Try.ntmps14
    go_wp2_with fail
    refine (DrawLostPart_any _ _ _ _ _ h).mono ?_
    rintro e w1 ⟨l, t, rfl, k1, k2, k3, k4, hb1⟩
    have hz1 := hb1.size
    obtain ⟨pn, hpn⟩ : ∃ o, lostN l t = o := ⟨_, rfl⟩
    obtain ⟨pd, hpd⟩ : ∃ o, lostD l t = o := ⟨_, rfl⟩
    obtain ⟨o, ho⟩ : ∃ o, loadOk l t = o := ⟨_, rfl⟩
    have HPN := Lib.hid hpn
    have HPD := Lib.hid hpd
    have HO := Lib.hid ho
    clear hpn hpd ho
    go_wp2_with fail
    refine (iLostPart_any _ _ _).mono ?_
    rintro e w2 ⟨rfl, hb2⟩
    rw [HPN.out, HPD.out, HO.out]
    have hz2 := hb2.size
    have hP2 := Blk.new (w := w2) (cs := #[.int .i64 pn, .int .i64 pd]) (T := 25) rfl
    have hbel2 : Below w.heap.size w w2 := by (repeat' (first | (with_reducible exact Below.refl _ _) | (with_reducible assumption) | (with_reducible refine Below.drew ?_) | (with_reducible refine below_drewN ?_ _) | (with_reducible refine Below.alloc ?_ ?_ _) | (with_reducible refine Below.setCell ?_ ?_ _) | (refine Below.trans ?_ (Below.mono (by assumption) (by first | omega | (with_reducible exact Below.size (by assumption)) | (simp; done) | (simp; omega)))) | (with_reducible exact Nat.le_refl _) | omega | (with_reducible exact Below.size (by assumption)) | (simp only [World.size_alloc, World.size_setCell, World.size_drew]; omega) | (simp; done) | (simp; omega)))
    clear hb2
    go_wp2_with fail
    refine (sLostPart_any _ _ _).mono ?_
    rintro e w3 ⟨rfl, hb3⟩
    rw [HPN.out, HPD.out, HO.out]
    have hz3 := hb3.size
    have hP3 := Blk.belowAll hP2 hb3
    have hbel3 : Below w.heap.size w w3 := by (repeat' (first | (with_reducible exact Below.refl _ _) | (with_reducible assumption) | (with_reducible refine Below.drew ?_) | (with_reducible refine below_drewN ?_ _) | (with_reducible refine Below.alloc ?_ ?_ _) | (with_reducible refine Below.setCell ?_ ?_ _) | (refine Below.trans ?_ (Below.mono (by assumption) (by first | omega | (with_reducible exact Below.size (by assumption)) | (simp; done) | (simp; omega)))) | (with_reducible exact Nat.le_refl _) | omega | (with_reducible exact Below.size (by assumption)) | (simp only [World.size_alloc, World.size_setCell, World.size_drew]; omega) | (simp; done) | (simp; omega)))
    obtain ⟨p0, p1, pf0, pf1, pl⟩ := hP3.two
    have hoo : (o != o) = false := by cases o <;> rfl
    clear hb3 hP2
    go_wp2_with fail
    refine (iLostSum_any _ _ _).mono ?_
    rintro e w4 ⟨rfl, hb4⟩
    rw [HPN.out, HPD.out, HO.out]
    have hz4 := hb4.size
    have hP4 := Blk.belowAll (hP3.alloc _) hb4
    have hbel4 : Below w.heap.size w w4 := by (repeat' (first | (with_reducible exact Below.refl _ _) | (with_reducible assumption) | (with_reducible refine Below.drew ?_) | (with_reducible refine below_drewN ?_ _) | (with_reducible refine Below.alloc ?_ ?_ _) | (with_reducible refine Below.setCell ?_ ?_ _) | (refine Below.trans ?_ (Below.mono (by assumption) (by first | omega | (with_reducible exact Below.size (by assumption)) | (simp; done) | (simp; omega)))) | (with_reducible exact Nat.le_refl _) | omega | (with_reducible exact Below.size (by assumption)) | (simp only [World.size_alloc, World.size_setCell, World.size_drew]; omega) | (simp; done) | (simp; omega)))
    clear hb4 hP3 p0 p1 pf0 pf1 pl
    obtain ⟨p0, p1, pf0, pf1, pl⟩ := hP4.two
    cases o
    · have HN0 : pn = 0 := by rw [← HPN.out, lostN, HO.out]; rfl
      have HD0 : pd = 0 := by rw [← HPD.out, lostD, HO.out]; rfl
      subst HN0 HD0
      go_wp2_with fail
      refine (alive_any _).mono ?_
      rintro e w5 ⟨rfl, hb5⟩
      go_wp2
      go_returns
      exact ⟨rfl, by (repeat' (first | (with_reducible exact Below.refl _ _) | (with_reducible assumption) | (with_reducible refine Below.drew ?_) | (with_reducible refine below_drewN ?_ _) | (with_reducible refine Below.alloc ?_ ?_ _) | (with_reducible refine Below.setCell ?_ ?_ _) | (refine Below.trans ?_ (Below.mono (by assumption) (by first | omega | (with_reducible exact Below.size (by assumption)) | (simp; done) | (simp; omega)))) | (with_reducible exact Nat.le_refl _) | omega | (with_reducible exact Below.size (by assumption)) | (simp only [World.size_alloc, World.size_setCell, World.size_drew]; omega) | (simp; done) | (simp; omega)))⟩
    · obtain ⟨a1, a2, a3, a4⟩ := (loadOk_iff l t).1 HO.out
      obtain ⟨l, rfl⟩ := Int.eq_ofNat_of_zero_le a1
      obtain ⟨t, rfl⟩ := Int.eq_ofNat_of_zero_le a3
      have hl : l ≤ 6 := by omega
      have ht : t ≤ 8 := by omega
      have ePN : pn = (lostP l t).1 := by rw [← HPN.out, lostN, HO.out]; simp
      have ePD : pd = (lostP l t).2 := by rw [← HPD.out, lostD, HO.out]; simp
      have vp : fracValidB pn pd = true := by rw [ePN, ePD]; exact lost_valid l t hl ht
      obtain ⟨ln, hln⟩ : ∃ o, lostN l ((t : Int) + 1) = o := ⟨_, rfl⟩
      obtain ⟨ld, hld⟩ : ∃ o, lostD l ((t : Int) + 1) = o := ⟨_, rfl⟩
      obtain ⟨m, hm1⟩ : ∃ o, loadOk l ((t : Int) + 1) = o := ⟨_, rfl⟩
      obtain ⟨gn, hgn⟩ : ∃ o, lostN ((l : Int) + 1) t = o := ⟨_, rfl⟩
      obtain ⟨gd, hgd⟩ : ∃ o, lostD ((l : Int) + 1) t = o := ⟨_, rfl⟩
      obtain ⟨g, hg1⟩ : ∃ o, loadOk ((l : Int) + 1) t = o := ⟨_, rfl⟩
      have fM : t + 1 ≤ 8 → m = true ∧ ln = (lostP l (t + 1)).1 ∧ ld = (lostP l (t + 1)).2 := by
        intro h
        have e : loadOk l ((t : Int) + 1) = true := (loadOk_iff _ _).2 ⟨by omega, by omega, by omega, by omega⟩
        refine ⟨hm1.symm.trans e, ?_, ?_⟩
        · rw [← hln, lostN, e]; simp
        · rw [← hld, lostD, e]; simp
      have fM' : ¬ t + 1 ≤ 8 → m = false := fun h => hm1.symm.trans (by rw [Bool.eq_false_iff]; intro e; have := (loadOk_iff _ _).1 e; omega)
      have fG : l + 1 ≤ 6 → g = true ∧ gn = (lostP (l + 1) t).1 ∧ gd = (lostP (l + 1) t).2 := by
        intro h
        have e : loadOk ((l : Int) + 1) t = true := (loadOk_iff _ _).2 ⟨by omega, by omega, by omega, by omega⟩
        refine ⟨hg1.symm.trans e, ?_, ?_⟩
        · rw [← hgn, lostN, e]; simp
        · rw [← hgd, lostD, e]; simp
      have fG' : ¬ l + 1 ≤ 6 → g = false := fun h => hg1.symm.trans (by rw [Bool.eq_false_iff]; intro e; have := (loadOk_iff _ _).1 e; omega)
      have HLN := Lib.hid hln
      have HLD := Lib.hid hld
      have HM := Lib.hid hm1
      have HGN := Lib.hid hgn
      have HGD := Lib.hid hgd
      have HG := Lib.hid hg1
      have EPN := Lib.hid ePN
      have EPD := Lib.hid ePD
      have FM := Lib.hid fM
      have FM' := Lib.hid fM'
      have FG := Lib.hid fG
      have FG' := Lib.hid fG'
      clear hln hld hm1 hgn hgd hg1 fM fM' fG fG' ePN ePD
      go_wp2_with fail
      refine (iLostPart_any _ _ _).mono ?_
      rintro e w5 ⟨rfl, hb5⟩
      rw [HLN.out, HLD.out, HM.out]
      have hz5 := hb5.size
      have hP5 := Blk.belowAll (hP4.alloc _) hb5
      have hbel5 : Below w.heap.size w w5 := by (repeat' (first | (with_reducible exact Below.refl _ _) | (with_reducible assumption) | (with_reducible refine Below.drew ?_) | (with_reducible refine below_drewN ?_ _) | (with_reducible refine Below.alloc ?_ ?_ _) | (with_reducible refine Below.setCell ?_ ?_ _) | (refine Below.trans ?_ (Below.mono (by assumption) (by first | omega | (with_reducible exact Below.size (by assumption)) | (simp; done) | (simp; omega)))) | (with_reducible exact Nat.le_refl _) | omega | (with_reducible exact Below.size (by assumption)) | (simp only [World.size_alloc, World.size_setCell, World.size_drew]; omega) | (simp; done) | (simp; omega)))
      have hL5 := Blk.new (w := w5) (cs := #[.int .i64 ln, .int .i64 ld]) (T := 25) rfl
      clear hb5 hP4 p0 p1 pf0 pf1 pl
      obtain ⟨p0, p1, pf0, pf1, pl⟩ := hP5.two
      go_wp2_with fail
      refine (iLostPart_any _ _ _).mono ?_
      rintro e w6 ⟨rfl, hb6⟩
      rw [HGN.out, HGD.out, HG.out]
      have hz6 := hb6.size
      have hP6 := Blk.belowAll (hP5.alloc _) hb6
      have hL6 := Blk.belowAll hL5 hb6
      have hbel6 : Below w.heap.size w w6 := by (repeat' (first | (with_reducible exact Below.refl _ _) | (with_reducible assumption) | (with_reducible refine Below.drew ?_) | (with_reducible refine below_drewN ?_ _) | (with_reducible refine Below.alloc ?_ ?_ _) | (with_reducible refine Below.setCell ?_ ?_ _) | (refine Below.trans ?_ (Below.mono (by assumption) (by first | omega | (with_reducible exact Below.size (by assumption)) | (simp; done) | (simp; omega)))) | (with_reducible exact Nat.le_refl _) | omega | (with_reducible exact Below.size (by assumption)) | (simp only [World.size_alloc, World.size_setCell, World.size_drew]; omega) | (simp; done) | (simp; omega)))
      clear hb6 hP5 hL5 p0 p1 pf0 pf1 pl
      obtain ⟨p0, p1, pf0, pf1, pl⟩ := hP6.two
      obtain ⟨l0, l1, lf0, lf1, ll⟩ := hL6.two
      have plf := hP6.far
      have llf := hL6.far
      have hfl : t + 1 ≤ 8 → ¬ (l = 0 ∧ 0 < t) → fracLessB ln ld pn pd = true ∧ fracValidB ln ld = true := by
        intro h1 h2
        rw [(FM.out h1).2.1, (FM.out h1).2.2, EPN.out, EPD.out]
        exact ⟨lost_more l t hl h1 h2, lost_valid l (t + 1) hl h1⟩
      have hfg : l + 1 ≤ 6 → 0 < t → fracLessB pn pd gn gd = true ∧ fracValidB gn gd = true := by
        intro h1 h2
        rw [(FG.out h1).2.1, (FG.out h1).2.2, EPN.out, EPD.out]
        exact ⟨lost_great l t h1 ht h2, lost_valid (l + 1) t h1 ht⟩
      have HFL := Lib.hid hfl
      have HFG := Lib.hid hfg
      clear hfl hfg
      by_cases l0' : l = 0
      · subst l0'
        obtain ⟨g1, g2, g3⟩ := FG.out (by omega)
        by_cases t0' : t = 0
        · subst t0'
          obtain ⟨m1, m2, m3⟩ := FM.out (by omega)
          have n1 : pn = 1 := EPN.out
          have n2 : pd = 1 := EPD.out
          have n3 : gn = 1 := g2
          have n4 : gd = 1 := g3
          obtain ⟨q1, q2⟩ := HFL.out (by omega) (by omega)
          subst n1 n2 n3 n4 m1 g1
          clear m2 m3 g2 g3
          go_wp2_with (go_at_call 21; refine (iFracLess_yes _ _ _ _ true _ (by assumption) (by assumption) (by assumption)).mono ?_; rintro e w' ⟨rfl, rfl⟩)
          go_returns
          exact ⟨rfl, by (repeat' (first | (with_reducible exact Below.refl _ _) | (with_reducible assumption) | (with_reducible refine Below.drew ?_) | (with_reducible refine below_drewN ?_ _) | (with_reducible refine Below.alloc ?_ ?_ _) | (with_reducible refine Below.setCell ?_ ?_ _) | (refine Below.trans ?_ (Below.mono (by assumption) (by first | omega | (with_reducible exact Below.size (by assumption)) | (simp; done) | (simp; omega)))) | (with_reducible exact Nat.le_refl _) | omega | (with_reducible exact Below.size (by assumption)) | (simp only [World.size_alloc, World.size_setCell, World.size_drew]; omega) | (simp; done) | (simp; omega)))⟩
        · have hz := lost_zero t ht (by omega)
          have n1 : pn = 0 := by rw [EPN.out, hz]; rfl
          have n2 : pd = 1 := by rw [EPD.out, hz]; rfl
          obtain ⟨r1, r2⟩ := HFG.out (by omega) (by omega)
          have tpos : 0 < t := by omega
          have tz : ((t : Int) == 0) = false := by simp; omega
          subst n1 n2 g1
          clear g2 g3 hz
          by_cases t8 : t + 1 ≤ 8
          · obtain ⟨m1, m2, m3⟩ := FM.out t8
            have hz := lost_zero (t + 1) t8 (by omega)
            have n1 : ln = 0 := by rw [m2, hz]; rfl
            have n2 : ld = 1 := by rw [m3, hz]; rfl
            subst n1 n2 m1
            clear m2 m3 hz t0'
            go_wp2_with (go_at_call 21; refine (iFracLess_yes _ _ _ _ true _ (by assumption) (by assumption) (by assumption)).mono ?_; rintro e w' ⟨rfl, rfl⟩)
            go_returns
            exact ⟨rfl, by (repeat' (first | (with_reducible exact Below.refl _ _) | (with_reducible assumption) | (with_reducible refine Below.drew ?_) | (with_reducible refine below_drewN ?_ _) | (with_reducible refine Below.alloc ?_ ?_ _) | (with_reducible refine Below.setCell ?_ ?_ _) | (refine Below.trans ?_ (Below.mono (by assumption) (by first | omega | (with_reducible exact Below.size (by assumption)) | (simp; done) | (simp; omega)))) | (with_reducible exact Nat.le_refl _) | omega | (with_reducible exact Below.size (by assumption)) | (simp only [World.size_alloc, World.size_setCell, World.size_drew]; omega) | (simp; done) | (simp; omega)))⟩
          · have m1 := FM'.out t8
            subst m1
            clear t0'
            go_wp2_with (go_at_call 21; refine (iFracLess_yes _ _ _ _ true _ (by assumption) (by assumption) (by assumption)).mono ?_; rintro e w' ⟨rfl, rfl⟩)
            go_returns
            exact ⟨rfl, by (repeat' (first | (with_reducible exact Below.refl _ _) | (with_reducible assumption) | (with_reducible refine Below.drew ?_) | (with_reducible refine below_drewN ?_ _) | (with_reducible refine Below.alloc ?_ ?_ _) | (with_reducible refine Below.setCell ?_ ?_ _) | (refine Below.trans ?_ (Below.mono (by assumption) (by first | omega | (with_reducible exact Below.size (by assumption)) | (simp; done) | (simp; omega)))) | (with_reducible exact Nat.le_refl _) | omega | (with_reducible exact Below.size (by assumption)) | (simp only [World.size_alloc, World.size_setCell, World.size_drew]; omega) | (simp; done) | (simp; omega)))⟩
      · have lpos : 0 < l := by omega
        have lz : ((l : Int) == 0) = false := by simp; omega
        by_cases t0' : t = 0
        · subst t0'
          obtain ⟨m1, m2, m3⟩ := FM.out (by omega)
          have n1 : pn = 1 := EPN.out
          have n2 : pd = 1 := EPD.out
          obtain ⟨q1, q2⟩ := HFL.out (by omega) (by omega)
          subst n1 n2 m1
          clear m2 m3 l0'
          by_cases l6 : l + 1 ≤ 6
          · obtain ⟨g1, g2, g3⟩ := FG.out l6
            have n3 : gn = 1 := g2
            have n4 : gd = 1 := g3
            subst n3 n4 g1
            clear g2 g3
            go_wp2_with (go_at_call 21; refine (iFracLess_yes _ _ _ _ true _ (by assumption) (by assumption) (by assumption)).mono ?_; rintro e w' ⟨rfl, rfl⟩)
            go_returns
            exact ⟨rfl, by (repeat' (first | (with_reducible exact Below.refl _ _) | (with_reducible assumption) | (with_reducible refine Below.drew ?_) | (with_reducible refine below_drewN ?_ _) | (with_reducible refine Below.alloc ?_ ?_ _) | (with_reducible refine Below.setCell ?_ ?_ _) | (refine Below.trans ?_ (Below.mono (by assumption) (by first | omega | (with_reducible exact Below.size (by assumption)) | (simp; done) | (simp; omega)))) | (with_reducible exact Nat.le_refl _) | omega | (with_reducible exact Below.size (by assumption)) | (simp only [World.size_alloc, World.size_setCell, World.size_drew]; omega) | (simp; done) | (simp; omega)))⟩
          · have g1 := FG'.out l6
            subst g1
            go_wp2_with (go_at_call 21; refine (iFracLess_yes _ _ _ _ true _ (by assumption) (by assumption) (by assumption)).mono ?_; rintro e w' ⟨rfl, rfl⟩)
            go_returns
            exact ⟨rfl, by (repeat' (first | (with_reducible exact Below.refl _ _) | (with_reducible assumption) | (with_reducible refine Below.drew ?_) | (with_reducible refine below_drewN ?_ _) | (with_reducible refine Below.alloc ?_ ?_ _) | (with_reducible refine Below.setCell ?_ ?_ _) | (refine Below.trans ?_ (Below.mono (by assumption) (by first | omega | (with_reducible exact Below.size (by assumption)) | (simp; done) | (simp; omega)))) | (with_reducible exact Nat.le_refl _) | omega | (with_reducible exact Below.size (by assumption)) | (simp only [World.size_alloc, World.size_setCell, World.size_drew]; omega) | (simp; done) | (simp; omega)))⟩
        · have tpos : 0 < t := by omega
          have tz : ((t : Int) == 0) = false := by simp; omega
          by_cases t8 : t + 1 ≤ 8
          · obtain ⟨m1, m2, m3⟩ := FM.out t8
            obtain ⟨q1, q2⟩ := HFL.out t8 (by omega)
            subst m1
            clear m2 m3 t0' l0'
            by_cases l6 : l + 1 ≤ 6
            · obtain ⟨g1, g2, g3⟩ := FG.out l6
              obtain ⟨r1, r2⟩ := HFG.out l6 tpos
              subst g1
              clear g2 g3
              go_wp2_with (go_at_call 21; refine (iFracLess_yes _ _ _ _ true _ (by assumption) (by assumption) (by assumption)).mono ?_; rintro e w' ⟨rfl, rfl⟩)
              go_returns
              exact ⟨rfl, by (repeat' (first | (with_reducible exact Below.refl _ _) | (with_reducible assumption) | (with_reducible refine Below.drew ?_) | (with_reducible refine below_drewN ?_ _) | (with_reducible refine Below.alloc ?_ ?_ _) | (with_reducible refine Below.setCell ?_ ?_ _) | (refine Below.trans ?_ (Below.mono (by assumption) (by first | omega | (with_reducible exact Below.size (by assumption)) | (simp; done) | (simp; omega)))) | (with_reducible exact Nat.le_refl _) | omega | (with_reducible exact Below.size (by assumption)) | (simp only [World.size_alloc, World.size_setCell, World.size_drew]; omega) | (simp; done) | (simp; omega)))⟩
            · have g1 := FG'.out l6
              subst g1
              go_wp2_with (go_at_call 21; refine (iFracLess_yes _ _ _ _ true _ (by assumption) (by assumption) (by assumption)).mono ?_; rintro e w' ⟨rfl, rfl⟩)
              go_returns
              exact ⟨rfl, by (repeat' (first | (with_reducible exact Below.refl _ _) | (with_reducible assumption) | (with_reducible refine Below.drew ?_) | (with_reducible refine below_drewN ?_ _) | (with_reducible refine Below.alloc ?_ ?_ _) | (with_reducible refine Below.setCell ?_ ?_ _) | (refine Below.trans ?_ (Below.mono (by assumption) (by first | omega | (with_reducible exact Below.size (by assumption)) | (simp; done) | (simp; omega)))) | (with_reducible exact Nat.le_refl _) | omega | (with_reducible exact Below.size (by assumption)) | (simp only [World.size_alloc, World.size_setCell, World.size_drew]; omega) | (simp; done) | (simp; omega)))⟩
          · have m1 := FM'.out t8
            subst m1
            clear t0' l0'
            by_cases l6 : l + 1 ≤ 6
            · obtain ⟨g1, g2, g3⟩ := FG.out l6
              obtain ⟨r1, r2⟩ := HFG.out l6 tpos
              subst g1
              clear g2 g3
              go_wp2_with (go_at_call 21; refine (iFracLess_yes _ _ _ _ true _ (by assumption) (by assumption) (by assumption)).mono ?_; rintro e w' ⟨rfl, rfl⟩)
              go_returns
              exact ⟨rfl, by (repeat' (first | (with_reducible exact Below.refl _ _) | (with_reducible assumption) | (with_reducible refine Below.drew ?_) | (with_reducible refine below_drewN ?_ _) | (with_reducible refine Below.alloc ?_ ?_ _) | (with_reducible refine Below.setCell ?_ ?_ _) | (refine Below.trans ?_ (Below.mono (by assumption) (by first | omega | (with_reducible exact Below.size (by assumption)) | (simp; done) | (simp; omega)))) | (with_reducible exact Nat.le_refl _) | omega | (with_reducible exact Below.size (by assumption)) | (simp only [World.size_alloc, World.size_setCell, World.size_drew]; omega) | (simp; done) | (simp; omega)))⟩
            · have g1 := FG'.out l6
              subst g1
              go_wp2_with (go_at_call 21; refine (iFracLess_yes _ _ _ _ true _ (by assumption) (by assumption) (by assumption)).mono ?_; rintro e w' ⟨rfl, rfl⟩)
              go_returns
              exact ⟨rfl, by (repeat' (first | (with_reducible exact Below.refl _ _) | (with_reducible assumption) | (with_reducible refine Below.drew ?_) | (with_reducible refine below_drewN ?_ _) | (with_reducible refine Below.alloc ?_ ?_ _) | (with_reducible refine Below.setCell ?_ ?_ _) | (refine Below.trans ?_ (Below.mono (by assumption) (by first | omega | (with_reducible exact Below.size (by assumption)) | (simp; done) | (simp; omega)))) | (with_reducible exact Nat.le_refl _) | omega | (with_reducible exact Below.size (by assumption)) | (simp only [World.size_alloc, World.size_setCell, World.size_drew]; omega) | (simp; done) | (simp; omega)))⟩

end Go.Proofs.Ytmckjikdecmagaa
