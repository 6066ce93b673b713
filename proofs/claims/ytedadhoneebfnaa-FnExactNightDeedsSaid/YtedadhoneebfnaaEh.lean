/- Contracts of the laws' helpers on exchanges. -/
import Derived.Test.YtedadhoneebfnaaEx
import Derived.Test.YtedadhoneebfnaaCh
set_option linter.unusedSimpArgs false
set_option linter.unusedVariables false
namespace Go.Proofs.Ytedadhoneebfnaa
open Go.RowKit

/-- What szExchange leaves. -/
def SzePost (ps : List ByteArray) (cs : List Cl) (w : World) (e : Ending) (w' : World) : Prop :=
  ∃ x : Int, e = .returned (.int .i64 x) ∧ -1 ≤ x ∧ x ≤ 1048576 ∧ (0 ≤ x → ps.length ≤ 1048576 ∧ cs.length ≤ 1048576) ∧ Below w.heap.size w w'
set_option maxHeartbeats 400000 in
theorem szExchange_any (O E M : Int) (vp vc : Value) (ps : List ByteArray) (cs : List Cl) (w : World) (hR : ExRd w vp vc ps cs) (hL : StLen ps) :
    Calls Try.prog 17 #[.agg #[.int .i64 O, .int .i64 E, .int .i64 M, vp, vc], .int .i64 1048576] w (SzePost ps cs w) := by
  have hb0 : Below w.heap.size w (w.alloc (.cells #[.int .i64 O, .int .i64 E, .int .i64 M, vp, vc] 27)) := by (repeat' (first | (with_reducible exact Below.refl _ _) | (with_reducible assumption) | (with_reducible refine Below.drew ?_) | (with_reducible refine below_drewN ?_ _) | (with_reducible refine Below.alloc ?_ ?_ _) | (with_reducible refine Below.setCell ?_ ?_ _) | (refine Below.trans ?_ (Below.mono (by assumption) (by first | omega | (with_reducible exact Below.size (by assumption)) | (simp; done) | (simp; omega)))) | (with_reducible exact Nat.le_refl _) | omega | (with_reducible exact Below.size (by assumption)) | (simp only [World.size_alloc, World.size_setCell, World.size_drew]; omega) | (simp; done) | (simp; omega)))
  have HR := Lib.hid (hR.below hb0)
  obtain ⟨a1, c1, rfl, _⟩ := hR.plan.open1
  obtain ⟨_, _, a2, c2, rfl, _⟩ := hR.calls
  have HL := Lib.hid hL
  clear hL hR
  go_enter Try.func17, Try.ntmps17
  go_wp2_with fail
  refine (szStringS_any _ ps _ HR.out.plan HL.out).mono ?_
  rintro e w1 ⟨x, rfl, hx0, hx1, hx2, rfl⟩
  by_cases hx : 0 ≤ x
  · have HX := Lib.hid (hx2 hx).1
    clear hx2
    go_wp2_with fail
    refine (szCallS_any _ cs x _ HR.out.calls hx hx1).mono ?_
    rintro e w2 ⟨rfl, rfl⟩
    by_cases hc : x < (cs.length : Int)
    · rw [if_pos hc]
      go_wp2
      go_returns
      exact ⟨-1, rfl, by omega, by omega, fun h => absurd h (by omega), hb0⟩
    · rw [if_neg hc]
      have hc2 : ¬ x - (cs.length : Int) < 0 := by omega
      go_wp2
      go_returns
      exact ⟨_, rfl, by omega, by omega, fun _ => ⟨HX.out, by omega⟩, hb0⟩
  · clear hx2
    go_wp2
    go_returns
    exact ⟨-1, rfl, by omega, by omega, fun h => absurd h (by omega), hb0⟩

/-- What toExchange leaves. -/
def ToePost (O E M : Int) (ps : List ByteArray) (cs : List Cl) (w : World) (e : Ending) (w' : World) : Prop :=
  ∃ g h : Nat, e = .returned (.agg #[.int .i64 O, .int .i64 E, .int .i64 M, .slice (some ⟨g, 0, none⟩) ps.length ps.length, .slice (some ⟨h, 0, none⟩) cs.length cs.length]) ∧
    ExOwn w' w.heap.size (.slice (some ⟨g, 0, none⟩) ps.length ps.length) (.slice (some ⟨h, 0, none⟩) cs.length cs.length) ps cs ∧ Below w.heap.size w w'
set_option maxHeartbeats 1000000 in
theorem toExchange_any (O E M : Int) (vp vc : Value) (ps : List ByteArray) (cs : List Cl) (w : World) (hR : ExRd w vp vc ps cs) (hp : ps.length ≤ 1048576) (hc : cs.length ≤ 1048576) :
    Calls Try.prog 19 #[.agg #[.int .i64 O, .int .i64 E, .int .i64 M, vp, vc]] w (ToePost O E M ps cs w) := by
  obtain ⟨a1, c1, rfl, hl1, hm1, hn1, _⟩ := hR.plan.open1
  obtain ⟨_, hm2, a2, c2, rfl, hn2, _⟩ := hR.calls
  unfold maxLen at hm1 hm2
  have HR := Lib.hid hR
  have HP := Lib.hid hp
  have HC := Lib.hid hc
  obtain ⟨n, hn⟩ : ∃ n, ps.length = n := ⟨_, rfl⟩
  obtain ⟨m, hm⟩ : ∃ m, cs.length = m := ⟨_, rfl⟩
  unfold ToePost
  rw [hn, hm] at HR ⊢
  rw [hn] at hm1 hn1 HP
  rw [hm] at hm2 hn2 HC
  have HN := Lib.hid hn
  have HM := Lib.hid hm
  clear hR hp hc hl1 hn hm
  have hB := ((Blk.new (w := w) (cs := #[.int .i64 O, .int .i64 E, .int .i64 M, .slice a1 n c1, .slice a2 m c2]) (T := 27) rfl).alloc (.cells #[.int .i64 0, .int .i64 0, .int .i64 0, .slice none 0 0, .slice none 0 0] 33)).alloc (.cells #[.int .i64 0, .int .i64 0, .int .i64 0, .slice none 0 0, .slice none 0 0] 33)
  have hR1 := (Blk.new (w := w.alloc (.cells #[.int .i64 O, .int .i64 E, .int .i64 M, .slice a1 n c1, .slice a2 m c2] 27)) (cs := #[.int .i64 0, .int .i64 0, .int .i64 0, .slice none 0 0, .slice none 0 0]) (T := 33) (b := w.heap.size + 1) (by simp)).alloc (.cells #[.int .i64 0, .int .i64 0, .int .i64 0, .slice none 0 0, .slice none 0 0] 33)
  have hO1 := Blk.new (w := (w.alloc (.cells #[.int .i64 O, .int .i64 E, .int .i64 M, .slice a1 n c1, .slice a2 m c2] 27)).alloc (.cells #[.int .i64 0, .int .i64 0, .int .i64 0, .slice none 0 0, .slice none 0 0] 33)) (cs := #[.int .i64 0, .int .i64 0, .int .i64 0, .slice none 0 0, .slice none 0 0]) (T := 33) (b := w.heap.size + 1 + 1) (by simp)
  go_enter Try.func19, Try.ntmps19
  go_wp2_with fail
  refine (toShape_any O E M _).mono ?_
  rintro e w1 ⟨rfl, hb1⟩
  have hbel1 : Below w.heap.size w w1 := by (repeat' (first | (with_reducible exact Below.refl _ _) | (with_reducible assumption) | (with_reducible refine Below.drew ?_) | (with_reducible refine below_drewN ?_ _) | (with_reducible refine Below.alloc ?_ ?_ _) | (with_reducible refine Below.setCell ?_ ?_ _) | (refine Below.trans ?_ (Below.mono (by assumption) (by first | omega | (with_reducible exact Below.size (by assumption)) | (simp; done) | (simp; omega)))) | (with_reducible exact Nat.le_refl _) | omega | (with_reducible exact Below.size (by assumption)) | (simp only [World.size_alloc, World.size_setCell, World.size_drew]; omega) | (simp; done) | (simp; omega)))
  have hz1 := hb1.size
  simp only [World.size_alloc] at hz1
  have hB1 := hB.belowAll hb1
  have hR2 := hR1.belowAll hb1
  have hO2 := hO1.belowAll hb1
  clear hB hR1 hO1 hb1
  obtain ⟨p0, p1, p2, p3, p4, _, _, _, _, _, plt⟩ := hB1.five
  obtain ⟨q0, q1, q2, q3, q4, k0, k1, k2, k3, k4, qlt⟩ := hO2.five
  go_wp2_with fail
  refine (toStringS_any (.slice a1 n c1) ps _ ?_ (by rw [HN.out]; exact HP.out)).mono ?_
  · refine Rds.below ?_ (by have := HR.out.plan; exact this)
    (repeat' (first | (with_reducible exact Below.refl _ _) | (with_reducible assumption) | (with_reducible refine Below.drew ?_) | (with_reducible refine below_drewN ?_ _) | (with_reducible refine Below.alloc ?_ ?_ _) | (with_reducible refine Below.setCell ?_ ?_ _) | (refine Below.trans ?_ (Below.mono (by assumption) (by first | omega | (with_reducible exact Below.size (by assumption)) | (simp; done) | (simp; omega)))) | (with_reducible exact Nat.le_refl _) | omega | (with_reducible exact Below.size (by assumption)) | (simp only [World.size_alloc, World.size_setCell, World.size_drew]; omega) | (simp; done) | (simp; omega)))
  rintro e w2 ⟨g, rfl, hg, hOg, hb2⟩
  rw [HN.out] at hOg ⊢
  have hbel2 : Below w.heap.size w w2 := by (repeat' (first | (with_reducible exact Below.refl _ _) | (with_reducible assumption) | (with_reducible refine Below.drew ?_) | (with_reducible refine below_drewN ?_ _) | (with_reducible refine Below.alloc ?_ ?_ _) | (with_reducible refine Below.setCell ?_ ?_ _) | (refine Below.trans ?_ (Below.mono (by assumption) (by first | omega | (with_reducible exact Below.size (by assumption)) | (simp; done) | (simp; omega)))) | (with_reducible exact Nat.le_refl _) | omega | (with_reducible exact Below.size (by assumption)) | (simp only [World.size_alloc, World.size_setCell, World.size_drew]; omega) | (simp; done) | (simp; omega)))
  have hz2 := hb2.size
  simp only [World.size_setCell] at hz2 hg
  have hB2 : Blk w2 w.heap.size #[.int .i64 O, .int .i64 E, .int .i64 M, .slice a1 n c1, .slice a2 m c2] 27 := by (refine Blk.belowAll ?_ hb2; (repeat' (first | (with_reducible assumption) | rfl | omega | (with_reducible exact Blk.new (by first | rfl | (simp; done) | (simp; omega))) | (with_reducible apply Blk.set) | (with_reducible apply Blk.other (by first | (simp; done) | (simp; omega) | omega)) | (with_reducible apply Blk.alloc) | (with_reducible apply Blk.drewN) | (with_reducible apply Blk.drew) | (with_reducible apply Blk.below) | (simp; omega))))
  have hR3 : Blk w2 (w.heap.size + 1) #[.int .i64 0, .int .i64 0, .int .i64 0, .slice none 0 0, .slice none 0 0] 33 := by (refine Blk.belowAll ?_ hb2; (repeat' (first | (with_reducible assumption) | rfl | omega | (with_reducible exact Blk.new (by first | rfl | (simp; done) | (simp; omega))) | (with_reducible apply Blk.set) | (with_reducible apply Blk.other (by first | (simp; done) | (simp; omega) | omega)) | (with_reducible apply Blk.alloc) | (with_reducible apply Blk.drewN) | (with_reducible apply Blk.drew) | (with_reducible apply Blk.below) | (simp; omega))))
  have hO3 : Blk w2 (w.heap.size + 1 + 1) #[.int .i64 O, .int .i64 E, .int .i64 M, .slice none 0 0, .slice none 0 0] 33 := by (refine Blk.belowAll ?_ hb2; (repeat' (first | (with_reducible assumption) | rfl | omega | (with_reducible exact Blk.new (by first | rfl | (simp; done) | (simp; omega))) | (with_reducible apply Blk.set) | (with_reducible apply Blk.other (by first | (simp; done) | (simp; omega) | omega)) | (with_reducible apply Blk.alloc) | (with_reducible apply Blk.drewN) | (with_reducible apply Blk.drew) | (with_reducible apply Blk.below) | (simp; omega))))
  clear hb2 hB1 hR2 hO2 p0 p1 p2 p3 p4 plt q0 q1 q2 q3 q4 k0 k1 k2 k3 k4 qlt
  obtain ⟨p0, p1, p2, p3, p4, _, _, _, _, _, plt⟩ := hB2.five
  obtain ⟨q0, q1, q2, q3, q4, k0, k1, k2, k3, k4, qlt⟩ := hO3.five
  go_wp2_with fail
  refine (toCallS_any (.slice a2 m c2) cs _ ?_ (by rw [HM.out]; exact HC.out)).mono ?_
  · refine Rds.below ?_ (by have := HR.out.calls; exact this)
    (repeat' (first | (with_reducible exact Below.refl _ _) | (with_reducible assumption) | (with_reducible refine Below.drew ?_) | (with_reducible refine below_drewN ?_ _) | (with_reducible refine Below.alloc ?_ ?_ _) | (with_reducible refine Below.setCell ?_ ?_ _) | (refine Below.trans ?_ (Below.mono (by assumption) (by first | omega | (with_reducible exact Below.size (by assumption)) | (simp; done) | (simp; omega)))) | (with_reducible exact Nat.le_refl _) | omega | (with_reducible exact Below.size (by assumption)) | (simp only [World.size_alloc, World.size_setCell, World.size_drew]; omega) | (simp; done) | (simp; omega)))
  rintro e w3 ⟨h, rfl, hh, hOh, hb3⟩
  rw [HM.out] at hOh ⊢
  have hbel3 : Below w.heap.size w w3 := by (repeat' (first | (with_reducible exact Below.refl _ _) | (with_reducible assumption) | (with_reducible refine Below.drew ?_) | (with_reducible refine below_drewN ?_ _) | (with_reducible refine Below.alloc ?_ ?_ _) | (with_reducible refine Below.setCell ?_ ?_ _) | (refine Below.trans ?_ (Below.mono (by assumption) (by first | omega | (with_reducible exact Below.size (by assumption)) | (simp; done) | (simp; omega)))) | (with_reducible exact Nat.le_refl _) | omega | (with_reducible exact Below.size (by assumption)) | (simp only [World.size_alloc, World.size_setCell, World.size_drew]; omega) | (simp; done) | (simp; omega)))
  have hz3 := hb3.size
  simp only [World.size_setCell] at hz3 hh
  have hR4 : Blk w3 (w.heap.size + 1) #[.int .i64 0, .int .i64 0, .int .i64 0, .slice none 0 0, .slice none 0 0] 33 := by (refine Blk.belowAll ?_ hb3; (repeat' (first | (with_reducible assumption) | rfl | omega | (with_reducible exact Blk.new (by first | rfl | (simp; done) | (simp; omega))) | (with_reducible apply Blk.set) | (with_reducible apply Blk.other (by first | (simp; done) | (simp; omega) | omega)) | (with_reducible apply Blk.alloc) | (with_reducible apply Blk.drewN) | (with_reducible apply Blk.drew) | (with_reducible apply Blk.below) | (simp; omega))))
  have hO4 : Blk w3 (w.heap.size + 1 + 1) #[.int .i64 O, .int .i64 E, .int .i64 M, .slice (some ⟨g, 0, none⟩) n n, .slice none 0 0] 33 := by (refine Blk.belowAll ?_ hb3; (repeat' (first | (with_reducible assumption) | rfl | omega | (with_reducible exact Blk.new (by first | rfl | (simp; done) | (simp; omega))) | (with_reducible apply Blk.set) | (with_reducible apply Blk.other (by first | (simp; done) | (simp; omega) | omega)) | (with_reducible apply Blk.alloc) | (with_reducible apply Blk.drewN) | (with_reducible apply Blk.drew) | (with_reducible apply Blk.below) | (simp; omega))))
  have hOg3 : Own w3 g n n 9 1 (strs ps) := by
    have := hOg.lt
    refine Own.below hb3 (by simp; omega) (Own.other (by simp; omega) hOg)
  have hOgl := hOg.lt
  clear hb3 hB2 hR3 hO3 p0 p1 p2 p3 p4 plt q0 q1 q2 q3 q4 k0 k1 k2 k3 k4 qlt hOg
  obtain ⟨p0, p1, p2, p3, p4, l0, l1, l2, l3, l4, plt⟩ := hR4.five
  obtain ⟨q0, q1, q2, q3, q4, k0, k1, k2, k3, k4, qlt⟩ := hO4.five
  have hgh : g ≠ h := by omega
  have hlt3 := hR4.lt
  go_wp2
  refine bodyPost_ret (v := .agg #[.int .i64 O, .int .i64 E, .int .i64 M, .slice (some ⟨g, 0, none⟩) n n, .slice (some ⟨h, 0, none⟩) m m]) (by simp [results, Try.results19, go_sem, p0, p1, p2, p3, p4]) rfl ⟨g, h, rfl, ⟨?_, ?_, .inr (by simp [Value.ownBlock]; omega)⟩, by (repeat' (first | (with_reducible exact Below.refl _ _) | (with_reducible assumption) | (with_reducible refine Below.drew ?_) | (with_reducible refine below_drewN ?_ _) | (with_reducible refine Below.alloc ?_ ?_ _) | (with_reducible refine Below.setCell ?_ ?_ _) | (refine Below.trans ?_ (Below.mono (by assumption) (by first | omega | (with_reducible exact Below.size (by assumption)) | (simp; done) | (simp; omega)))) | (with_reducible exact Nat.le_refl _) | omega | (with_reducible exact Below.size (by assumption)) | (simp only [World.size_alloc, World.size_setCell, World.size_drew]; omega) | (simp; done) | (simp; omega)))⟩
  · rw [HN.out]
    apply Own.back
    · (repeat' (first | (with_reducible assumption) | rfl | omega | (with_reducible apply Own.set) | (with_reducible apply Own.other (by first | (simp; done) | (simp; omega) | omega)) | (with_reducible apply Own.alloc) | (with_reducible apply Own.drewN) | (with_reducible apply Own.drew) | (with_reducible apply Own.below) | (simp; omega)))
    · omega
  · rw [HM.out]
    apply Own.back
    · (repeat' (first | (with_reducible assumption) | rfl | omega | (with_reducible apply Own.set) | (with_reducible apply Own.other (by first | (simp; done) | (simp; omega) | omega)) | (with_reducible apply Own.alloc) | (with_reducible apply Own.drewN) | (with_reducible apply Own.drew) | (with_reducible apply Own.below) | (simp; omega)))
    · omega

set_option maxHeartbeats 400000 in
theorem eqExchange_any (O E M O' E' M' : Int) (vp vc up uc : Value) (ps qs : List ByteArray) (cs ds : List Cl) (w : World) (h1 : ExRd w vp vc ps cs) (h2 : ExRd w up uc qs ds) :
    Calls Try.prog 21 #[.agg #[.int .i64 O, .int .i64 E, .int .i64 M, vp, vc], .agg #[.int .i64 O', .int .i64 E', .int .i64 M', up, uc]] w
      fun e w' => e = .returned (.bool (decide ((O, E, M) = (O', E', M')) && (decide (ps = qs) && decide (cs = ds)))) ∧ Below w.heap.size w w' := by
  have hB1 := (Blk.new (w := w) (cs := #[.int .i64 O, .int .i64 E, .int .i64 M, vp, vc]) (T := 33) rfl).alloc (.cells #[.int .i64 O', .int .i64 E', .int .i64 M', up, uc] 33)
  have hB2 := Blk.new (w := w.alloc (.cells #[.int .i64 O, .int .i64 E, .int .i64 M, vp, vc] 33)) (cs := #[.int .i64 O', .int .i64 E', .int .i64 M', up, uc]) (T := 33) (b := w.heap.size + 1) (by simp)
  obtain ⟨a1, c1, rfl, _⟩ := h1.plan.open1
  obtain ⟨_, _, a2, c2, rfl, _⟩ := h1.calls
  obtain ⟨a3, c3, rfl, _⟩ := h2.plan.open1
  obtain ⟨_, _, a4, c4, rfl, _⟩ := h2.calls
  have H1 := Lib.hid h1
  have H2 := Lib.hid h2
  clear h1 h2
  go_enter Try.func21, Try.ntmps21
  go_wp2_with fail
  refine (eqShape_any O E M O' E' M' _).mono ?_
  rintro e w1 ⟨rfl, hb1⟩
  have hbel1 : Below w.heap.size w w1 := by (repeat' (first | (with_reducible exact Below.refl _ _) | (with_reducible assumption) | (with_reducible refine Below.drew ?_) | (with_reducible refine below_drewN ?_ _) | (with_reducible refine Below.alloc ?_ ?_ _) | (with_reducible refine Below.setCell ?_ ?_ _) | (refine Below.trans ?_ (Below.mono (by assumption) (by first | omega | (with_reducible exact Below.size (by assumption)) | (simp; done) | (simp; omega)))) | (with_reducible exact Nat.le_refl _) | omega | (with_reducible exact Below.size (by assumption)) | (simp only [World.size_alloc, World.size_setCell, World.size_drew]; omega) | (simp; done) | (simp; omega)))
  have hB3 := hB1.belowAll hb1
  have hB4 := hB2.belowAll hb1
  clear hb1 hB1 hB2
  obtain ⟨d1, hd1⟩ : ∃ d, decide ((O, E, M) = (O', E', M')) = d := ⟨_, rfl⟩
  have HD1 := Lib.hid hd1
  rw [hd1]
  clear hd1
  cases d1
  · go_wp2
    go_returns
    exact ⟨by rw [HD1.out]; rfl, hbel1⟩
  · obtain ⟨p0, p1, p2, p3, p4, _, _, _, _, _, plt⟩ := hB3.five
    obtain ⟨q0, q1, q2, q3, q4, _, _, _, _, _, qlt⟩ := hB4.five
    go_wp2_with fail
    refine (eqStringS_any _ _ ps qs _ (H1.out.plan.below hbel1) (H2.out.plan.below hbel1)).mono ?_
    rintro e w2 ⟨rfl, hb2⟩
    have hbel2 : Below w.heap.size w w2 := by (repeat' (first | (with_reducible exact Below.refl _ _) | (with_reducible assumption) | (with_reducible refine Below.drew ?_) | (with_reducible refine below_drewN ?_ _) | (with_reducible refine Below.alloc ?_ ?_ _) | (with_reducible refine Below.setCell ?_ ?_ _) | (refine Below.trans ?_ (Below.mono (by assumption) (by first | omega | (with_reducible exact Below.size (by assumption)) | (simp; done) | (simp; omega)))) | (with_reducible exact Nat.le_refl _) | omega | (with_reducible exact Below.size (by assumption)) | (simp only [World.size_alloc, World.size_setCell, World.size_drew]; omega) | (simp; done) | (simp; omega)))
    have hB5 := hB3.belowAll hb2
    have hB6 := hB4.belowAll hb2
    clear hb2 hB3 hB4 p0 p1 p2 p3 p4 plt q0 q1 q2 q3 q4 qlt
    obtain ⟨d1, hd1⟩ : ∃ d, decide (ps = qs) = d := ⟨_, rfl⟩
    have HD2 := Lib.hid hd1
    rw [hd1]
    clear hd1
    cases d1
    · go_wp2
      go_returns
      exact ⟨by rw [HD1.out, HD2.out]; rfl, hbel2⟩
    · obtain ⟨p0, p1, p2, p3, p4, _, _, _, _, _, plt⟩ := hB5.five
      obtain ⟨q0, q1, q2, q3, q4, _, _, _, _, _, qlt⟩ := hB6.five
      go_wp2_with fail
      refine (eqCallS_any _ _ cs ds _ (H1.out.calls.below hbel2) (H2.out.calls.below hbel2)).mono ?_
      rintro e w3 ⟨rfl, hb3⟩
      have hbel3 : Below w.heap.size w w3 := by (repeat' (first | (with_reducible exact Below.refl _ _) | (with_reducible assumption) | (with_reducible refine Below.drew ?_) | (with_reducible refine below_drewN ?_ _) | (with_reducible refine Below.alloc ?_ ?_ _) | (with_reducible refine Below.setCell ?_ ?_ _) | (refine Below.trans ?_ (Below.mono (by assumption) (by first | omega | (with_reducible exact Below.size (by assumption)) | (simp; done) | (simp; omega)))) | (with_reducible exact Nat.le_refl _) | omega | (with_reducible exact Below.size (by assumption)) | (simp only [World.size_alloc, World.size_setCell, World.size_drew]; omega) | (simp; done) | (simp; omega)))
      clear hb3 hB5 hB6 p0 p1 p2 p3 p4 plt q0 q1 q2 q3 q4 qlt
      obtain ⟨d1, hd1⟩ : ∃ d, decide (cs = ds) = d := ⟨_, rfl⟩
      have HD3 := Lib.hid hd1
      rw [hd1]
      clear hd1
      cases d1
      · go_wp2
        go_returns
        exact ⟨by rw [HD1.out, HD2.out, HD3.out]; rfl, hbel3⟩
      · go_wp2
        go_returns
        exact ⟨by rw [HD1.out, HD2.out, HD3.out]; rfl, hbel3⟩


set_option maxHeartbeats 400000 in
theorem markExchange_any (O E M : Int) (base : Nat) (vp vc : Value) (ps : List ByteArray) (cs : List Cl) (k : Nat) (w : World) (h1 : ExOwn w base vp vc ps cs) (hk0 : 0 < k) (hk : k ≤ 1000000) (hp : ps.length ≤ 10000000) (hc : cs.length ≤ 10000000) :
    Calls Try.prog 33 #[.agg #[.int .i64 O, .int .i64 E, .int .i64 M, vp, vc], .int .i64 k] w
      fun e w' => e = .returned (.int .i64 (k + ps.length + 3 * cs.length : Nat)) ∧ ExOwn w' base vp vc (smarks k ps.length) (cmarks (k + ps.length) cs.length) ∧ Gb2 w w' vp.ownBlock vc.ownBlock := by
  have hB := Blk.new (w := w) (cs := #[.int .i64 O, .int .i64 E, .int .i64 M, vp, vc]) (T := 33) rfl
  have hg0 : w.grownBy (w.alloc (.cells #[.int .i64 O, .int .i64 E, .int .i64 M, vp, vc] 33)) vp.ownBlock := gb_alloc (World.grownBy.refl _ _)
  have o1 := h1.plan.alloc (.cells #[.int .i64 O, .int .i64 E, .int .i64 M, vp, vc] 33)
  have o2 := h1.calls.alloc (.cells #[.int .i64 O, .int .i64 E, .int .i64 M, vp, vc] 33)
  have hlp := own_lt h1.plan
  have hlc := own_lt h1.calls
  have HA := Lib.hid h1.apart
  obtain ⟨p0, p1, p2, p3, p4, _, _, _, _, _, plt⟩ := hB.five
  clear h1
  go_enter Try.func33, Try.ntmps33
  go_wp2_with fail
  refine (markStrs_any base vp ps.length ps k _ o1 hk0 hk hp).mono ?_
  rintro e w1 ⟨rfl, ho1, hg1⟩
  have hgA := gb_trans hg0 hg1
  have hBl : Blk w1 w.heap.size #[.int .i64 O, .int .i64 E, .int .i64 M, vp, vc] 33 := by
    unfold Blk at hB ⊢
    rw [hg1.block w.heap.size (by simp) (by intro e; have := hlp _ e.symm; omega)]
    exact hB
  have o3 := o2.kept hg1 (by
    rcases HA.out with h | h
    · cases hv : Value.ownBlock vc with
      | none => exact .inl rfl
      | some x => rw [h]; exact .inr (by simp)
    · exact .inr fun e => h e.symm)
  clear hB p0 p1 p2 p3 p4 plt o1 o2 hg0
  obtain ⟨p0, p1, p2, p3, p4, _, _, _, _, _, plt⟩ := hBl.five
  go_wp2_with fail
  refine (markCalls_any base vc cs.length cs (k + ps.length) _ o3 (by omega) (by omega) hc).mono ?_
  rintro e w2 ⟨rfl, ho2, hg2⟩
  have o4 := ho1.kept hg2 HA.out
  go_wp2
  go_returns
  refine ⟨rfl, ⟨?_, ?_, HA.out⟩, w1, hgA, hg2⟩
  · rw [smarks_len]; exact o4
  · rw [cmarks_len]; exact ho2

set_option maxHeartbeats 400000 in
theorem heldExchange_any (O E M : Int) (vp vc : Value) (n m k : Nat) (w : World) (h1 : ExRd w vp vc (smarks k n) (cmarks (k + n) m)) (hk0 : 0 < k) (hk : k ≤ 1000000) (hp : n ≤ 10000000) (hc : m ≤ 10000000) :
    Calls Try.prog 34 #[.agg #[.int .i64 O, .int .i64 E, .int .i64 M, vp, vc], .int .i64 k] w
      fun e w' => e = .returned (.int .i64 (k + n + 3 * m : Nat)) ∧ Below w.heap.size w w' := by
  have hB := Blk.new (w := w) (cs := #[.int .i64 O, .int .i64 E, .int .i64 M, vp, vc]) (T := 33) rfl
  have hb0 : Below w.heap.size w (w.alloc (.cells #[.int .i64 O, .int .i64 E, .int .i64 M, vp, vc] 33)) := by (repeat' (first | (with_reducible exact Below.refl _ _) | (with_reducible assumption) | (with_reducible refine Below.drew ?_) | (with_reducible refine below_drewN ?_ _) | (with_reducible refine Below.alloc ?_ ?_ _) | (with_reducible refine Below.setCell ?_ ?_ _) | (refine Below.trans ?_ (Below.mono (by assumption) (by first | omega | (with_reducible exact Below.size (by assumption)) | (simp; done) | (simp; omega)))) | (with_reducible exact Nat.le_refl _) | omega | (with_reducible exact Below.size (by assumption)) | (simp only [World.size_alloc, World.size_setCell, World.size_drew]; omega) | (simp; done) | (simp; omega)))
  have hP := h1.plan
  have hC := h1.calls
  rw [smarks_len] at hP
  rw [cmarks_len] at hC
  have HP := Lib.hid hP
  have HC := Lib.hid hC
  obtain ⟨a1, c1, rfl, _⟩ := hP.open1
  obtain ⟨_, _, a2, c2, rfl, _⟩ := hC
  clear h1 hP
  go_enter Try.func34, Try.ntmps34
  go_wp2_with fail
  refine (heldStrs_any _ n k _ (HP.out.below hb0) hk0 hk hp).mono ?_
  rintro e w1 ⟨rfl, hb1⟩
  have hbel1 : Below w.heap.size w w1 := by (repeat' (first | (with_reducible exact Below.refl _ _) | (with_reducible assumption) | (with_reducible refine Below.drew ?_) | (with_reducible refine below_drewN ?_ _) | (with_reducible refine Below.alloc ?_ ?_ _) | (with_reducible refine Below.setCell ?_ ?_ _) | (refine Below.trans ?_ (Below.mono (by assumption) (by first | omega | (with_reducible exact Below.size (by assumption)) | (simp; done) | (simp; omega)))) | (with_reducible exact Nat.le_refl _) | omega | (with_reducible exact Below.size (by assumption)) | (simp only [World.size_alloc, World.size_setCell, World.size_drew]; omega) | (simp; done) | (simp; omega)))
  have hB1 := hB.belowAll hb1
  clear hB hb1 hb0
  obtain ⟨p0, p1, p2, p3, p4, _, _, _, _, _, plt⟩ := hB1.five
  have hn1 : ¬ ((k + n : Nat) : Int) < 0 := by omega
  go_wp2_with fail
  refine (heldCalls_any _ m (k + n) _ (HC.out.below hbel1) (by omega) (by omega) hc).mono ?_
  rintro e w2 ⟨rfl, hb2⟩
  have hbel2 : Below w.heap.size w w2 := by (repeat' (first | (with_reducible exact Below.refl _ _) | (with_reducible assumption) | (with_reducible refine Below.drew ?_) | (with_reducible refine below_drewN ?_ _) | (with_reducible refine Below.alloc ?_ ?_ _) | (with_reducible refine Below.setCell ?_ ?_ _) | (refine Below.trans ?_ (Below.mono (by assumption) (by first | omega | (with_reducible exact Below.size (by assumption)) | (simp; done) | (simp; omega)))) | (with_reducible exact Nat.le_refl _) | omega | (with_reducible exact Below.size (by assumption)) | (simp only [World.size_alloc, World.size_setCell, World.size_drew]; omega) | (simp; done) | (simp; omega)))
  have hn2 : ¬ ((k + n + 3 * m : Nat) : Int) < 0 := by omega
  go_wp2
  go_returns
  exact ⟨rfl, hbel2⟩

end Go.Proofs.Ytedadhoneebfnaa
