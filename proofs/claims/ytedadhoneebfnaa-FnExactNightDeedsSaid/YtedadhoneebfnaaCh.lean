/- Contracts of the laws' helpers on shapes and calls. -/
import Derived.Test.YtedadhoneebfnaaCc
import Derived.Test.YtedadhoneebfnaaSh8
import Derived.StillTailTactics
set_option linter.unusedSimpArgs false
set_option linter.unusedVariables false
namespace Go.Proofs.Ytedadhoneebfnaa
open Go.RowKit

theorem infoC : (Try.prog.info? 57).map (fun i => (i.zero, i.size, i.bytes)) = some (some (.agg #[.int .i64 0, .int .i64 0, .int .i64 0]), 3, 24) := by kernel_rfl

theorem ccells_set (cs : List Cl) : ∀ (k : Nat) (c : Cl), k < cs.length → (((ccells cs).set (k * 3) (.int .i64 c.1)).set (k * 3 + 1) (.int .i64 c.2.1)).set (k * 3 + 2) (.int .i64 c.2.2) = ccells (cs.set k c) := by
  induction cs with
  | nil => intro k r h; simp at h
  | cons x rs ih =>
    intro k r h
    cases k with
    | zero => simp [ccells]
    | succ k =>
      rw [show (k + 1) * 3 = k * 3 + 3 by omega]
      have := ih k r (by simpa using h)
      simpa [ccells, List.flatMap_cons] using this
theorem ccells_zero (n : Nat) : (madeCells (Value.agg #[.int .i64 0, .int .i64 0, .int .i64 0]).cells (n * 3)).toList = ccells (List.replicate n (0, 0, 0)) := by
  apply List.ext_getElem?
  intro i
  by_cases hi : i < n * 3
  · obtain ⟨k, hk⟩ : ∃ k, i / 3 = k := ⟨_, rfl⟩
    have hkn : k < n := by omega
    have hr : (List.replicate n ((0, 0, 0) : Cl))[k]? = some (0, 0, 0) := by simp [hkn]
    obtain ⟨g1, g2, g3⟩ := ccells_at _ k _ hr
    have h3 : i % 3 = 0 ∨ i % 3 = 1 ∨ i % 3 = 2 := by omega
    rcases h3 with h | h | h
    · obtain rfl : i = k * 3 := by omega
      rw [g1]; simp [madeCells, Value.cells, hi]
    · obtain rfl : i = k * 3 + 1 := by omega
      rw [g2]; simp [madeCells, Value.cells, hi, Nat.mul_add_mod]
    · obtain rfl : i = k * 3 + 2 := by omega
      rw [g3]; simp [madeCells, Value.cells, hi, Nat.mul_add_mod]
  · rw [List.getElem?_eq_none (by simp [madeCells]; omega), List.getElem?_eq_none (by rw [ccells_len]; simp; omega)]

set_option maxHeartbeats 400000 in
theorem toShape_any (O E M : Int) (w : World) :
    Calls Try.prog 28 #[.agg #[.int .i64 O, .int .i64 E, .int .i64 M]] w fun e w' => e = .returned (.agg #[.int .i64 O, .int .i64 E, .int .i64 M]) ∧ Below w.heap.size w w' := by
  go_enter Try.func28, Try.ntmps28
  go_wp2
  go_returns
  exact ⟨rfl, by (repeat' (first | (with_reducible exact Below.refl _ _) | (with_reducible assumption) | (with_reducible refine Below.drew ?_) | (with_reducible refine below_drewN ?_ _) | (with_reducible refine Below.alloc ?_ ?_ _) | (with_reducible refine Below.setCell ?_ ?_ _) | (refine Below.trans ?_ (Below.mono (by assumption) (by first | omega | (with_reducible exact Below.size (by assumption)) | (simp; done) | (simp; omega)))) | (with_reducible exact Nat.le_refl _) | omega | (with_reducible exact Below.size (by assumption)) | (simp only [World.size_alloc, World.size_setCell, World.size_drew]; omega) | (simp; done) | (simp; omega)))⟩
set_option maxHeartbeats 400000 in
theorem toCall_any (O E M : Int) (w : World) :
    Calls Try.prog 103 #[.agg #[.int .i64 O, .int .i64 E, .int .i64 M]] w fun e w' => e = .returned (.agg #[.int .i64 O, .int .i64 E, .int .i64 M]) ∧ Below w.heap.size w w' := by
  go_enter Try.func103, Try.ntmps103
  go_wp2
  go_returns
  exact ⟨rfl, by (repeat' (first | (with_reducible exact Below.refl _ _) | (with_reducible assumption) | (with_reducible refine Below.drew ?_) | (with_reducible refine below_drewN ?_ _) | (with_reducible refine Below.alloc ?_ ?_ _) | (with_reducible refine Below.setCell ?_ ?_ _) | (refine Below.trans ?_ (Below.mono (by assumption) (by first | omega | (with_reducible exact Below.size (by assumption)) | (simp; done) | (simp; omega)))) | (with_reducible exact Nat.le_refl _) | omega | (with_reducible exact Below.size (by assumption)) | (simp only [World.size_alloc, World.size_setCell, World.size_drew]; omega) | (simp; done) | (simp; omega)))⟩

set_option maxHeartbeats 400000 in
theorem eqCall_any (a b c x y z : Int) (w : World) :
    Calls Try.prog 107 #[.agg #[.int .i64 a, .int .i64 b, .int .i64 c], .agg #[.int .i64 x, .int .i64 y, .int .i64 z]] w fun e w' => e = .returned (.bool (decide ((a, b, c) = (x, y, z)))) ∧ Below w.heap.size w w' := by
  by_cases h1 : a = x
  · subst h1
    by_cases h2 : b = y
    · subst h2
      by_cases h3 : c = z
      · subst h3
        go_enter Try.func107, Try.ntmps107
        go_wp2
        go_returns
        exact ⟨by simp, by (repeat' (first | (with_reducible exact Below.refl _ _) | (with_reducible assumption) | (with_reducible refine Below.drew ?_) | (with_reducible refine below_drewN ?_ _) | (with_reducible refine Below.alloc ?_ ?_ _) | (with_reducible refine Below.setCell ?_ ?_ _) | (refine Below.trans ?_ (Below.mono (by assumption) (by first | omega | (with_reducible exact Below.size (by assumption)) | (simp; done) | (simp; omega)))) | (with_reducible exact Nat.le_refl _) | omega | (with_reducible exact Below.size (by assumption)) | (simp only [World.size_alloc, World.size_setCell, World.size_drew]; omega) | (simp; done) | (simp; omega)))⟩
      · have hob : (c != z) = true := by simpa using h3
        have hd : decide ((a, b, c) = (a, b, z)) = false := by simpa using h3
        rw [hd]
        clear hd
        go_enter Try.func107, Try.ntmps107
        go_wp2
        go_returns
        exact ⟨rfl, by (repeat' (first | (with_reducible exact Below.refl _ _) | (with_reducible assumption) | (with_reducible refine Below.drew ?_) | (with_reducible refine below_drewN ?_ _) | (with_reducible refine Below.alloc ?_ ?_ _) | (with_reducible refine Below.setCell ?_ ?_ _) | (refine Below.trans ?_ (Below.mono (by assumption) (by first | omega | (with_reducible exact Below.size (by assumption)) | (simp; done) | (simp; omega)))) | (with_reducible exact Nat.le_refl _) | omega | (with_reducible exact Below.size (by assumption)) | (simp only [World.size_alloc, World.size_setCell, World.size_drew]; omega) | (simp; done) | (simp; omega)))⟩
    · have hob : (b != y) = true := by simpa using h2
      have hd : decide ((a, b, c) = (a, y, z)) = false := by simp [h2]
      rw [hd]
      clear hd
      go_enter Try.func107, Try.ntmps107
      go_wp2
      go_returns
      exact ⟨rfl, by (repeat' (first | (with_reducible exact Below.refl _ _) | (with_reducible assumption) | (with_reducible refine Below.drew ?_) | (with_reducible refine below_drewN ?_ _) | (with_reducible refine Below.alloc ?_ ?_ _) | (with_reducible refine Below.setCell ?_ ?_ _) | (refine Below.trans ?_ (Below.mono (by assumption) (by first | omega | (with_reducible exact Below.size (by assumption)) | (simp; done) | (simp; omega)))) | (with_reducible exact Nat.le_refl _) | omega | (with_reducible exact Below.size (by assumption)) | (simp only [World.size_alloc, World.size_setCell, World.size_drew]; omega) | (simp; done) | (simp; omega)))⟩
  · have hob : (a != x) = true := by simpa using h1
    have hd : decide ((a, b, c) = (x, y, z)) = false := by simp [h1]
    rw [hd]
    clear hd
    go_enter Try.func107, Try.ntmps107
    go_wp2
    go_returns
    exact ⟨rfl, by (repeat' (first | (with_reducible exact Below.refl _ _) | (with_reducible assumption) | (with_reducible refine Below.drew ?_) | (with_reducible refine below_drewN ?_ _) | (with_reducible refine Below.alloc ?_ ?_ _) | (with_reducible refine Below.setCell ?_ ?_ _) | (refine Below.trans ?_ (Below.mono (by assumption) (by first | omega | (with_reducible exact Below.size (by assumption)) | (simp; done) | (simp; omega)))) | (with_reducible exact Nat.le_refl _) | omega | (with_reducible exact Below.size (by assumption)) | (simp only [World.size_alloc, World.size_setCell, World.size_drew]; omega) | (simp; done) | (simp; omega)))⟩
set_option maxHeartbeats 400000 in
theorem eqShape_any (a b c x y z : Int) (w : World) :
    Calls Try.prog 71 #[.agg #[.int .i64 a, .int .i64 b, .int .i64 c], .agg #[.int .i64 x, .int .i64 y, .int .i64 z]] w fun e w' => e = .returned (.bool (decide ((a, b, c) = (x, y, z)))) ∧ Below w.heap.size w w' := by
  by_cases h1 : a = x
  · subst h1
    by_cases h2 : b = y
    · subst h2
      by_cases h3 : c = z
      · subst h3
        go_enter Try.func71, Try.ntmps71
        go_wp2
        go_returns
        exact ⟨by simp, by (repeat' (first | (with_reducible exact Below.refl _ _) | (with_reducible assumption) | (with_reducible refine Below.drew ?_) | (with_reducible refine below_drewN ?_ _) | (with_reducible refine Below.alloc ?_ ?_ _) | (with_reducible refine Below.setCell ?_ ?_ _) | (refine Below.trans ?_ (Below.mono (by assumption) (by first | omega | (with_reducible exact Below.size (by assumption)) | (simp; done) | (simp; omega)))) | (with_reducible exact Nat.le_refl _) | omega | (with_reducible exact Below.size (by assumption)) | (simp only [World.size_alloc, World.size_setCell, World.size_drew]; omega) | (simp; done) | (simp; omega)))⟩
      · have hob : (c != z) = true := by simpa using h3
        have hd : decide ((a, b, c) = (a, b, z)) = false := by simpa using h3
        rw [hd]
        clear hd
        go_enter Try.func71, Try.ntmps71
        go_wp2
        go_returns
        exact ⟨rfl, by (repeat' (first | (with_reducible exact Below.refl _ _) | (with_reducible assumption) | (with_reducible refine Below.drew ?_) | (with_reducible refine below_drewN ?_ _) | (with_reducible refine Below.alloc ?_ ?_ _) | (with_reducible refine Below.setCell ?_ ?_ _) | (refine Below.trans ?_ (Below.mono (by assumption) (by first | omega | (with_reducible exact Below.size (by assumption)) | (simp; done) | (simp; omega)))) | (with_reducible exact Nat.le_refl _) | omega | (with_reducible exact Below.size (by assumption)) | (simp only [World.size_alloc, World.size_setCell, World.size_drew]; omega) | (simp; done) | (simp; omega)))⟩
    · have hob : (b != y) = true := by simpa using h2
      have hd : decide ((a, b, c) = (a, y, z)) = false := by simp [h2]
      rw [hd]
      clear hd
      go_enter Try.func71, Try.ntmps71
      go_wp2
      go_returns
      exact ⟨rfl, by (repeat' (first | (with_reducible exact Below.refl _ _) | (with_reducible assumption) | (with_reducible refine Below.drew ?_) | (with_reducible refine below_drewN ?_ _) | (with_reducible refine Below.alloc ?_ ?_ _) | (with_reducible refine Below.setCell ?_ ?_ _) | (refine Below.trans ?_ (Below.mono (by assumption) (by first | omega | (with_reducible exact Below.size (by assumption)) | (simp; done) | (simp; omega)))) | (with_reducible exact Nat.le_refl _) | omega | (with_reducible exact Below.size (by assumption)) | (simp only [World.size_alloc, World.size_setCell, World.size_drew]; omega) | (simp; done) | (simp; omega)))⟩
  · have hob : (a != x) = true := by simpa using h1
    have hd : decide ((a, b, c) = (x, y, z)) = false := by simp [h1]
    rw [hd]
    clear hd
    go_enter Try.func71, Try.ntmps71
    go_wp2
    go_returns
    exact ⟨rfl, by (repeat' (first | (with_reducible exact Below.refl _ _) | (with_reducible assumption) | (with_reducible refine Below.drew ?_) | (with_reducible refine below_drewN ?_ _) | (with_reducible refine Below.alloc ?_ ?_ _) | (with_reducible refine Below.setCell ?_ ?_ _) | (refine Below.trans ?_ (Below.mono (by assumption) (by first | omega | (with_reducible exact Below.size (by assumption)) | (simp; done) | (simp; omega)))) | (with_reducible exact Nat.le_refl _) | omega | (with_reducible exact Below.size (by assumption)) | (simp only [World.size_alloc, World.size_setCell, World.size_drew]; omega) | (simp; done) | (simp; omega)))⟩

/-- A list made anew, at a block's head. -/
def Made3 (E : TypeId) (cells : List Value) (n : Nat) (w : World) (e : Ending) (w' : World) : Prop :=
  ∃ g, e = .returned (.slice (some ⟨g, 0, none⟩) n n) ∧ w.heap.size ≤ g ∧ Own w' g n n E 3 cells ∧ Below w.heap.size w w'

set_option maxHeartbeats 1000000 in
theorem toCallS_any (v : Value) (cs : List Cl) (w : World) (hv : Rds w v cs.length 3 (ccells cs)) (hlen : cs.length ≤ 1048576) :
    Calls Try.prog 67 #[v] w (Made3 57 (ccells cs) cs.length w) := by
  obtain ⟨hl1, hm1, a, ca, rfl, hn1, hc1⟩ := hv
  unfold maxLen at hm1
  obtain ⟨i0, hi, hz0, hz1, hz2⟩ := info_parts infoC
  unfold Made3
  obtain ⟨n, hn⟩ : ∃ n, cs.length = n := ⟨_, rfl⟩
  rw [hn] at hm1 hn1 hc1 hlen ⊢
  have HN := Lib.hid hn
  clear hn hl1
  go_enter Try.func67, Try.ntmps67
  go_wp2_with (refine wpList_make_full _ rfl _ _ 31 rfl w.heap.size 57 i0 _ 3 Try.underlying31 hi hz0 hz1 .i64 .i64 _ _ n rfl rfl rfl rfl (by rw [hz2]; omega) (by unfold maxLen; omega) (Nat.le_refl _) ?_; intro w1 hown hgr)
  rw [ccells_zero] at hown
  obtain ⟨hO, -⟩ := Own.of hown
  have hB : Below w.heap.size w w1 := (Below.refl w.heap.size w).grown hgr (Nat.le_refl _) (by intro k hk; cases hk)
  clear hown hgr
  go_wp2_with fail
  go_loopw [4] (fun i wr => ∃ (k : Nat), k ≤ n ∧ i = .int .i64 k ∧ Own wr w.heap.size n n 57 3 (ccells (ovTo (0, 0, 0) cs k)) ∧ Below w.heap.size w wr) (fun i _ => n - (intOf i).toNat)
  case atStart => exact ⟨0, by omega, rfl, by rw [ovTo_zero, HN.out]; exact hO, hB⟩
  case round =>
    obtain ⟨k, hk, rfl, hown, hbel⟩ := hrel
    by_cases hkn : k < n
    · rcases hc1 with hc1 | ⟨b, off, rfl, hb, hc1⟩
      · omega
      obtain ⟨c, hr⟩ : ∃ r, cs[k]? = some r := ⟨_, List.getElem?_eq_getElem (by rw [HN.out]; omega)⟩
      obtain ⟨g1, g2, g3⟩ := ccells_at cs k c hr
      have c1 : wr.cell? ⟨b, off + k * 3, none⟩ = some (.int .i64 c.1) := by rw [hbel.cell (p := ⟨b, off + k * 3, none⟩) hb, hc1 _ (by omega), g1]
      have c2 : wr.cell? ⟨b, off + k * 3 + 1, none⟩ = some (.int .i64 c.2.1) := by rw [Nat.add_assoc, hbel.cell (p := ⟨b, off + (k * 3 + 1), none⟩) hb, hc1 _ (by omega), g2]
      have c3 : wr.cell? ⟨b, off + k * 3 + 2, none⟩ = some (.int .i64 c.2.2) := by rw [Nat.add_assoc, hbel.cell (p := ⟨b, off + (k * 3 + 2), none⟩) hb, hc1 _ (by omega), g3]
      have HR := Lib.hid hr
      clear hc1 hr g1 g2 g3
      have hlt := hown.lt
      go_wp2_with fail
      refine (toCall_any c.1 c.2.1 c.2.2 _).mono ?_
      rintro e w2 ⟨rfl, hb2⟩
      have hown2 := hown.below hb2 hlt
      have hlt2 := hown2.lt
      obtain ⟨y, hy⟩ : ∃ y, (ovTo (0, 0, 0) cs k)[k]? = some y := ⟨_, List.getElem?_eq_getElem (by rw [ovTo_len _ _ _ (by rw [HN.out]; omega), HN.out]; omega)⟩
      obtain ⟨y1, y2, y3⟩ := ccells_at _ _ _ hy
      have d1 := hown2.cell (k * 3) (by omega)
      rw [y1] at d1
      have d2 := hown2.cell (k * 3 + 1) (by omega)
      rw [y2] at d2
      have d3 := hown2.cell (k * 3 + 2) (by omega)
      rw [y3] at d3
      have f1 := hown2.free (k * 3)
      have f2 := hown2.free (k * 3 + 1)
      have f3 := hown2.free (k * 3 + 2)
      clear hown hy y1 y2 y3
      go_wp2_with fail
      go_roundw
      case rel =>
        refine ⟨k + 1, by omega, by go_num, ?_, by (repeat' (first | (with_reducible exact Below.refl _ _) | (with_reducible assumption) | (with_reducible refine Below.drew ?_) | (with_reducible refine below_drewN ?_ _) | (with_reducible refine Below.alloc ?_ ?_ _) | (with_reducible refine Below.setCell ?_ ?_ _) | (refine Below.trans ?_ (Below.mono (by assumption) (by first | omega | (with_reducible exact Below.size (by assumption)) | (simp; done) | (simp; omega)))) | (with_reducible exact Nat.le_refl _) | omega | (with_reducible exact Below.size (by assumption)) | (simp only [World.size_alloc, World.size_setCell, World.size_drew]; omega) | (simp; done) | (simp; omega)))⟩
        rw [← ovTo_set _ _ _ _ HR.out, ← ccells_set _ _ _ (by rw [ovTo_len _ _ _ (by rw [HN.out]; omega), HN.out]; omega)]
        (repeat' (first | (with_reducible assumption) | rfl | omega | (with_reducible apply Own.set) | (with_reducible apply Own.other (by first | (simp; done) | (simp; omega) | omega)) | (with_reducible apply Own.alloc) | (with_reducible apply Own.drewN) | (with_reducible apply Own.drew) | (with_reducible apply Own.below) | (simp; omega)))
      case measure => simp [intOf]; omega
    · obtain rfl : k = n := by omega
      go_wp2
      go_returns
      have := ovTo_all (0, 0, 0) cs
      rw [HN.out] at this
      rw [this] at hown
      exact ⟨_, rfl, Nat.le_refl _, hown, hbel⟩

set_option maxHeartbeats 400000 in
theorem szCallS_any (v : Value) (cs : List Cl) (x : Int) (w : World) (hv : Rds w v cs.length 3 (ccells cs)) (h0 : 0 ≤ x) (h1 : x ≤ 1048576) :
    Calls Try.prog 62 #[v, .int .i64 x] w fun e w' => e = .returned (.int .i64 (if x < (cs.length : Int) then -1 else x - cs.length)) ∧ w = w' := by
  obtain ⟨hl1, hm1, a, ca, rfl, hn1, hc1⟩ := hv
  unfold maxLen at hm1
  obtain ⟨n, hn⟩ : ∃ n, cs.length = n := ⟨_, rfl⟩
  rw [hn] at hm1 hn1 hc1 ⊢
  clear hn hl1 hc1
  by_cases h : x < (n : Int)
  · rw [if_pos h]
    go_enter Try.func62, Try.ntmps62
    go_wp2
    go_returns
    exact ⟨rfl, rfl⟩
  · rw [if_neg h]
    go_enter Try.func62, Try.ntmps62
    go_wp2
    go_returns
    exact ⟨rfl, rfl⟩

set_option maxRecDepth 100000 in
set_option maxHeartbeats 1000000 in
theorem eqCallS_any (v u : Value) (zs ys : List Cl) (w : World) (hv : Rds w v zs.length 3 (ccells zs)) (hu : Rds w u ys.length 3 (ccells ys)) :
    Calls Try.prog 72 #[v, u] w fun e w' => e = .returned (.bool (decide (zs = ys))) ∧ Below w.heap.size w w' := by
  obtain ⟨hl1, hm1, a, ca, rfl, hn1, hc1⟩ := hv
  obtain ⟨hl2, hm2, b, cb, rfl, hn2, hc2⟩ := hu
  unfold maxLen at hm1 hm2
  by_cases hlen : zs.length = ys.length
  · have hne : ((zs.length : Int) != (ys.length : Int)) = false := by simp; omega
    obtain ⟨m, hm⟩ : ∃ m, ys.length = m := ⟨_, rfl⟩
    rw [hm] at hne hm2 hn2 hc2 ⊢
    obtain ⟨n, hn⟩ : ∃ n, zs.length = n := ⟨_, rfl⟩
    rw [hn] at hne hm1 hn1 hc1 ⊢
    have hnm : n = m := by omega
    subst hnm
    have HM := Lib.hid hm
    have HN := Lib.hid hn
    clear hm hn hl1 hl2 hlen
    go_enter Try.func72, Try.ntmps72
    go_wp2_with fail
    go_loopw [5] (fun i wr => ∃ k : Nat, k ≤ n ∧ i = .int .i64 k ∧ Hid (zs.take k = ys.take k) ∧ Below w.heap.size w wr) (fun i _ => n - (intOf i).toNat)
    case atStart => exact ⟨0, by omega, rfl, rfl, Below.refl _ _⟩
    case round =>
      obtain ⟨k, hk, rfl, hag, hbel⟩ := hrel
      have hz := hbel.size
      by_cases hkn : k < n
      · rcases hc1 with hc1 | ⟨b1, o1, rfl, hb1, hc1⟩
        · omega
        rcases hc2 with hc2 | ⟨b2, o2, rfl, hb2, hc2⟩
        · omega
        obtain ⟨z, hz⟩ : ∃ z, zs[k]? = some z := ⟨_, List.getElem?_eq_getElem (by rw [HN.out]; omega)⟩
        obtain ⟨y, hy⟩ : ∃ y, ys[k]? = some y := ⟨_, List.getElem?_eq_getElem (by rw [HM.out]; omega)⟩
        obtain ⟨g1, g2, g3⟩ := ccells_at zs k z hz
        obtain ⟨g4, g5, g6⟩ := ccells_at ys k y hy
        have c1 : wr.cell? ⟨b1, o1 + k * 3, none⟩ = some (.int .i64 z.1) := by rw [hbel.cell (p := ⟨b1, o1 + k * 3, none⟩) hb1, hc1 _ (by omega), g1]
        have c2 : wr.cell? ⟨b1, o1 + k * 3 + 1, none⟩ = some (.int .i64 z.2.1) := by rw [Nat.add_assoc, hbel.cell (p := ⟨b1, o1 + (k * 3 + 1), none⟩) hb1, hc1 _ (by omega), g2]
        have c3 : wr.cell? ⟨b1, o1 + k * 3 + 2, none⟩ = some (.int .i64 z.2.2) := by rw [Nat.add_assoc, hbel.cell (p := ⟨b1, o1 + (k * 3 + 2), none⟩) hb1, hc1 _ (by omega), g3]
        have c4 : wr.cell? ⟨b2, o2 + k * 3, none⟩ = some (.int .i64 y.1) := by rw [hbel.cell (p := ⟨b2, o2 + k * 3, none⟩) hb2, hc2 _ (by omega), g4]
        have c5 : wr.cell? ⟨b2, o2 + k * 3 + 1, none⟩ = some (.int .i64 y.2.1) := by rw [Nat.add_assoc, hbel.cell (p := ⟨b2, o2 + (k * 3 + 1), none⟩) hb2, hc2 _ (by omega), g5]
        have c6 : wr.cell? ⟨b2, o2 + k * 3 + 2, none⟩ = some (.int .i64 y.2.2) := by rw [Nat.add_assoc, hbel.cell (p := ⟨b2, o2 + (k * 3 + 2), none⟩) hb2, hc2 _ (by omega), g6]
        have HST := Lib.hid (agree_step hz hy hag.out)
        clear hz hy hc1 hc2 g1 g2 g3 g4 g5 g6 hag
        go_wp2_with fail
        go_still_tail 8, (by kernel_rfl)
        change wpList _ _ _ _ _ wr.drew
        go_wp2_with fail
        refine (eqCall_any z.1 z.2.1 z.2.2 y.1 y.2.1 y.2.2 _).mono ?_
        rintro e w1 ⟨rfl, hb1'⟩
        by_cases hzy : z = y
        · have hd : decide ((z.1, z.2.1, z.2.2) = (y.1, y.2.1, y.2.2)) = true := by simp [hzy]
          rw [hd]
          clear hd
          go_wp2_with fail
          go_roundw
          case rel => exact ⟨k + 1, by omega, by go_num, HST.out.2 hzy, by (repeat' (first | (with_reducible exact Below.refl _ _) | (with_reducible assumption) | (with_reducible refine Below.drew ?_) | (with_reducible refine below_drewN ?_ _) | (with_reducible refine Below.alloc ?_ ?_ _) | (with_reducible refine Below.setCell ?_ ?_ _) | (refine Below.trans ?_ (Below.mono (by assumption) (by first | omega | (with_reducible exact Below.size (by assumption)) | (simp; done) | (simp; omega)))) | (with_reducible exact Nat.le_refl _) | omega | (with_reducible exact Below.size (by assumption)) | (simp only [World.size_alloc, World.size_setCell, World.size_drew]; omega) | (simp; done) | (simp; omega)))⟩
          case measure => simp [intOf]; omega
        · have hd : decide ((z.1, z.2.1, z.2.2) = (y.1, y.2.1, y.2.2)) = false := by simp only [decide_eq_false_iff_not]; exact fun e => hzy e
          rw [hd]
          clear hd
          have HZ : Hid (zs ≠ ys) := fun h => hzy (HST.out.1 (by rw [h]))
          clear hzy
          go_wp2
          go_returns
          exact ⟨by simp [HZ.out], by (repeat' (first | (with_reducible exact Below.refl _ _) | (with_reducible assumption) | (with_reducible refine Below.drew ?_) | (with_reducible refine below_drewN ?_ _) | (with_reducible refine Below.alloc ?_ ?_ _) | (with_reducible refine Below.setCell ?_ ?_ _) | (refine Below.trans ?_ (Below.mono (by assumption) (by first | omega | (with_reducible exact Below.size (by assumption)) | (simp; done) | (simp; omega)))) | (with_reducible exact Nat.le_refl _) | omega | (with_reducible exact Below.size (by assumption)) | (simp only [World.size_alloc, World.size_setCell, World.size_drew]; omega) | (simp; done) | (simp; omega)))⟩
      · obtain rfl : k = n := by omega
        go_wp2
        go_returns
        refine ⟨?_, hbel⟩
        have h1 := hag.out
        rw [List.take_of_length_le (by rw [HN.out]; omega), List.take_of_length_le (by rw [HM.out]; omega)] at h1
        simp [h1]
  · have hne : ((zs.length : Int) != (ys.length : Int)) = true := by simp; omega
    have hno : zs ≠ ys := fun h => hlen (by rw [h])
    have hdec : decide (zs = ys) = false := by simpa using hno
    rw [hdec]
    clear hdec hno hlen hc1 hc2 hl1 hl2
    go_enter Try.func72, Try.ntmps72
    go_wp2
    go_returns
    exact ⟨rfl, Below.refl _ _⟩

/-- What the marks write. -/
def cmarks (k n : Nat) : List Cl := (List.range n).map fun i => (((k + 3 * i : Nat) : Int), ((k + 3 * i + 1 : Nat) : Int), ((k + 3 * i + 2 : Nat) : Int))
theorem cmarks_len (k n : Nat) : (cmarks k n).length = n := by simp [cmarks]
theorem cmarks_at (k n i : Nat) (h : i < n) : (cmarks k n)[i]? = some (((k + 3 * i : Nat) : Int), ((k + 3 * i + 1 : Nat) : Int), ((k + 3 * i + 2 : Nat) : Int)) := by simp [cmarks, h]
def cmarkTo (cs : List Cl) (k j : Nat) : List Cl := cmarks k j ++ cs.drop j
theorem cmarkTo_zero (cs : List Cl) (k : Nat) : cmarkTo cs k 0 = cs := by simp [cmarkTo, cmarks]
theorem cmarkTo_all (cs : List Cl) (k : Nat) : cmarkTo cs k cs.length = cmarks k cs.length := by simp [cmarkTo]
theorem cmarkTo_len (cs : List Cl) (k j : Nat) (h : j ≤ cs.length) : (cmarkTo cs k j).length = cs.length := by simp [cmarkTo, cmarks]; omega
theorem cmarkTo_set (cs : List Cl) (k j : Nat) (h : j < cs.length) : (cmarkTo cs k j).set j (((k + 3 * j : Nat) : Int), ((k + 3 * j + 1 : Nat) : Int), ((k + 3 * j + 2 : Nat) : Int)) = cmarkTo cs k (j + 1) := by
  apply List.ext_getElem
  · simp [cmarkTo, cmarks]; omega
  · intro i h1 h2
    simp only [List.getElem_set, cmarkTo, cmarks, List.getElem_append, List.length_map, List.length_range, List.getElem_map, List.getElem_range, List.getElem_drop]
    split
    · subst_vars; rw [dif_pos (by omega)]
    · split
      · rw [dif_pos (by omega)]
      · rw [dif_neg (by omega)]; congr 1; omega

set_option maxRecDepth 100000 in
set_option maxHeartbeats 400000 in
theorem markCalls (g n cap : Nat) (cs : List Cl) (k : Nat) (w : World) (hv : Own w g n cap 57 3 (ccells cs)) (hk0 : 0 < k) (hk : k ≤ 100000000) (hn : n ≤ 10000000) :
    Calls Try.prog 77 #[.slice (some ⟨g, 0, none⟩) n cap, .int .i64 k] w fun e w' => e = .returned (.int .i64 (k + 3 * n : Nat)) ∧ Own w' g n cap 57 3 (ccells (cmarks k n)) ∧ w.grownBy w' (some g) := by
  have hlen := hv.len
  rw [ccells_len] at hlen
  have hlen' : cs.length = n := by omega
  have HLEN := Lib.hid hlen'
  clear hlen hlen'
  go_enter Try.func77, Try.ntmps77
  go_wp2_with fail
  go_loopw [1, 5] (fun kk i wr => ∃ j : Nat, j ≤ n ∧ i = .int .i64 j ∧ kk = .int .i64 (k + 3 * j : Nat) ∧ Own wr g n cap 57 3 (ccells (cmarkTo cs k j)) ∧ w.grownBy wr (some g)) (fun _ i _ => n - (intOf i).toNat)
  case atStart => exact ⟨0, by omega, rfl, by simp, by rw [cmarkTo_zero]; exact hv, World.grownBy.refl _ _⟩
  case round =>
    obtain ⟨j, hj, rfl, rfl, hown, hgr⟩ := hrel
    by_cases hjn : j < n
    · have hlt := hown.lt
      obtain ⟨y, hy⟩ : ∃ y, (cmarkTo cs k j)[j]? = some y := ⟨_, List.getElem?_eq_getElem (by rw [cmarkTo_len _ _ _ (by rw [HLEN.out]; omega), HLEN.out]; omega)⟩
      obtain ⟨y1, y2, y3⟩ := ccells_at _ _ _ hy
      have d1 := hown.cell (j * 3) (by omega)
      rw [y1] at d1
      have d2 := hown.cell (j * 3 + 1) (by omega)
      rw [y2] at d2
      have d3 := hown.cell (j * 3 + 2) (by omega)
      rw [y3] at d3
      have f1 := hown.free (j * 3)
      have f2 := hown.free (j * 3 + 1)
      have f3 := hown.free (j * 3 + 2)
      clear hy y1 y2 y3
      go_wp2_with fail
      go_roundw
      case rel =>
        refine ⟨j + 1, by omega, by go_num, by go_num, ?_, ?_⟩
        · rw [← cmarkTo_set _ _ _ (by rw [HLEN.out]; omega), ← ccells_set _ _ _ (by rw [cmarkTo_len _ _ _ (by rw [HLEN.out]; omega), HLEN.out]; omega)]
          (repeat' (first | (with_reducible assumption) | rfl | omega | (with_reducible apply Own.set) | (with_reducible apply Own.other (by first | (simp; done) | (simp; omega) | omega)) | (with_reducible apply Own.alloc) | (with_reducible apply Own.drewN) | (with_reducible apply Own.drew) | (with_reducible apply Own.below) | (simp; omega)))
        · (repeat' (first | (with_reducible assumption) | (with_reducible exact World.grownBy.refl _ _) | omega | (with_reducible apply gb_set) | (with_reducible apply gb_new (by first | omega | (simp; done) | (simp; omega))) | (with_reducible apply gb_alloc) | (with_reducible apply gb_drewN) | (with_reducible apply gb_drew) | (with_reducible apply gb_below (by assumption)) | (simp; omega)))
      case measure => simp [intOf]; omega
    · obtain rfl : j = n := by omega
      go_wp2
      go_returns
      refine ⟨rfl, ?_, hgr⟩
      have := cmarkTo_all cs k
      rw [HLEN.out] at this
      rw [← this]
      exact hown
set_option maxHeartbeats 400000 in
theorem markCalls_any (base : Nat) (v : Value) (n : Nat) (cs : List Cl) (k : Nat) (w : World) (hv : w.ownsRow base 57 3 v n (ccells cs)) (hk0 : 0 < k) (hk : k ≤ 100000000) (hn : n ≤ 10000000) :
    Calls Try.prog 77 #[v, .int .i64 k] w fun e w' => e = .returned (.int .i64 (k + 3 * n : Nat)) ∧ w'.ownsRow base 57 3 v n (ccells (cmarks k n)) ∧ w.grownBy w' v.ownBlock := by
  rcases hv.2 with ⟨rfl, rfl⟩ | ⟨g, cap, cur, rfl, hb, _⟩
  · clear hv
    go_enter Try.func77, Try.ntmps77
    go_wp2_with fail
    refine wp_loop_rounds 1 ?_
    rw [rounds_succ]
    go_wp2
    go_returns
    exact ⟨by simp, World.ownsRow_nil _ _ _ _, World.grownBy.refl _ _⟩
  · refine (markCalls g n cap cs k w (Own.of hv).1 hk0 hk hn).mono ?_
    rintro e w' ⟨rfl, h1, h2⟩
    exact ⟨rfl, h1.back hb, h2⟩

set_option maxRecDepth 100000 in
set_option maxHeartbeats 400000 in
theorem heldCalls_any (v : Value) (n k : Nat) (w : World) (hv : Rds w v n 3 (ccells (cmarks k n))) (hk0 : 0 < k) (hk : k ≤ 100000000) (hn : n ≤ 10000000) :
    Calls Try.prog 79 #[v, .int .i64 k] w fun e w' => e = .returned (.int .i64 (k + 3 * n : Nat)) ∧ Below w.heap.size w w' := by
  obtain ⟨hl1, hm1, a, ca, rfl, hn1, hc1⟩ := hv
  unfold maxLen at hm1
  clear hl1
  go_enter Try.func79, Try.ntmps79
  go_wp2_with fail
  go_loopw [1, 5] (fun kk i wr => ∃ j : Nat, j ≤ n ∧ i = .int .i64 j ∧ kk = .int .i64 (k + 3 * j : Nat) ∧ Below w.heap.size w wr) (fun _ i _ => n - (intOf i).toNat)
  case atStart => exact ⟨0, by omega, rfl, by simp, Below.refl _ _⟩
  case round =>
    obtain ⟨j, hj, rfl, rfl, hbel⟩ := hrel
    by_cases hjn : j < n
    · rcases hc1 with hc1 | ⟨b, off, rfl, hb, hc1⟩
      · omega
      obtain ⟨g1, g2, g3⟩ := ccells_at _ _ _ (cmarks_at k n j hjn)
      have c1 : wr.cell? ⟨b, off + j * 3, none⟩ = some (.int .i64 (k + 3 * j : Nat)) := by rw [hbel.cell (p := ⟨b, off + j * 3, none⟩) hb, hc1 _ (by omega), g1]
      have c2 : wr.cell? ⟨b, off + j * 3 + 1, none⟩ = some (.int .i64 (k + 3 * j + 1 : Nat)) := by rw [Nat.add_assoc, hbel.cell (p := ⟨b, off + (j * 3 + 1), none⟩) hb, hc1 _ (by omega), g2]
      have c3 : wr.cell? ⟨b, off + j * 3 + 2, none⟩ = some (.int .i64 (k + 3 * j + 2 : Nat)) := by rw [Nat.add_assoc, hbel.cell (p := ⟨b, off + (j * 3 + 2), none⟩) hb, hc1 _ (by omega), g3]
      clear hc1 g1 g2 g3
      go_wp2_with fail
      go_roundw
      case rel => exact ⟨j + 1, by omega, by go_num, by go_num, by (repeat' (first | (with_reducible exact Below.refl _ _) | (with_reducible assumption) | (with_reducible refine Below.drew ?_) | (with_reducible refine below_drewN ?_ _) | (with_reducible refine Below.alloc ?_ ?_ _) | (with_reducible refine Below.setCell ?_ ?_ _) | (refine Below.trans ?_ (Below.mono (by assumption) (by first | omega | (with_reducible exact Below.size (by assumption)) | (simp; done) | (simp; omega)))) | (with_reducible exact Nat.le_refl _) | omega | (with_reducible exact Below.size (by assumption)) | (simp only [World.size_alloc, World.size_setCell, World.size_drew]; omega) | (simp; done) | (simp; omega)))⟩
      case measure => simp [intOf]; omega
    · obtain rfl : j = n := by omega
      go_wp2
      go_returns
      exact ⟨rfl, hbel⟩

end Go.Proofs.Ytedadhoneebfnaa
