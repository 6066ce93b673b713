/- The laws' helpers on slices of deeds. -/
import Derived.Test.YtedadhoneebfnaaDoorJt
import Derived.StillTailTactics
set_option linter.unusedSimpArgs false
set_option linter.unusedVariables false
namespace Go.Proofs.YtedadhoneebfnaaDoor
open Go.RowKit

theorem agree_step {α : Type} {zs ys : List α} {k : Nat} {z y : α} (hz : zs[k]? = some z) (hy : ys[k]? = some y) (h : zs.take k = ys.take k) : zs.take (k + 1) = ys.take (k + 1) ↔ z = y := by
  rw [List.take_add_one, List.take_add_one, hz, hy, h]; simp
theorem infoS : (Tryd.prog.info? 9).map (fun i => (i.zero, i.size, i.bytes)) = some (some (.string ByteArray.empty), 1, 16) := by kernel_rfl
/-- The first k are taken over. -/
def ovTo {α : Type} (z : α) (xs : List α) (k : Nat) : List α := xs.take k ++ List.replicate (xs.length - k) z
theorem ovTo_len {α : Type} (z : α) (xs : List α) (k : Nat) (h : k ≤ xs.length) : (ovTo z xs k).length = xs.length := by simp [ovTo]; omega
theorem ovTo_zero {α : Type} (z : α) (xs : List α) : ovTo z xs 0 = List.replicate xs.length z := by simp [ovTo]
theorem ovTo_all {α : Type} (z : α) (xs : List α) : ovTo z xs xs.length = xs := by simp [ovTo]
theorem ovTo_set {α : Type} (z : α) (xs : List α) (k : Nat) (x : α) (h : xs[k]? = some x) : (ovTo z xs k).set k x = ovTo z xs (k + 1) := by
  have hk : k < xs.length := (List.getElem?_eq_some_iff.1 h).1
  have hr : xs[k] = x := (List.getElem?_eq_some_iff.1 h).2
  apply List.ext_getElem
  · simp [ovTo]; omega
  · intro i h1 h2
    simp only [ovTo, List.getElem_set, List.getElem_append, List.length_take, List.getElem_take, List.getElem_replicate]
    split
    · subst_vars; rw [dif_pos (by omega)]
    · split
      · rw [dif_pos (by omega)]
      · rw [dif_neg (by omega)]

theorem infoD : (Tryd.prog.info? 26).map (fun i => (i.zero, i.size, i.bytes)) = some (some (.agg #[.int .i64 0, .int .i64 0, .string ByteArray.empty]), 3, 32) := by kernel_rfl

set_option maxHeartbeats 400000 in
theorem eqExDeed_any (a b x y : Int) (s t : ByteArray) (w : World) :
    Calls Tryd.prog 21 #[.agg #[.int .i64 a, .int .i64 b, .string s], .agg #[.int .i64 x, .int .i64 y, .string t]] w fun e w' => e = .returned (.bool (decide ((a, b, s) = (x, y, t)))) ∧ Below w.heap.size w w' := by
  by_cases h1 : a = x
  · subst h1
    by_cases h2 : b = y
    · subst h2
      by_cases h3 : s = t
      · have hsb := str_eq h3
        subst h3
        go_enter Tryd.func21, Tryd.ntmps21
        go_wp2
        go_returns
        exact ⟨by simp, by (repeat' (first | (with_reducible exact Below.refl _ _) | (with_reducible assumption) | (with_reducible refine Below.drew ?_) | (with_reducible refine below_drewN ?_ _) | (with_reducible refine Below.alloc ?_ ?_ _) | (with_reducible refine Below.setCell ?_ ?_ _) | (refine Below.trans ?_ (Below.mono (by assumption) (by first | omega | (with_reducible exact Below.size (by assumption)) | (simp; done) | (simp; omega)))) | (with_reducible exact Nat.le_refl _) | omega | (with_reducible exact Below.size (by assumption)) | (simp only [World.size_alloc, World.size_setCell, World.size_drew]; omega) | (simp; done) | (simp; omega)))⟩
      · have hsb := str_ne h3
        have hd : decide ((a, b, s) = (a, b, t)) = false := by simpa using h3
        rw [hd]
        clear hd h3
        go_enter Tryd.func21, Tryd.ntmps21
        go_wp2
        go_returns
        exact ⟨rfl, by (repeat' (first | (with_reducible exact Below.refl _ _) | (with_reducible assumption) | (with_reducible refine Below.drew ?_) | (with_reducible refine below_drewN ?_ _) | (with_reducible refine Below.alloc ?_ ?_ _) | (with_reducible refine Below.setCell ?_ ?_ _) | (refine Below.trans ?_ (Below.mono (by assumption) (by first | omega | (with_reducible exact Below.size (by assumption)) | (simp; done) | (simp; omega)))) | (with_reducible exact Nat.le_refl _) | omega | (with_reducible exact Below.size (by assumption)) | (simp only [World.size_alloc, World.size_setCell, World.size_drew]; omega) | (simp; done) | (simp; omega)))⟩
    · have hob : (b != y) = true := by simpa using h2
      have hd : decide ((a, b, s) = (a, y, t)) = false := by simp [h2]
      rw [hd]
      clear hd
      go_enter Tryd.func21, Tryd.ntmps21
      go_wp2
      go_returns
      exact ⟨rfl, by (repeat' (first | (with_reducible exact Below.refl _ _) | (with_reducible assumption) | (with_reducible refine Below.drew ?_) | (with_reducible refine below_drewN ?_ _) | (with_reducible refine Below.alloc ?_ ?_ _) | (with_reducible refine Below.setCell ?_ ?_ _) | (refine Below.trans ?_ (Below.mono (by assumption) (by first | omega | (with_reducible exact Below.size (by assumption)) | (simp; done) | (simp; omega)))) | (with_reducible exact Nat.le_refl _) | omega | (with_reducible exact Below.size (by assumption)) | (simp only [World.size_alloc, World.size_setCell, World.size_drew]; omega) | (simp; done) | (simp; omega)))⟩
  · have hob : (a != x) = true := by simpa using h1
    have hd : decide ((a, b, s) = (x, y, t)) = false := by simp [h1]
    rw [hd]
    clear hd
    go_enter Tryd.func21, Tryd.ntmps21
    go_wp2
    go_returns
    exact ⟨rfl, by (repeat' (first | (with_reducible exact Below.refl _ _) | (with_reducible assumption) | (with_reducible refine Below.drew ?_) | (with_reducible refine below_drewN ?_ _) | (with_reducible refine Below.alloc ?_ ?_ _) | (with_reducible refine Below.setCell ?_ ?_ _) | (refine Below.trans ?_ (Below.mono (by assumption) (by first | omega | (with_reducible exact Below.size (by assumption)) | (simp; done) | (simp; omega)))) | (with_reducible exact Nat.le_refl _) | omega | (with_reducible exact Below.size (by assumption)) | (simp only [World.size_alloc, World.size_setCell, World.size_drew]; omega) | (simp; done) | (simp; omega)))⟩

set_option maxRecDepth 100000 in
set_option maxHeartbeats 1000000 in
theorem eqExDeedS_any (v u : Value) (zs ys : List Ded) (w : World) (hv : Rds w v zs.length 3 (dcells zs)) (hu : Rds w u ys.length 3 (dcells ys)) :
    Calls Tryd.prog 18 #[v, u] w fun e w' => e = .returned (.bool (decide (zs = ys))) ∧ Below w.heap.size w w' := by
  obtain ⟨hl1, hm1, a, ca, rfl, hn1, hc1⟩ := hv
  obtain ⟨hl2, hm2, b, cb, rfl, hn2, hc2⟩ := hu
  unfold maxLen at hm1 hm2
  by_cases hlen : zs.length = ys.length
  · have hne : ((zs.length : Int) != (ys.length : Int)) = false := by simp; omega
    obtain ⟨m, hm⟩ : ∃ m, ys.length = m := ⟨_, rfl⟩
    rw [hm] at hne hm2 hn2 hc2 ⊢
    obtain ⟨n, hn⟩ : ∃ n, zs.length = n := ⟨_, rfl⟩
    rw [hn] at hne hm1 hn1 hc1 ⊢
    have hnm : n = m := by omega
    subst hnm
    have HM := Lib.hid hm
    have HN := Lib.hid hn
    clear hm hn hl1 hl2 hlen
    go_enter Tryd.func18, Tryd.ntmps18
    go_wp2_with fail
    go_loopw [5] (fun i wr => ∃ k : Nat, k ≤ n ∧ i = .int .i64 k ∧ Hid (zs.take k = ys.take k) ∧ Below w.heap.size w wr) (fun i _ => n - (intOf i).toNat)
    case atStart => exact ⟨0, by omega, rfl, rfl, Below.refl _ _⟩
    case round =>
      obtain ⟨k, hk, rfl, hag, hbel⟩ := hrel
      have hz := hbel.size
      by_cases hkn : k < n
      · rcases hc1 with hc1 | ⟨b1, o1, rfl, hb1, hc1⟩
        · omega
        rcases hc2 with hc2 | ⟨b2, o2, rfl, hb2, hc2⟩
        · omega
        obtain ⟨z, hz⟩ : ∃ z, zs[k]? = some z := ⟨_, List.getElem?_eq_getElem (by rw [HN.out]; omega)⟩
        obtain ⟨y, hy⟩ : ∃ y, ys[k]? = some y := ⟨_, List.getElem?_eq_getElem (by rw [HM.out]; omega)⟩
        obtain ⟨g1, g2, g3⟩ := dcells_at zs k z hz
        obtain ⟨g4, g5, g6⟩ := dcells_at ys k y hy
        have c1 : wr.cell? ⟨b1, o1 + k * 3, none⟩ = some (.int .i64 z.1) := by rw [hbel.cell (p := ⟨b1, o1 + k * 3, none⟩) hb1, hc1 _ (by omega), g1]
        have c2 : wr.cell? ⟨b1, o1 + k * 3 + 1, none⟩ = some (.int .i64 z.2.1) := by rw [Nat.add_assoc, hbel.cell (p := ⟨b1, o1 + (k * 3 + 1), none⟩) hb1, hc1 _ (by omega), g2]
        have c3 : wr.cell? ⟨b1, o1 + k * 3 + 2, none⟩ = some (.string z.2.2) := by rw [Nat.add_assoc, hbel.cell (p := ⟨b1, o1 + (k * 3 + 2), none⟩) hb1, hc1 _ (by omega), g3]
        have c4 : wr.cell? ⟨b2, o2 + k * 3, none⟩ = some (.int .i64 y.1) := by rw [hbel.cell (p := ⟨b2, o2 + k * 3, none⟩) hb2, hc2 _ (by omega), g4]
        have c5 : wr.cell? ⟨b2, o2 + k * 3 + 1, none⟩ = some (.int .i64 y.2.1) := by rw [Nat.add_assoc, hbel.cell (p := ⟨b2, o2 + (k * 3 + 1), none⟩) hb2, hc2 _ (by omega), g5]
        have c6 : wr.cell? ⟨b2, o2 + k * 3 + 2, none⟩ = some (.string y.2.2) := by rw [Nat.add_assoc, hbel.cell (p := ⟨b2, o2 + (k * 3 + 2), none⟩) hb2, hc2 _ (by omega), g6]
        have HST := Lib.hid (agree_step hz hy hag.out)
        clear hz hy hc1 hc2 g1 g2 g3 g4 g5 g6 hag
        go_wp2_with fail
        go_still_tail 8, (by kernel_rfl)
        change wpList _ _ _ _ _ wr.drew
        go_wp2_with fail
        refine (eqExDeed_any z.1 z.2.1 y.1 y.2.1 z.2.2 y.2.2 _).mono ?_
        rintro e w1 ⟨rfl, hb1'⟩
        by_cases hzy : z = y
        · have hd : decide ((z.1, z.2.1, z.2.2) = (y.1, y.2.1, y.2.2)) = true := by simp [hzy]
          rw [hd]
          clear hd
          go_wp2_with fail
          go_roundw
          case rel => exact ⟨k + 1, by omega, by go_num, HST.out.2 hzy, by (repeat' (first | (with_reducible exact Below.refl _ _) | (with_reducible assumption) | (with_reducible refine Below.drew ?_) | (with_reducible refine below_drewN ?_ _) | (with_reducible refine Below.alloc ?_ ?_ _) | (with_reducible refine Below.setCell ?_ ?_ _) | (refine Below.trans ?_ (Below.mono (by assumption) (by first | omega | (with_reducible exact Below.size (by assumption)) | (simp; done) | (simp; omega)))) | (with_reducible exact Nat.le_refl _) | omega | (with_reducible exact Below.size (by assumption)) | (simp only [World.size_alloc, World.size_setCell, World.size_drew]; omega) | (simp; done) | (simp; omega)))⟩
          case measure => simp [intOf]; omega
        · have hd : decide ((z.1, z.2.1, z.2.2) = (y.1, y.2.1, y.2.2)) = false := by simp only [decide_eq_false_iff_not]; exact fun e => hzy e
          rw [hd]
          clear hd
          have HZ : Hid (zs ≠ ys) := fun h => hzy (HST.out.1 (by rw [h]))
          clear hzy
          go_wp2
          go_returns
          exact ⟨by simp [HZ.out], by (repeat' (first | (with_reducible exact Below.refl _ _) | (with_reducible assumption) | (with_reducible refine Below.drew ?_) | (with_reducible refine below_drewN ?_ _) | (with_reducible refine Below.alloc ?_ ?_ _) | (with_reducible refine Below.setCell ?_ ?_ _) | (refine Below.trans ?_ (Below.mono (by assumption) (by first | omega | (with_reducible exact Below.size (by assumption)) | (simp; done) | (simp; omega)))) | (with_reducible exact Nat.le_refl _) | omega | (with_reducible exact Below.size (by assumption)) | (simp only [World.size_alloc, World.size_setCell, World.size_drew]; omega) | (simp; done) | (simp; omega)))⟩
      · obtain rfl : k = n := by omega
        go_wp2
        go_returns
        refine ⟨?_, hbel⟩
        have h1 := hag.out
        rw [List.take_of_length_le (by rw [HN.out]; omega), List.take_of_length_le (by rw [HM.out]; omega)] at h1
        simp [h1]
  · have hne : ((zs.length : Int) != (ys.length : Int)) = true := by simp; omega
    have hno : zs ≠ ys := fun h => hlen (by rw [h])
    have hdec : decide (zs = ys) = false := by simpa using hno
    rw [hdec]
    clear hdec hno hlen hc1 hc2 hl1 hl2
    go_enter Tryd.func18, Tryd.ntmps18
    go_wp2
    go_returns
    exact ⟨rfl, Below.refl _ _⟩

set_option maxHeartbeats 400000 in
theorem szExDeed_gen (k l x : Int) (s : ByteArray) (w : World) (hs : s.size ≤ maxLen) (h0 : 0 ≤ x) (h1 : x ≤ 1048576) :
    Calls Tryd.prog 10 #[.agg #[.int .i64 k, .int .i64 l, .string s], .int .i64 x] w fun e w' => e = .returned (.int .i64 (if (s.size : Int) ≤ x then x - (s.size : Int) else -1)) ∧ Below w.heap.size w w' := by
  unfold maxLen at hs
  by_cases h : (s.size : Int) ≤ x
  · rw [if_pos h]
    go_enter Tryd.func10, Tryd.ntmps10
    go_wp2
    go_returns
    exact ⟨rfl, by (repeat' (first | (with_reducible exact Below.refl _ _) | (with_reducible assumption) | (with_reducible refine Below.drew ?_) | (with_reducible refine below_drewN ?_ _) | (with_reducible refine Below.alloc ?_ ?_ _) | (with_reducible refine Below.setCell ?_ ?_ _) | (refine Below.trans ?_ (Below.mono (by assumption) (by first | omega | (with_reducible exact Below.size (by assumption)) | (simp; done) | (simp; omega)))) | (with_reducible exact Nat.le_refl _) | omega | (with_reducible exact Below.size (by assumption)) | (simp only [World.size_alloc, World.size_setCell, World.size_drew]; omega) | (simp; done) | (simp; omega)))⟩
  · rw [if_neg h]
    go_enter Tryd.func10, Tryd.ntmps10
    go_wp2
    go_returns
    exact ⟨rfl, by (repeat' (first | (with_reducible exact Below.refl _ _) | (with_reducible assumption) | (with_reducible refine Below.drew ?_) | (with_reducible refine below_drewN ?_ _) | (with_reducible refine Below.alloc ?_ ?_ _) | (with_reducible refine Below.setCell ?_ ?_ _) | (refine Below.trans ?_ (Below.mono (by assumption) (by first | omega | (with_reducible exact Below.size (by assumption)) | (simp; done) | (simp; omega)))) | (with_reducible exact Nat.le_refl _) | omega | (with_reducible exact Below.size (by assumption)) | (simp only [World.size_alloc, World.size_setCell, World.size_drew]; omega) | (simp; done) | (simp; omega)))⟩

/-- What is left of a bulk: at least -1 and, if not negative, the deeds were few. -/
def SzOut (n : Nat) (w : World) (e : Ending) (w' : World) : Prop := ∃ z : Int, e = .returned (.int .i64 z) ∧ (0 ≤ z → n ≤ 1048576) ∧ Below w.heap.size w w'

set_option maxRecDepth 100000 in
set_option maxHeartbeats 1000000 in
theorem szExDeedS_any (v : Value) (zs : List Ded) (w : World) (hv : Rds w v zs.length 3 (dcells zs)) (hs : ∀ d ∈ zs, d.2.2.size ≤ maxLen) :
    Calls Tryd.prog 14 #[v, .int .i64 1048576] w (SzOut zs.length w) := by
  obtain ⟨hl1, hm1, a, ca, rfl, hn1, hc1⟩ := hv
  unfold maxLen at hm1
  unfold SzOut
  obtain ⟨n, hn⟩ : ∃ n, zs.length = n := ⟨_, rfl⟩
  rw [hn] at hm1 hn1 hc1 ⊢
  have HN := Lib.hid hn
  have HS := Lib.hid hs
  clear hn hl1 hs
  by_cases hbig : (1048576 : Int) < n
  · clear hc1
    go_enter Tryd.func14, Tryd.ntmps14
    go_wp2
    go_returns
    exact ⟨-1, rfl, by omega, Below.refl _ _⟩
  · go_enter Tryd.func14, Tryd.ntmps14
    go_wp2_with fail
    go_loopw [1, 5] (fun t i wr => ∃ (k : Nat) (x : Int), k ≤ n ∧ i = .int .i64 k ∧ t = .int .i64 x ∧ 0 ≤ x ∧ x ≤ 1048576 ∧ Below w.heap.size w wr) (fun _ i _ => n - (intOf i).toNat)
    case atStart => exact ⟨0, 1048576 - n, by omega, rfl, rfl, by omega, by omega, Below.refl _ _⟩
    case round =>
      obtain ⟨k, x, hk, rfl, rfl, hx0, hx1, hbel⟩ := hrel
      by_cases hkn : k < n
      · rcases hc1 with hc1 | ⟨b1, o1, rfl, hb1, hc1⟩
        · omega
        obtain ⟨z, hz⟩ : ∃ z, zs[k]? = some z := ⟨_, List.getElem?_eq_getElem (by rw [HN.out]; omega)⟩
        obtain ⟨g1, g2, g3⟩ := dcells_at zs k z hz
        have c1 : wr.cell? ⟨b1, o1 + k * 3, none⟩ = some (.int .i64 z.1) := by rw [hbel.cell (p := ⟨b1, o1 + k * 3, none⟩) hb1, hc1 _ (by omega), g1]
        have c2 : wr.cell? ⟨b1, o1 + k * 3 + 1, none⟩ = some (.int .i64 z.2.1) := by rw [Nat.add_assoc, hbel.cell (p := ⟨b1, o1 + (k * 3 + 1), none⟩) hb1, hc1 _ (by omega), g2]
        have c3 : wr.cell? ⟨b1, o1 + k * 3 + 2, none⟩ = some (.string z.2.2) := by rw [Nat.add_assoc, hbel.cell (p := ⟨b1, o1 + (k * 3 + 2), none⟩) hb1, hc1 _ (by omega), g3]
        have hzs := HS.out z (List.mem_of_getElem? hz)
        clear hz hc1 g1 g2 g3
        go_wp2_with fail
        refine (szExDeed_gen z.1 z.2.1 x z.2.2 _ hzs hx0 hx1).mono ?_
        rintro e w1 ⟨rfl, hb⟩
        have hbel1 : Below w.heap.size w w1 := by (repeat' (first | (with_reducible exact Below.refl _ _) | (with_reducible assumption) | (with_reducible refine Below.drew ?_) | (with_reducible refine below_drewN ?_ _) | (with_reducible refine Below.alloc ?_ ?_ _) | (with_reducible refine Below.setCell ?_ ?_ _) | (refine Below.trans ?_ (Below.mono (by assumption) (by first | omega | (with_reducible exact Below.size (by assumption)) | (simp; done) | (simp; omega)))) | (with_reducible exact Nat.le_refl _) | omega | (with_reducible exact Below.size (by assumption)) | (simp only [World.size_alloc, World.size_setCell, World.size_drew]; omega) | (simp; done) | (simp; omega)))
        by_cases hle : (z.2.2.size : Int) ≤ x
        · rw [if_pos hle]
          obtain ⟨y, hy⟩ : ∃ y, x - (z.2.2.size : Int) = y := ⟨_, rfl⟩
          rw [hy]
          have hy0 : 0 ≤ y := by omega
          have hy1 : y ≤ 1048576 := by omega
          clear hy hle
          go_wp2_with fail
          go_roundw
          case rel => exact ⟨k + 1, y, by omega, by go_num, rfl, hy0, hy1, by (repeat' (first | (with_reducible exact Below.refl _ _) | (with_reducible assumption) | (with_reducible refine Below.drew ?_) | (with_reducible refine below_drewN ?_ _) | (with_reducible refine Below.alloc ?_ ?_ _) | (with_reducible refine Below.setCell ?_ ?_ _) | (refine Below.trans ?_ (Below.mono (by assumption) (by first | omega | (with_reducible exact Below.size (by assumption)) | (simp; done) | (simp; omega)))) | (with_reducible exact Nat.le_refl _) | omega | (with_reducible exact Below.size (by assumption)) | (simp only [World.size_alloc, World.size_setCell, World.size_drew]; omega) | (simp; done) | (simp; omega)))⟩
          case measure => simp [intOf]; omega
        · rw [if_neg hle]
          go_wp2
          go_returns
          exact ⟨-1, rfl, by omega, hbel1⟩
      · go_wp2
        go_returns
        exact ⟨x, rfl, by omega, hbel⟩

def Made3 (E : TypeId) (cells : List Value) (n : Nat) (w : World) (e : Ending) (w' : World) : Prop :=
  ∃ g, e = .returned (.slice (some ⟨g, 0, none⟩) n n) ∧ w.heap.size ≤ g ∧ Own w' g n n E 3 cells ∧ Below w.heap.size w w'

set_option maxHeartbeats 1000000 in
theorem toExDeedS_any (v : Value) (cs : List Ded) (w : World) (hv : Rds w v cs.length 3 (dcells cs)) (hlen : cs.length ≤ 1048576) :
    Calls Tryd.prog 16 #[v] w (Made3 26 (dcells cs) cs.length w) := by
  obtain ⟨hl1, hm1, a, ca, rfl, hn1, hc1⟩ := hv
  unfold maxLen at hm1
  obtain ⟨i0, hi, hz0, hz1, hz2⟩ := info_parts infoD
  unfold Made3
  obtain ⟨n, hn⟩ : ∃ n, cs.length = n := ⟨_, rfl⟩
  rw [hn] at hm1 hn1 hc1 hlen ⊢
  have HN := Lib.hid hn
  clear hn hl1
  go_enter Tryd.func16, Tryd.ntmps16
  go_wp2_with (refine wpList_make_full _ rfl _ _ 32 rfl w.heap.size 26 i0 _ 3 Tryd.underlying32 hi hz0 hz1 .i64 .i64 _ _ n rfl rfl rfl rfl (by rw [hz2]; omega) (by unfold maxLen; omega) (Nat.le_refl _) ?_; intro w1 hown hgr)
  rw [dcells_zero] at hown
  obtain ⟨hO, -⟩ := Own.of hown
  have hB : Below w.heap.size w w1 := (Below.refl w.heap.size w).grown hgr (Nat.le_refl _) (by intro k hk; cases hk)
  clear hown hgr
  go_wp2_with fail
  go_loopw [4] (fun i wr => ∃ (k : Nat), k ≤ n ∧ i = .int .i64 k ∧ Own wr w.heap.size n n 26 3 (dcells (ovTo (0, 0, ByteArray.empty) cs k)) ∧ Below w.heap.size w wr) (fun i _ => n - (intOf i).toNat)
  case atStart => exact ⟨0, by omega, rfl, by rw [ovTo_zero, HN.out]; exact hO, hB⟩
  case round =>
    obtain ⟨k, hk, rfl, hown, hbel⟩ := hrel
    by_cases hkn : k < n
    · rcases hc1 with hc1 | ⟨b, off, rfl, hb, hc1⟩
      · omega
      obtain ⟨c, hr⟩ : ∃ r, cs[k]? = some r := ⟨_, List.getElem?_eq_getElem (by rw [HN.out]; omega)⟩
      obtain ⟨g1, g2, g3⟩ := dcells_at cs k c hr
      have c1 : wr.cell? ⟨b, off + k * 3, none⟩ = some (.int .i64 c.1) := by rw [hbel.cell (p := ⟨b, off + k * 3, none⟩) hb, hc1 _ (by omega), g1]
      have c2 : wr.cell? ⟨b, off + k * 3 + 1, none⟩ = some (.int .i64 c.2.1) := by rw [Nat.add_assoc, hbel.cell (p := ⟨b, off + (k * 3 + 1), none⟩) hb, hc1 _ (by omega), g2]
      have c3 : wr.cell? ⟨b, off + k * 3 + 2, none⟩ = some (.string c.2.2) := by rw [Nat.add_assoc, hbel.cell (p := ⟨b, off + (k * 3 + 2), none⟩) hb, hc1 _ (by omega), g3]
      have HR := Lib.hid hr
      clear hc1 hr g1 g2 g3
      have hlt := hown.lt
      go_wp2_with fail
      refine (toExDeed_any c.1 c.2.1 c.2.2 _).mono ?_
      rintro e w2 ⟨rfl, hb2⟩
      have hown2 := hown.below hb2 hlt
      have hlt2 := hown2.lt
      obtain ⟨y, hy⟩ : ∃ y, (ovTo (0, 0, ByteArray.empty) cs k)[k]? = some y := ⟨_, List.getElem?_eq_getElem (by rw [ovTo_len _ _ _ (by rw [HN.out]; omega), HN.out]; omega)⟩
      obtain ⟨y1, y2, y3⟩ := dcells_at _ _ _ hy
      have d1 := hown2.cell (k * 3) (by omega)
      rw [y1] at d1
      have d2 := hown2.cell (k * 3 + 1) (by omega)
      rw [y2] at d2
      have d3 := hown2.cell (k * 3 + 2) (by omega)
      rw [y3] at d3
      have f1 := hown2.free (k * 3)
      have f2 := hown2.free (k * 3 + 1)
      have f3 := hown2.free (k * 3 + 2)
      clear hown hy y1 y2 y3
      go_wp2_with fail
      go_roundw
      case rel =>
        refine ⟨k + 1, by omega, by go_num, ?_, by (repeat' (first | (with_reducible exact Below.refl _ _) | (with_reducible assumption) | (with_reducible refine Below.drew ?_) | (with_reducible refine below_drewN ?_ _) | (with_reducible refine Below.alloc ?_ ?_ _) | (with_reducible refine Below.setCell ?_ ?_ _) | (refine Below.trans ?_ (Below.mono (by assumption) (by first | omega | (with_reducible exact Below.size (by assumption)) | (simp; done) | (simp; omega)))) | (with_reducible exact Nat.le_refl _) | omega | (with_reducible exact Below.size (by assumption)) | (simp only [World.size_alloc, World.size_setCell, World.size_drew]; omega) | (simp; done) | (simp; omega)))⟩
        rw [← ovTo_set _ _ _ _ HR.out, ← dcells_set _ _ _ (by rw [ovTo_len _ _ _ (by rw [HN.out]; omega), HN.out]; omega)]
        (repeat' (first | (with_reducible assumption) | rfl | omega | (with_reducible apply Own.set) | (with_reducible apply Own.other (by first | (simp; done) | (simp; omega) | omega)) | (with_reducible apply Own.alloc) | (with_reducible apply Own.drewN) | (with_reducible apply Own.drew) | (with_reducible apply Own.below) | (simp; omega)))
      case measure => simp [intOf]; omega
    · obtain rfl : k = n := by omega
      go_wp2
      go_returns
      have := ovTo_all (0, 0, ByteArray.empty) cs
      rw [HN.out] at this
      rw [this] at hown
      exact ⟨_, rfl, Nat.le_refl _, hown, hbel⟩


end Go.Proofs.YtedadhoneebfnaaDoor
