/- Contracts of the laws' helpers on lists of strings, and toIntS. -/
import Derived.Test.YtedadhoneebfnaaMt8
import Derived.Test.YtedadhoneebfnaaStr
import Derived.Deep.QuietTactic
import Derived.BigQuiet
import Derived.Deep.RegionHeld3
set_option linter.unusedSimpArgs false
set_option linter.unusedVariables false
namespace Go.Proofs.Ytedadhoneebfnaa
open Go.RowKit

/-- Lists that agree up to k, and whose next elements agree or not. -/
theorem agree_step {α : Type} {zs ys : List α} {k : Nat} {z y : α} (hz : zs[k]? = some z) (hy : ys[k]? = some y) (h : zs.take k = ys.take k) : zs.take (k + 1) = ys.take (k + 1) ↔ z = y := by
  rw [List.take_add_one, List.take_add_one, hz, hy, h]; simp
theorem infoS : (Try.prog.info? 9).map (fun i => (i.zero, i.size, i.bytes)) = some (some (.string ByteArray.empty), 1, 16) := by kernel_rfl
theorem strs_set (ps : List ByteArray) (j : Nat) (s : ByteArray) : (strs ps).set j (.string s) = strs (ps.set j s) := by simp [strs, List.map_set]
theorem strs_zero (n : Nat) : (madeCells (Value.string ByteArray.empty).cells (n * 1)).toList = strs (List.replicate n ByteArray.empty) := by
  apply List.ext_getElem?
  intro i
  by_cases hi : i < n
  · simp [madeCells, Value.cells, strs, hi, List.getElem?_replicate, Nat.mod_one]
  · rw [List.getElem?_eq_none (by simp [madeCells]; omega), List.getElem?_eq_none (by simp [strs]; omega)]

/-- The first k are taken over. -/
def ovTo {α : Type} (z : α) (xs : List α) (k : Nat) : List α := xs.take k ++ List.replicate (xs.length - k) z
theorem ovTo_len {α : Type} (z : α) (xs : List α) (k : Nat) (h : k ≤ xs.length) : (ovTo z xs k).length = xs.length := by simp [ovTo]; omega
theorem ovTo_zero {α : Type} (z : α) (xs : List α) : ovTo z xs 0 = List.replicate xs.length z := by simp [ovTo]
theorem ovTo_all {α : Type} (z : α) (xs : List α) : ovTo z xs xs.length = xs := by simp [ovTo]
theorem ovTo_set {α : Type} (z : α) (xs : List α) (k : Nat) (x : α) (h : xs[k]? = some x) : (ovTo z xs k).set k x = ovTo z xs (k + 1) := by
  have hk : k < xs.length := (List.getElem?_eq_some_iff.1 h).1
  have hr : xs[k] = x := (List.getElem?_eq_some_iff.1 h).2
  apply List.ext_getElem
  · simp [ovTo]; omega
  · intro i h1 h2
    simp only [ovTo, List.getElem_set, List.getElem_append, List.length_take, List.getElem_take, List.getElem_replicate]
    split
    · subst_vars; rw [dif_pos (by omega)]
    · split
      · rw [dif_pos (by omega)]
      · rw [dif_neg (by omega)]

/-- A list made anew, at a block's head. -/
def MadeL (E : TypeId) (cells : List Value) (n : Nat) (w : World) (e : Ending) (w' : World) : Prop :=
  ∃ g, e = .returned (.slice (some ⟨g, 0, none⟩) n n) ∧ w.heap.size ≤ g ∧ Own w' g n n E 1 cells ∧ Below w.heap.size w w'

set_option maxHeartbeats 1000000 in
theorem toStringS_any (v : Value) (ps : List ByteArray) (w : World) (hv : Rds w v ps.length 1 (strs ps)) (hlen : ps.length ≤ 1048576) :
    Calls Try.prog 29 #[v] w (MadeL 9 (strs ps) ps.length w) := by
  obtain ⟨i0, hi, hz0, hz1, hz2⟩ := info_parts infoS
  obtain ⟨a, ca, rfl, hl1, hm1, hn1, hc1⟩ := hv.open1
  unfold maxLen at hm1
  unfold MadeL
  obtain ⟨n, hn⟩ : ∃ n, ps.length = n := ⟨_, rfl⟩
  rw [hn] at hm1 hn1 hc1 hlen ⊢
  have HN := Lib.hid hn
  clear hn hl1 hv
  go_enter Try.func29, Try.ntmps29
  go_wp2_with (refine wpList_make_full _ rfl _ _ 24 rfl w.heap.size 9 i0 _ 1 Try.underlying24 hi hz0 hz1 .i64 .i64 _ _ n rfl rfl rfl rfl (by rw [hz2]; omega) (by unfold maxLen; omega) (Nat.le_refl _) ?_; intro w1 hown hgr)
  rw [strs_zero] at hown
  obtain ⟨hO, -⟩ := Own.of hown
  have hB : Below w.heap.size w w1 := (Below.refl w.heap.size w).grown hgr (Nat.le_refl _) (by intro k hk; cases hk)
  clear hown hgr
  go_wp2_with fail
  go_loopw [4] (fun i wr => ∃ (k : Nat), k ≤ n ∧ i = .int .i64 k ∧ Own wr w.heap.size n n 9 1 (strs (ovTo ByteArray.empty ps k)) ∧ Below w.heap.size w wr) (fun i _ => n - (intOf i).toNat)
  case atStart => exact ⟨0, by omega, rfl, by rw [ovTo_zero, HN.out]; exact hO, hB⟩
  case round =>
    obtain ⟨k, hk, rfl, hown, hbel⟩ := hrel
    by_cases hkn : k < n
    · rcases hc1 with hc1 | ⟨b, off, rfl, hb, hc1⟩
      · omega
      obtain ⟨r, hr⟩ : ∃ r, ps[k]? = some r := ⟨_, List.getElem?_eq_getElem (by rw [HN.out]; omega)⟩
      have c1 : wr.cell? ⟨b, off + k, none⟩ = some (.string r) := by rw [hbel.cell (p := ⟨b, off + k, none⟩) hb, hc1 _ (by omega), strs_at _ _ _ hr]
      have HR := Lib.hid hr
      clear hc1 hr
      have hlt := hown.lt
      obtain ⟨y, hy⟩ : ∃ y, (ovTo ByteArray.empty ps k)[k]? = some y := ⟨_, List.getElem?_eq_getElem (by rw [ovTo_len _ _ _ (by rw [HN.out]; omega), HN.out]; omega)⟩
      have d1 := hown.cell k (by omega)
      rw [strs_at _ _ _ hy] at d1
      have f1 := hown.free k
      clear hy
      go_wp2_with fail
      go_roundw
      case rel =>
        refine ⟨k + 1, by omega, by go_num, ?_, by (repeat' (first | (with_reducible exact Below.refl _ _) | (with_reducible assumption) | (with_reducible refine Below.drew ?_) | (with_reducible refine below_drewN ?_ _) | (with_reducible refine Below.alloc ?_ ?_ _) | (with_reducible refine Below.setCell ?_ ?_ _) | (refine Below.trans ?_ (Below.mono (by assumption) (by first | omega | (with_reducible exact Below.size (by assumption)) | (simp; done) | (simp; omega)))) | (with_reducible exact Nat.le_refl _) | omega | (with_reducible exact Below.size (by assumption)) | (simp only [World.size_alloc, World.size_setCell, World.size_drew]; omega) | (simp; done) | (simp; omega)))⟩
        rw [← ovTo_set _ _ _ _ HR.out, ← strs_set]
        (repeat' (first | (with_reducible assumption) | rfl | omega | (with_reducible apply Own.set) | (with_reducible apply Own.other (by first | (simp; done) | (simp; omega) | omega)) | (with_reducible apply Own.alloc) | (with_reducible apply Own.drewN) | (with_reducible apply Own.drew) | (with_reducible apply Own.below) | (simp; omega)))
      case measure => simp [intOf]; omega
    · obtain rfl : k = n := by omega
      go_wp2
      go_returns
      have := ovTo_all ByteArray.empty ps
      rw [HN.out] at this
      rw [this] at hown
      exact ⟨_, rfl, Nat.le_refl _, hown, hbel⟩

/-- What szStringS leaves. -/
def SzsPost (ps : List ByteArray) (w : World) (e : Ending) (w' : World) : Prop :=
  ∃ x : Int, e = .returned (.int .i64 x) ∧ -1 ≤ x ∧ x ≤ 1048576 ∧ (0 ≤ x → ps.length ≤ 1048576 ∧ ∀ (k : Nat) (s : ByteArray), ps[k]? = some s → s.size ≤ 1048576) ∧ w = w'
set_option maxHeartbeats 400000 in
theorem szStringS_any (v : Value) (ps : List ByteArray) (w : World) (hv : Rds w v ps.length 1 (strs ps)) (hL : StLen ps) :
    Calls Try.prog 26 #[v, .int .i64 1048576] w (SzsPost ps w) := by
  obtain ⟨a, ca, rfl, hl1, hm1, hn1, hc1⟩ := hv.open1
  unfold maxLen at hm1
  obtain ⟨n, hn⟩ : ∃ n, ps.length = n := ⟨_, rfl⟩
  rw [hn] at hm1 hn1 hc1 ⊢
  have HN := Lib.hid hn
  have HL := Lib.hid hL
  clear hn hl1 hL hv
  by_cases hbig : 1048576 < n
  · go_enter Try.func26, Try.ntmps26
    go_wp2
    go_returns
    exact ⟨-1, rfl, by omega, by omega, fun h => absurd h (by omega), rfl⟩
  · go_enter Try.func26, Try.ntmps26
    go_wp2_with fail
    go_loop [1, 5] (fun l i => ∃ (k : Nat) (x : Int), k ≤ n ∧ i = .int .i64 k ∧ l = .int .i64 x ∧ 0 ≤ x ∧ x ≤ 1048576 ∧ Hid (∀ (j : Nat) (s : ByteArray), j < k → ps[j]? = some s → s.size ≤ 1048576)) (fun _ i => n - (intOf i).toNat)
    case atStart => exact ⟨0, _, by omega, rfl, rfl, by omega, by omega, fun j r h => absurd h (by omega)⟩
    case round =>
      obtain ⟨k, x, hk, rfl, rfl, hx0, hx1, hall⟩ := hrel
      by_cases hkn : k < n
      · rcases hc1 with hc1 | ⟨b, off, rfl, hb, hc1⟩
        · omega
        obtain ⟨s, hr⟩ : ∃ r, ps[k]? = some r := ⟨_, List.getElem?_eq_getElem (by rw [HN.out]; omega)⟩
        have c1 := hc1 k hkn
        rw [strs_at ps k s hr] at c1
        have hrl := HL.out k s hr
        unfold maxLen at hrl
        have HR := Lib.hid hr
        clear hc1 hr
        by_cases hs : x < (s.size : Int)
        · have hs2 : x - s.size < 0 := by omega
          go_wp2
          go_returns
          exact ⟨-1, rfl, by omega, by omega, fun h => absurd h (by omega), rfl⟩
        · have hs2 : ¬ x - s.size < 0 := by omega
          go_wp2_with fail
          go_round
          case rel =>
            refine ⟨k + 1, x - s.size, by omega, by go_num, rfl, by omega, by omega, ?_⟩
            intro j r hj hr
            by_cases e : j = k
            · subst e; have := HR.out; rw [hr] at this; cases this; omega
            · exact hall.out j r (by omega) hr
          case measure => simp [intOf]; omega
      · obtain rfl : k = n := by omega
        go_wp2
        go_returns
        exact ⟨x, rfl, by omega, by omega, fun _ => ⟨by rw [HN.out]; omega, fun j r hr => hall.out j r (by have := (List.getElem?_eq_some_iff.1 hr).1; rw [HN.out] at this; exact this) hr⟩, rfl⟩

set_option maxHeartbeats 400000 in
theorem eqStringS_any (v u : Value) (zs ys : List ByteArray) (w : World) (hv : Rds w v zs.length 1 (strs zs)) (hu : Rds w u ys.length 1 (strs ys)) :
    Calls Try.prog 31 #[v, u] w fun e w' => e = .returned (.bool (decide (zs = ys))) ∧ Below w.heap.size w w' := by
  obtain ⟨a, ca, rfl, hl1, hm1, hn1, hc1⟩ := hv.open1
  obtain ⟨b, cb, rfl, hl2, hm2, hn2, hc2⟩ := hu.open1
  unfold maxLen at hm1 hm2
  by_cases hlen : zs.length = ys.length
  · have hne : ((zs.length : Int) != (ys.length : Int)) = false := by simp; omega
    obtain ⟨m, hm⟩ : ∃ m, ys.length = m := ⟨_, rfl⟩
    rw [hm] at hne hm2 hn2 hc2 ⊢
    obtain ⟨n, hn⟩ : ∃ n, zs.length = n := ⟨_, rfl⟩
    rw [hn] at hne hm1 hn1 hc1 ⊢
    have hnm : n = m := by omega
    subst hnm
    have HM := Lib.hid hm
    have HN := Lib.hid hn
    clear hm hn hl1 hl2 hlen hv hu
    go_enter Try.func31, Try.ntmps31
    go_wp2_with fail
    go_loopw [5] (fun i wr => ∃ k q : Nat, k ≤ n ∧ i = .int .i64 k ∧ Hid (zs.take k = ys.take k) ∧ wr = w.drewN q) (fun i _ => n - (intOf i).toNat)
    case atStart => exact ⟨0, 0, by omega, rfl, rfl, rfl⟩
    case round =>
      obtain ⟨k, q, hk, rfl, hag, rfl⟩ := hrel
      by_cases hkn : k < n
      · rcases hc1 with hc1 | ⟨b1, o1, rfl, hb1, hc1⟩
        · omega
        rcases hc2 with hc2 | ⟨b2, o2, rfl, hb2, hc2⟩
        · omega
        obtain ⟨z, hz⟩ : ∃ z, zs[k]? = some z := ⟨_, List.getElem?_eq_getElem (by rw [HN.out]; omega)⟩
        obtain ⟨y, hy⟩ : ∃ y, ys[k]? = some y := ⟨_, List.getElem?_eq_getElem (by rw [HM.out]; omega)⟩
        have g1 := hc1 k hkn
        have g2 := hc2 k hkn
        rw [strs_at _ _ _ hz] at g1
        rw [strs_at _ _ _ hy] at g2
        have hst := agree_step hz hy hag.out
        clear hz hy hc1 hc2
        by_cases hzy : z = y
        · have HST := Lib.hid (hst.2 hzy)
          clear hst
          have hsb := str_eq hzy
          subst hzy
          go_wp2_with fail
          go_quiet (fail)
          go_wp2
          go_roundw
          case rel => exact ⟨k + 1, _, by omega, by go_num, HST.out, rfl⟩
          case measure => simp [intOf]; omega
        · have hsb := str_ne hzy
          have HST := Lib.hid (fun h => hzy (hst.1 h))
          clear hst hzy
          go_wp2_with fail
          go_quiet (fail)
          go_wp2
          go_returns
          refine ⟨?_, by (repeat' (first | (with_reducible exact Below.refl _ _) | (with_reducible assumption) | (with_reducible refine Below.drew ?_) | (with_reducible refine below_drewN ?_ _) | (with_reducible refine Below.alloc ?_ ?_ _) | (with_reducible refine Below.setCell ?_ ?_ _) | (refine Below.trans ?_ (Below.mono (by assumption) (by first | omega | (with_reducible exact Below.size (by assumption)) | (simp; done) | (simp; omega)))) | (with_reducible exact Nat.le_refl _) | omega | (with_reducible exact Below.size (by assumption)) | (simp only [World.size_alloc, World.size_setCell, World.size_drew]; omega) | (simp; done) | (simp; omega)))⟩
          have : zs ≠ ys := fun h => HST.out (by rw [h])
          simp [this]
      · obtain rfl : k = n := by omega
        go_wp2
        go_returns
        refine ⟨?_, by (repeat' (first | (with_reducible exact Below.refl _ _) | (with_reducible assumption) | (with_reducible refine Below.drew ?_) | (with_reducible refine below_drewN ?_ _) | (with_reducible refine Below.alloc ?_ ?_ _) | (with_reducible refine Below.setCell ?_ ?_ _) | (refine Below.trans ?_ (Below.mono (by assumption) (by first | omega | (with_reducible exact Below.size (by assumption)) | (simp; done) | (simp; omega)))) | (with_reducible exact Nat.le_refl _) | omega | (with_reducible exact Below.size (by assumption)) | (simp only [World.size_alloc, World.size_setCell, World.size_drew]; omega) | (simp; done) | (simp; omega)))⟩
        have h1 := hag.out
        rw [List.take_of_length_le (by rw [HN.out]; omega), List.take_of_length_le (by rw [HM.out]; omega)] at h1
        simp [h1]
  · have hne : ((zs.length : Int) != (ys.length : Int)) = true := by simp; omega
    have hno : zs ≠ ys := fun h => hlen (by rw [h])
    have hdec : decide (zs = ys) = false := by simpa using hno
    rw [hdec]
    clear hdec hno hlen
    go_enter Try.func31, Try.ntmps31
    go_wp2
    go_returns
    exact ⟨rfl, Below.refl _ _⟩
set_option maxHeartbeats 400000 in
theorem sameTexts_any (v u : Value) (zs ys : List ByteArray) (w : World) (hv : Rds w v zs.length 1 (strs zs)) (hu : Rds w u ys.length 1 (strs ys)) :
    Calls Try.prog 57 #[v, u] w fun e w' => e = .returned (.bool (decide (zs = ys))) ∧ Below w.heap.size w w' := by
  obtain ⟨a, ca, rfl, hl1, hm1, hn1, hc1⟩ := hv.open1
  obtain ⟨b, cb, rfl, hl2, hm2, hn2, hc2⟩ := hu.open1
  unfold maxLen at hm1 hm2
  by_cases hlen : zs.length = ys.length
  · have hne : ((zs.length : Int) != (ys.length : Int)) = false := by simp; omega
    obtain ⟨m, hm⟩ : ∃ m, ys.length = m := ⟨_, rfl⟩
    rw [hm] at hne hm2 hn2 hc2 ⊢
    obtain ⟨n, hn⟩ : ∃ n, zs.length = n := ⟨_, rfl⟩
    rw [hn] at hne hm1 hn1 hc1 ⊢
    have hnm : n = m := by omega
    subst hnm
    have HM := Lib.hid hm
    have HN := Lib.hid hn
    clear hm hn hl1 hl2 hlen hv hu
    go_enter Try.func57, Try.ntmps57
    go_wp2_with fail
    go_loopw [5] (fun i wr => ∃ k q : Nat, k ≤ n ∧ i = .int .i64 k ∧ Hid (zs.take k = ys.take k) ∧ wr = w.drewN q) (fun i _ => n - (intOf i).toNat)
    case atStart => exact ⟨0, 0, by omega, rfl, rfl, rfl⟩
    case round =>
      obtain ⟨k, q, hk, rfl, hag, rfl⟩ := hrel
      by_cases hkn : k < n
      · rcases hc1 with hc1 | ⟨b1, o1, rfl, hb1, hc1⟩
        · omega
        rcases hc2 with hc2 | ⟨b2, o2, rfl, hb2, hc2⟩
        · omega
        obtain ⟨z, hz⟩ : ∃ z, zs[k]? = some z := ⟨_, List.getElem?_eq_getElem (by rw [HN.out]; omega)⟩
        obtain ⟨y, hy⟩ : ∃ y, ys[k]? = some y := ⟨_, List.getElem?_eq_getElem (by rw [HM.out]; omega)⟩
        have g1 := hc1 k hkn
        have g2 := hc2 k hkn
        rw [strs_at _ _ _ hz] at g1
        rw [strs_at _ _ _ hy] at g2
        have hst := agree_step hz hy hag.out
        clear hz hy hc1 hc2
        by_cases hzy : z = y
        · have HST := Lib.hid (hst.2 hzy)
          clear hst
          have hsb := str_eq hzy
          subst hzy
          go_wp2_with fail
          go_quiet (fail)
          go_wp2
          go_roundw
          case rel => exact ⟨k + 1, _, by omega, by go_num, HST.out, rfl⟩
          case measure => simp [intOf]; omega
        · have hsb := str_ne hzy
          have HST := Lib.hid (fun h => hzy (hst.1 h))
          clear hst hzy
          go_wp2_with fail
          go_quiet (fail)
          go_wp2
          go_returns
          refine ⟨?_, by (repeat' (first | (with_reducible exact Below.refl _ _) | (with_reducible assumption) | (with_reducible refine Below.drew ?_) | (with_reducible refine below_drewN ?_ _) | (with_reducible refine Below.alloc ?_ ?_ _) | (with_reducible refine Below.setCell ?_ ?_ _) | (refine Below.trans ?_ (Below.mono (by assumption) (by first | omega | (with_reducible exact Below.size (by assumption)) | (simp; done) | (simp; omega)))) | (with_reducible exact Nat.le_refl _) | omega | (with_reducible exact Below.size (by assumption)) | (simp only [World.size_alloc, World.size_setCell, World.size_drew]; omega) | (simp; done) | (simp; omega)))⟩
          have : zs ≠ ys := fun h => HST.out (by rw [h])
          simp [this]
      · obtain rfl : k = n := by omega
        go_wp2
        go_returns
        refine ⟨?_, by (repeat' (first | (with_reducible exact Below.refl _ _) | (with_reducible assumption) | (with_reducible refine Below.drew ?_) | (with_reducible refine below_drewN ?_ _) | (with_reducible refine Below.alloc ?_ ?_ _) | (with_reducible refine Below.setCell ?_ ?_ _) | (refine Below.trans ?_ (Below.mono (by assumption) (by first | omega | (with_reducible exact Below.size (by assumption)) | (simp; done) | (simp; omega)))) | (with_reducible exact Nat.le_refl _) | omega | (with_reducible exact Below.size (by assumption)) | (simp only [World.size_alloc, World.size_setCell, World.size_drew]; omega) | (simp; done) | (simp; omega)))⟩
        have h1 := hag.out
        rw [List.take_of_length_le (by rw [HN.out]; omega), List.take_of_length_le (by rw [HM.out]; omega)] at h1
        simp [h1]
  · have hne : ((zs.length : Int) != (ys.length : Int)) = true := by simp; omega
    have hno : zs ≠ ys := fun h => hlen (by rw [h])
    have hdec : decide (zs = ys) = false := by simpa using hno
    rw [hdec]
    clear hdec hno hlen
    go_enter Try.func57, Try.ntmps57
    go_wp2
    go_returns
    exact ⟨rfl, Below.refl _ _⟩

/-- What the marks write. -/
def smarks (k n : Nat) : List ByteArray := (List.range n).map fun i => mt (k + i)
theorem smarks_len (k n : Nat) : (smarks k n).length = n := by simp [smarks]
theorem smarks_at (k n i : Nat) (h : i < n) : (smarks k n)[i]? = some (mt (k + i)) := by simp [smarks, h]
def smarkTo (ps : List ByteArray) (k j : Nat) : List ByteArray := smarks k j ++ ps.drop j
theorem smarkTo_zero (ps : List ByteArray) (k : Nat) : smarkTo ps k 0 = ps := by simp [smarkTo, smarks]
theorem smarkTo_all (ps : List ByteArray) (k : Nat) : smarkTo ps k ps.length = smarks k ps.length := by simp [smarkTo]
theorem smarkTo_len (ps : List ByteArray) (k j : Nat) (h : j ≤ ps.length) : (smarkTo ps k j).length = ps.length := by simp [smarkTo, smarks]; omega
theorem smarkTo_set (ps : List ByteArray) (k j : Nat) (h : j < ps.length) : (smarkTo ps k j).set j (mt (k + j)) = smarkTo ps k (j + 1) := by
  apply List.ext_getElem
  · simp [smarkTo, smarks]; omega
  · intro i h1 h2
    simp only [List.getElem_set, smarkTo, smarks, List.getElem_append, List.length_map, List.length_range, List.getElem_map, List.getElem_range, List.getElem_drop]
    split
    · subst_vars; rw [dif_pos (by omega)]
    · split
      · rw [dif_pos (by omega)]
      · rw [dif_neg (by omega)]; congr 1; omega

set_option maxHeartbeats 400000 in
theorem markStrs (g n cap : Nat) (ps : List ByteArray) (k : Nat) (w : World) (hv : Own w g n cap 9 1 (strs ps)) (hk0 : 0 < k) (hk : k ≤ 1000000) (hn : n ≤ 10000000) :
    Calls Try.prog 32 #[.slice (some ⟨g, 0, none⟩) n cap, .int .i64 k] w fun e w' => e = .returned (.int .i64 (k + n : Nat)) ∧ Own w' g n cap 9 1 (strs (smarks k n)) ∧ w.grownBy w' (some g) := by
  have hlen := hv.len
  rw [strs_len] at hlen
  have hlen' : ps.length = n := by omega
  have HLEN := Lib.hid hlen'
  clear hlen hlen'
  go_enter Try.func32, Try.ntmps32
  go_wp2_with fail
  go_loopw [1, 5] (fun kk i wr => ∃ j : Nat, j ≤ n ∧ i = .int .i64 j ∧ kk = .int .i64 (k + j : Nat) ∧ Own wr g n cap 9 1 (strs (smarkTo ps k j)) ∧ w.grownBy wr (some g)) (fun _ i _ => n - (intOf i).toNat)
  case atStart => exact ⟨0, by omega, rfl, by simp, by rw [smarkTo_zero]; exact hv, World.grownBy.refl _ _⟩
  case round =>
    obtain ⟨j, hj, rfl, rfl, hown, hgr⟩ := hrel
    by_cases hjn : j < n
    · have hlt := hown.lt
      go_wp2_with fail
      refine (markText_any (k + j) _ (by omega) (by omega)).mono ?_
      rintro e w2 ⟨rfl, hb2⟩
      have hown2 := hown.below hb2 hlt
      have hgr2 : w.grownBy w2 (some g) := gb_below hb2 hgr.size hgr
      have hlt2 := hown2.lt
      obtain ⟨y, hy⟩ : ∃ y, (smarkTo ps k j)[j]? = some y := ⟨_, List.getElem?_eq_getElem (by rw [smarkTo_len _ _ _ (by rw [HLEN.out]; omega), HLEN.out]; omega)⟩
      have d1 := hown2.cell j (by omega)
      rw [strs_at _ _ _ hy] at d1
      have f1 := hown2.free j
      clear hown hy hb2
      go_wp2_with fail
      go_roundw
      case rel =>
        refine ⟨j + 1, by omega, by go_num, by go_num, ?_, ?_⟩
        · rw [← smarkTo_set _ _ _ (by rw [HLEN.out]; omega), ← strs_set]
          (repeat' (first | (with_reducible assumption) | rfl | omega | (with_reducible apply Own.set) | (with_reducible apply Own.other (by first | (simp; done) | (simp; omega) | omega)) | (with_reducible apply Own.alloc) | (with_reducible apply Own.drewN) | (with_reducible apply Own.drew) | (with_reducible apply Own.below) | (simp; omega)))
        · (repeat' (first | (with_reducible assumption) | (with_reducible exact World.grownBy.refl _ _) | omega | (with_reducible apply gb_set) | (with_reducible apply gb_new (by first | omega | (simp; done) | (simp; omega))) | (with_reducible apply gb_alloc) | (with_reducible apply gb_drewN) | (with_reducible apply gb_drew) | (with_reducible apply gb_below (by assumption)) | (simp; omega)))
      case measure => simp [intOf]; omega
    · obtain rfl : j = n := by omega
      go_wp2
      go_returns
      refine ⟨rfl, ?_, hgr⟩
      have := smarkTo_all ps k
      rw [HLEN.out] at this
      rw [← this]
      exact hown

set_option maxHeartbeats 400000 in
theorem markStrs_any (base : Nat) (v : Value) (n : Nat) (ps : List ByteArray) (k : Nat) (w : World) (hv : w.ownsRow base 9 1 v n (strs ps)) (hk0 : 0 < k) (hk : k ≤ 1000000) (hn : n ≤ 10000000) :
    Calls Try.prog 32 #[v, .int .i64 k] w fun e w' => e = .returned (.int .i64 (k + n : Nat)) ∧ w'.ownsRow base 9 1 v n (strs (smarks k n)) ∧ w.grownBy w' v.ownBlock := by
  rcases hv.2 with ⟨rfl, rfl⟩ | ⟨g, cap, cur, rfl, hb, _⟩
  · clear hv
    go_enter Try.func32, Try.ntmps32
    go_wp2_with fail
    refine wp_loop_rounds 1 ?_
    rw [rounds_succ]
    go_wp2
    go_returns
    exact ⟨by simp, World.ownsRow_nil _ _ _ _, World.grownBy.refl _ _⟩
  · refine (markStrs g n cap ps k w (Own.of hv).1 hk0 hk hn).mono ?_
    rintro e w' ⟨rfl, h1, h2⟩
    exact ⟨rfl, h1.back hb, h2⟩

set_option maxRecDepth 100000 in
set_option maxHeartbeats 400000 in
theorem heldStrs_any (v : Value) (n k : Nat) (w : World) (hv : Rds w v n 1 (strs (smarks k n))) (hk0 : 0 < k) (hk : k ≤ 1000000) (hn : n ≤ 10000000) :
    Calls Try.prog 78 #[v, .int .i64 k] w fun e w' => e = .returned (.int .i64 (k + n : Nat)) ∧ Below w.heap.size w w' := by
  obtain ⟨a, ca, rfl, hl1, hm1, hn1, hc1⟩ := hv.open1
  unfold maxLen at hm1
  clear hl1 hv
  go_enter Try.func78, Try.ntmps78
  go_wp2_with fail
  go_loopw [1, 5] (fun kk i wr => ∃ j : Nat, j ≤ n ∧ i = .int .i64 j ∧ kk = .int .i64 (k + j : Nat) ∧ Below w.heap.size w wr) (fun _ i _ => n - (intOf i).toNat)
  case atStart => exact ⟨0, by omega, rfl, by simp, Below.refl _ _⟩
  case round =>
    obtain ⟨j, hj, rfl, rfl, hbel⟩ := hrel
    have hz := hbel.size
    by_cases hjn : j < n
    · rcases hc1 with hc1 | ⟨b, off, rfl, hb, hc1⟩
      · omega
      have c1 : wr.cell? ⟨b, off + j, none⟩ = some (.string (mt (k + j))) := by rw [hbel.cell (p := ⟨b, off + j, none⟩) hb, hc1 _ (by omega), strs_at _ _ _ (smarks_at k n j hjn)]
      have hsb := str_eq (rfl : mt (k + j) = mt (k + j))
      have hblt : b < wr.heap.size := by omega
      clear hc1
      go_wp2_with fail
      go_region_held3 (fun w' => w'.cell? ⟨b, off + j, none⟩ = some (.string (mt (k + j)))) ((repeat' (first | (with_reducible assumption) | (with_reducible apply And.intro) | (with_reducible apply keep_drew) | (with_reducible apply keep_drewN) | (simp [go_sem, World.cell?_alloc_past]; done) | (simp [*]; done) | (with_reducible apply keep_other (by first | (simp; done) | (simp; omega) | omega)) | (with_reducible apply keep_below (by assumption)) | (with_reducible apply keep_alloc))))
        (first | (go_at_call 76; refine (markText_any (k + j) _ (by omega) (by omega)).mono ?_; rintro e w2 ⟨rfl, hb2⟩))
      have hz2 := hb2.size
      have hbel2 : Below w.heap.size w w2 := by (repeat' (first | (with_reducible exact Below.refl _ _) | (with_reducible assumption) | (with_reducible refine Below.drew ?_) | (with_reducible refine below_drewN ?_ _) | (with_reducible refine Below.alloc ?_ ?_ _) | (with_reducible refine Below.setCell ?_ ?_ _) | (refine Below.trans ?_ (Below.mono (by assumption) (by first | omega | (with_reducible exact Below.size (by assumption)) | (simp; done) | (simp; omega)))) | (with_reducible exact Nat.le_refl _) | omega | (with_reducible exact Below.size (by assumption)) | (simp only [World.size_alloc, World.size_setCell, World.size_drew]; omega) | (simp; done) | (simp; omega)))
      clear hb2 c1
      go_wp2_with fail
      go_roundw
      case rel => exact ⟨j + 1, by omega, by go_num, by go_num, by (repeat' (first | (with_reducible exact Below.refl _ _) | (with_reducible assumption) | (with_reducible refine Below.drew ?_) | (with_reducible refine below_drewN ?_ _) | (with_reducible refine Below.alloc ?_ ?_ _) | (with_reducible refine Below.setCell ?_ ?_ _) | (refine Below.trans ?_ (Below.mono (by assumption) (by first | omega | (with_reducible exact Below.size (by assumption)) | (simp; done) | (simp; omega)))) | (with_reducible exact Nat.le_refl _) | omega | (with_reducible exact Below.size (by assumption)) | (simp only [World.size_alloc, World.size_setCell, World.size_drew]; omega) | (simp; done) | (simp; omega)))⟩
      case measure => simp [intOf]; omega
    · obtain rfl : j = n := by omega
      go_wp2
      go_returns
      exact ⟨rfl, hbel⟩

end Go.Proofs.Ytedadhoneebfnaa
