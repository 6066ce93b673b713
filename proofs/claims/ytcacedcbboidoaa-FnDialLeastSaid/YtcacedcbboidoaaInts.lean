/- Contracts of the laws' helpers on lists of ints. -/
import Derived.Test.YtcacedcbboidoaaLib
import Derived.Test.YtcacedcbboidoaaRows
import Derived.Handy
import Derived.Deep.QuietTactic
import Derived.BigQuiet
set_option linter.unusedSimpArgs false
set_option linter.unusedVariables false
namespace Go.Proofs.Ytcacedcbboidoaa
open Go.RowKit

def ints (zs : List Int) : List Value := zs.map (Value.int .i64)
theorem ints_len (zs : List Int) : (ints zs).length = zs.length := by simp [ints]
theorem ints_set (zs : List Int) (j : Nat) (z : Int) : (ints zs).set j (.int .i64 z) = ints (zs.set j z) := by simp [ints, List.map_set]
theorem ints_at (zs : List Int) (j : Nat) (z : Int) (h : zs[j]? = some z) : (ints zs)[j]? = some (.int .i64 z) := by simp [ints, h]
theorem set_at (zs : List Int) (j : Nat) (z : Int) (h : j < zs.length) : (zs.set j z)[j]? = some z := by simp [h]

/-- Lists that agree up to k, and whose next elements agree or not. -/
theorem agree_step {α : Type} {zs ys : List α} {k : Nat} {z y : α} (hz : zs[k]? = some z) (hy : ys[k]? = some y) (h : zs.take k = ys.take k) : zs.take (k + 1) = ys.take (k + 1) ↔ z = y := by
  rw [List.take_add_one, List.take_add_one, hz, hy, h]; simp

set_option maxHeartbeats 400000 in
theorem eqIntS_any (v u : Value) (zs ys : List Int) (w : World) (hv : Rds w v zs.length 1 (ints zs)) (hu : Rds w u ys.length 1 (ints ys)) :
    Calls Try.prog 38 #[v, u] w fun e w' => e = .returned (.bool (decide (zs = ys))) ∧ Below w.heap.size w w' := by
  obtain ⟨a, ca, rfl, hl1, hm1, hn1, hc1⟩ := hv.open1
  obtain ⟨b, cb, rfl, hl2, hm2, hn2, hc2⟩ := hu.open1
  unfold maxLen at hm1 hm2
  by_cases hlen : zs.length = ys.length
  · have hne : ((zs.length : Int) != (ys.length : Int)) = false := by simp; omega
    obtain ⟨m, hm⟩ : ∃ m, ys.length = m := ⟨_, rfl⟩
    rw [hm] at hne hm2 hn2 hc2 ⊢
    obtain ⟨n, hn⟩ : ∃ n, zs.length = n := ⟨_, rfl⟩
    rw [hn] at hne hm1 hn1 hc1 ⊢
    have hnm : n = m := by omega
    subst hnm
    have HM := Lib.hid hm
    have HN := Lib.hid hn
    clear hm hn hl1 hl2 hlen hv hu
    go_enter Try.func38, Try.ntmps38
    go_wp2_with fail
    go_loopw [5] (fun i wr => ∃ k q : Nat, k ≤ n ∧ i = .int .i64 k ∧ Hid (zs.take k = ys.take k) ∧ wr = w.drewN q) (fun i _ => n - (intOf i).toNat)
    case atStart => exact ⟨0, 0, by omega, rfl, rfl, rfl⟩
    case round =>
      obtain ⟨k, q, hk, rfl, hag, rfl⟩ := hrel
      by_cases hkn : k < n
      · rcases hc1 with hc1 | ⟨b1, o1, rfl, hb1, hc1⟩
        · omega
        rcases hc2 with hc2 | ⟨b2, o2, rfl, hb2, hc2⟩
        · omega
        obtain ⟨z, hz⟩ : ∃ z, zs[k]? = some z := ⟨_, List.getElem?_eq_getElem (by rw [HN.out]; omega)⟩
        obtain ⟨y, hy⟩ : ∃ y, ys[k]? = some y := ⟨_, List.getElem?_eq_getElem (by rw [HM.out]; omega)⟩
        have g1 := hc1 k hkn
        have g2 := hc2 k hkn
        rw [ints_at _ _ _ hz] at g1
        rw [ints_at _ _ _ hy] at g2
        have hst := agree_step hz hy hag.out
        clear hz hy hc1 hc2
        by_cases hzy : z = y
        · have HST := Lib.hid (hst.2 hzy)
          clear hst
          subst hzy
          go_wp2_with fail
          go_quiet (fail)
          go_wp2
          go_roundw
          case rel => exact ⟨k + 1, _, by omega, by go_num, HST.out, rfl⟩
          case measure => simp [intOf]; omega
        · have hne2 : (z != y) = true := by simpa using hzy
          have HST := Lib.hid (fun h => hzy (hst.1 h))
          clear hst
          go_wp2_with fail
          go_quiet (fail)
          go_wp2
          go_returns
          refine ⟨?_, by (repeat' (first | (with_reducible exact Below.refl _ _) | (with_reducible assumption) | (with_reducible refine Below.drew ?_) | (with_reducible refine below_drewN ?_ _) | (with_reducible refine Below.alloc ?_ ?_ _) | (with_reducible refine Below.setCell ?_ ?_ _) | (refine Below.trans ?_ (Below.mono (by assumption) (by first | omega | (with_reducible exact Below.size (by assumption)) | (simp; done) | (simp; omega)))) | (with_reducible exact Nat.le_refl _) | omega | (with_reducible exact Below.size (by assumption)) | (simp only [World.size_alloc, World.size_setCell, World.size_drew]; omega) | (simp; done) | (simp; omega)))⟩
          have : zs ≠ ys := fun h => HST.out (by rw [h])
          simp [this]
      · obtain rfl : k = n := by omega
        go_wp2
        go_returns
        refine ⟨?_, by (repeat' (first | (with_reducible exact Below.refl _ _) | (with_reducible assumption) | (with_reducible refine Below.drew ?_) | (with_reducible refine below_drewN ?_ _) | (with_reducible refine Below.alloc ?_ ?_ _) | (with_reducible refine Below.setCell ?_ ?_ _) | (refine Below.trans ?_ (Below.mono (by assumption) (by first | omega | (with_reducible exact Below.size (by assumption)) | (simp; done) | (simp; omega)))) | (with_reducible exact Nat.le_refl _) | omega | (with_reducible exact Below.size (by assumption)) | (simp only [World.size_alloc, World.size_setCell, World.size_drew]; omega) | (simp; done) | (simp; omega)))⟩
        have h1 := hag.out
        rw [List.take_of_length_le (by rw [HN.out]; omega), List.take_of_length_le (by rw [HM.out]; omega)] at h1
        simp [h1]
  · have hne : ((zs.length : Int) != (ys.length : Int)) = true := by simp; omega
    have hno : zs ≠ ys := fun h => hlen (by rw [h])
    have hdec : decide (zs = ys) = false := by simpa using hno
    rw [hdec]
    clear hdec hno hlen
    go_enter Try.func38, Try.ntmps38
    go_wp2
    go_returns
    exact ⟨rfl, Below.refl _ _⟩
set_option maxHeartbeats 400000 in
theorem sameInts_any (v u : Value) (zs ys : List Int) (w : World) (hv : Rds w v zs.length 1 (ints zs)) (hu : Rds w u ys.length 1 (ints ys)) :
    Calls Try.prog 55 #[v, u] w fun e w' => e = .returned (.bool (decide (zs = ys))) ∧ Below w.heap.size w w' := by
  obtain ⟨a, ca, rfl, hl1, hm1, hn1, hc1⟩ := hv.open1
  obtain ⟨b, cb, rfl, hl2, hm2, hn2, hc2⟩ := hu.open1
  unfold maxLen at hm1 hm2
  by_cases hlen : zs.length = ys.length
  · have hne : ((zs.length : Int) != (ys.length : Int)) = false := by simp; omega
    obtain ⟨m, hm⟩ : ∃ m, ys.length = m := ⟨_, rfl⟩
    rw [hm] at hne hm2 hn2 hc2 ⊢
    obtain ⟨n, hn⟩ : ∃ n, zs.length = n := ⟨_, rfl⟩
    rw [hn] at hne hm1 hn1 hc1 ⊢
    have hnm : n = m := by omega
    subst hnm
    have HM := Lib.hid hm
    have HN := Lib.hid hn
    clear hm hn hl1 hl2 hlen hv hu
    go_enter Try.func55, Try.ntmps55
    go_wp2_with fail
    go_loopw [5] (fun i wr => ∃ k q : Nat, k ≤ n ∧ i = .int .i64 k ∧ Hid (zs.take k = ys.take k) ∧ wr = w.drewN q) (fun i _ => n - (intOf i).toNat)
    case atStart => exact ⟨0, 0, by omega, rfl, rfl, rfl⟩
    case round =>
      obtain ⟨k, q, hk, rfl, hag, rfl⟩ := hrel
      by_cases hkn : k < n
      · rcases hc1 with hc1 | ⟨b1, o1, rfl, hb1, hc1⟩
        · omega
        rcases hc2 with hc2 | ⟨b2, o2, rfl, hb2, hc2⟩
        · omega
        obtain ⟨z, hz⟩ : ∃ z, zs[k]? = some z := ⟨_, List.getElem?_eq_getElem (by rw [HN.out]; omega)⟩
        obtain ⟨y, hy⟩ : ∃ y, ys[k]? = some y := ⟨_, List.getElem?_eq_getElem (by rw [HM.out]; omega)⟩
        have g1 := hc1 k hkn
        have g2 := hc2 k hkn
        rw [ints_at _ _ _ hz] at g1
        rw [ints_at _ _ _ hy] at g2
        have hst := agree_step hz hy hag.out
        clear hz hy hc1 hc2
        by_cases hzy : z = y
        · have HST := Lib.hid (hst.2 hzy)
          clear hst
          subst hzy
          go_wp2_with fail
          go_quiet (fail)
          go_wp2
          go_roundw
          case rel => exact ⟨k + 1, _, by omega, by go_num, HST.out, rfl⟩
          case measure => simp [intOf]; omega
        · have hne2 : (z != y) = true := by simpa using hzy
          have HST := Lib.hid (fun h => hzy (hst.1 h))
          clear hst
          go_wp2_with fail
          go_quiet (fail)
          go_wp2
          go_returns
          refine ⟨?_, by (repeat' (first | (with_reducible exact Below.refl _ _) | (with_reducible assumption) | (with_reducible refine Below.drew ?_) | (with_reducible refine below_drewN ?_ _) | (with_reducible refine Below.alloc ?_ ?_ _) | (with_reducible refine Below.setCell ?_ ?_ _) | (refine Below.trans ?_ (Below.mono (by assumption) (by first | omega | (with_reducible exact Below.size (by assumption)) | (simp; done) | (simp; omega)))) | (with_reducible exact Nat.le_refl _) | omega | (with_reducible exact Below.size (by assumption)) | (simp only [World.size_alloc, World.size_setCell, World.size_drew]; omega) | (simp; done) | (simp; omega)))⟩
          have : zs ≠ ys := fun h => HST.out (by rw [h])
          simp [this]
      · obtain rfl : k = n := by omega
        go_wp2
        go_returns
        refine ⟨?_, by (repeat' (first | (with_reducible exact Below.refl _ _) | (with_reducible assumption) | (with_reducible refine Below.drew ?_) | (with_reducible refine below_drewN ?_ _) | (with_reducible refine Below.alloc ?_ ?_ _) | (with_reducible refine Below.setCell ?_ ?_ _) | (refine Below.trans ?_ (Below.mono (by assumption) (by first | omega | (with_reducible exact Below.size (by assumption)) | (simp; done) | (simp; omega)))) | (with_reducible exact Nat.le_refl _) | omega | (with_reducible exact Below.size (by assumption)) | (simp only [World.size_alloc, World.size_setCell, World.size_drew]; omega) | (simp; done) | (simp; omega)))⟩
        have h1 := hag.out
        rw [List.take_of_length_le (by rw [HN.out]; omega), List.take_of_length_le (by rw [HM.out]; omega)] at h1
        simp [h1]
  · have hne : ((zs.length : Int) != (ys.length : Int)) = true := by simp; omega
    have hno : zs ≠ ys := fun h => hlen (by rw [h])
    have hdec : decide (zs = ys) = false := by simpa using hno
    rw [hdec]
    clear hdec hno hlen
    go_enter Try.func55, Try.ntmps55
    go_wp2
    go_returns
    exact ⟨rfl, Below.refl _ _⟩

/-- k, k+1, .. : what the marks write. -/
def marks (k : Int) (n : Nat) : List Int := (List.range n).map fun i => k + (i : Nat)
theorem marks_len (k : Int) (n : Nat) : (marks k n).length = n := by simp [marks]
/-- The first j are marked. -/
def markTo (zs : List Int) (k : Int) (j : Nat) : List Int := marks k j ++ zs.drop j
theorem markTo_zero (zs : List Int) (k : Int) : markTo zs k 0 = zs := by simp [markTo, marks]
theorem markTo_all (zs : List Int) (k : Int) : markTo zs k zs.length = marks k zs.length := by simp [markTo]
theorem markTo_len (zs : List Int) (k : Int) (j : Nat) (h : j ≤ zs.length) : (markTo zs k j).length = zs.length := by simp [markTo, marks]; omega
theorem markTo_set (zs : List Int) (k : Int) (j : Nat) (h : j < zs.length) : (markTo zs k j).set j (k + j) = markTo zs k (j + 1) := by
  apply List.ext_getElem
  · simp [markTo, marks]; omega
  · intro i h1 h2
    simp only [List.getElem_set, markTo, marks, List.getElem_append, List.length_map, List.length_range, List.getElem_map, List.getElem_range, List.getElem_drop]
    split
    · subst_vars; rw [dif_pos (by omega)]
    · split
      · rw [dif_pos (by omega)]
      · rw [dif_neg (by omega)]; congr 1; omega

set_option maxHeartbeats 400000 in
theorem markInts (g n cap : Nat) (zs : List Int) (k : Int) (w : World) (hv : Own w g n cap 3 1 (ints zs)) (hk0 : 0 ≤ k) (hk : k ≤ 1000000000) (hn : n ≤ 1000000000) :
    Calls Try.prog 41 #[.slice (some ⟨g, 0, none⟩) n cap, .int .i64 k] w fun e w' => e = .returned (.int .i64 (k + n)) ∧ Own w' g n cap 3 1 (ints (marks k n)) ∧ w.grownBy w' (some g) := by
  have hlen := hv.len
  rw [ints_len, Nat.mul_one] at hlen
  have HLEN := Lib.hid hlen
  clear hlen
  go_enter Try.func41, Try.ntmps41
  go_wp2_with fail
  go_loopw [1, 5] (fun kk i wr => ∃ j : Nat, j ≤ n ∧ i = .int .i64 j ∧ kk = .int .i64 (k + j) ∧ Own wr g n cap 3 1 (ints (markTo zs k j)) ∧ w.grownBy wr (some g)) (fun _ i _ => n - (intOf i).toNat)
  case atStart => exact ⟨0, by omega, rfl, by simp, by rw [markTo_zero]; exact hv, World.grownBy.refl _ _⟩
  case round =>
    obtain ⟨j, hj, rfl, rfl, hown, hgr⟩ := hrel
    by_cases hjn : j < n
    · have hlt := hown.lt
      obtain ⟨z, hz⟩ : ∃ z, (markTo zs k j)[j]? = some z := ⟨_, List.getElem?_eq_getElem (by rw [markTo_len _ _ _ (by rw [HLEN.out]; omega), HLEN.out]; omega)⟩
      have hc := hown.cell j (by omega)
      rw [ints_at _ _ _ hz] at hc
      have hf := hown.free j
      clear hz
      go_wp2_with fail
      go_roundw
      case rel =>
        refine ⟨j + 1, by omega, by go_num, by go_num, ?_, ?_⟩
        · rw [← markTo_set _ _ _ (by rw [HLEN.out]; omega), ← ints_set]
          (repeat' (first | (with_reducible assumption) | rfl | omega | (with_reducible apply Own.set) | (with_reducible apply Own.other (by first | (simp; done) | (simp; omega) | omega)) | (with_reducible apply Own.alloc) | (with_reducible apply Own.drewN) | (with_reducible apply Own.drew) | (with_reducible apply Own.below) | (simp; omega)))
        · (repeat' (first | (with_reducible assumption) | (with_reducible exact World.grownBy.refl _ _) | omega | (with_reducible apply gb_set) | (with_reducible apply gb_new (by first | omega | (simp; done) | (simp; omega))) | (with_reducible apply gb_alloc) | (with_reducible apply gb_drewN) | (with_reducible apply gb_drew) | (with_reducible apply gb_below (by assumption)) | (simp; omega)))
      case measure => simp [intOf]; omega
    · obtain rfl : j = n := by omega
      go_wp2
      go_returns
      refine ⟨rfl, ?_, hgr⟩
      have := markTo_all zs k
      rw [HLEN.out] at this
      rw [← this]
      exact hown

set_option maxHeartbeats 400000 in
theorem markInts_any (base : Nat) (v : Value) (n : Nat) (zs : List Int) (k : Int) (w : World) (hv : w.ownsRow base 3 1 v n (ints zs)) (hk0 : 0 ≤ k) (hk : k ≤ 1000000000) (hn : n ≤ 1000000000) :
    Calls Try.prog 41 #[v, .int .i64 k] w fun e w' => e = .returned (.int .i64 (k + n)) ∧ w'.ownsRow base 3 1 v n (ints (marks k n)) ∧ w.grownBy w' v.ownBlock := by
  rcases hv.2 with ⟨rfl, rfl⟩ | ⟨g, cap, cur, rfl, hb, _⟩
  · clear hv
    go_enter Try.func41, Try.ntmps41
    go_wp2_with fail
    refine wp_loop_rounds 1 ?_
    rw [rounds_succ]
    go_wp2
    go_returns
    exact ⟨by simp, World.ownsRow_nil _ _ _ _, World.grownBy.refl _ _⟩
  · refine (markInts g n cap zs k w (Own.of hv).1 hk0 hk hn).mono ?_
    rintro e w' ⟨rfl, h1, h2⟩
    exact ⟨rfl, h1.back hb, h2⟩

set_option maxHeartbeats 400000 in
theorem heldInts (v : Value) (n : Nat) (k : Int) (w : World) (hv : Rds w v n 1 (ints (marks k n))) (hk0 : 0 ≤ k) (hk : k ≤ 1000000000) (hn : n ≤ 1000000000) :
    Calls Try.prog 42 #[v, .int .i64 k] w fun e w' => e = .returned (.int .i64 (k + n)) ∧ w = w' := by
  obtain ⟨a, ca, rfl, hl1, hm1, hn1, hc1⟩ := hv.open1
  clear hl1 hv
  go_enter Try.func42, Try.ntmps42
  go_wp2_with fail
  go_loop [1, 5] (fun kk i => ∃ j : Nat, j ≤ n ∧ i = .int .i64 j ∧ kk = .int .i64 (k + j)) (fun _ i => n - (intOf i).toNat)
  case atStart => exact ⟨0, by omega, rfl, by simp⟩
  case round =>
    obtain ⟨j, hj, rfl, rfl⟩ := hrel
    by_cases hjn : j < n
    · rcases hc1 with hc1 | ⟨b1, o1, rfl, hb1, hc1⟩
      · omega
      have g1 := hc1 j hjn
      rw [ints_at (marks k n) j (k + j) (by simp [marks, hjn])] at g1
      clear hc1
      go_wp2_with fail
      go_round
      case rel => exact ⟨j + 1, by omega, by go_num, by go_num⟩
      case measure => simp [intOf]; omega
    · obtain rfl : j = n := by omega
      go_wp2
      go_returns
      exact ⟨rfl, rfl⟩

def sumL (zs : List Int) : Int := zs.foldl (· + ·) 0
theorem sumL_step (zs : List Int) (k : Nat) (z : Int) (h : zs[k]? = some z) : sumL (zs.take (k + 1)) = sumL (zs.take k) + z := by
  simp [sumL, List.take_add_one, h, List.foldl_append]

set_option maxHeartbeats 400000 in
theorem sumOf_any (v : Value) (zs : List Int) (w : World) (hv : Rds w v zs.length 1 (ints zs)) (hbd : ∀ k, -1000000000000000000 ≤ sumL (zs.take k) ∧ sumL (zs.take k) ≤ 1000000000000000000) :
    Calls Try.prog 71 #[v] w fun e w' => e = .returned (.int .i64 (sumL zs)) ∧ w = w' := by
  obtain ⟨a, ca, rfl, hl1, hm1, hn1, hc1⟩ := hv.open1
  clear hl1 hv
  obtain ⟨n, hn⟩ : ∃ n, zs.length = n := ⟨_, rfl⟩
  rw [hn] at hm1 hn1 hc1 ⊢
  have HN := Lib.hid hn
  have HBD := Lib.hid hbd
  clear hn hbd
  unfold maxLen at hm1
  go_enter Try.func71, Try.ntmps71
  go_wp2_with fail
  go_loop [3, 4] (fun s i => ∃ (j : Nat) (x : Int), Hid (x = sumL (zs.take j)) ∧ j ≤ n ∧ i = .int .i64 j ∧ s = .int .i64 x) (fun _ i => n - (intOf i).toNat)
  case atStart => exact ⟨0, 0, rfl, by omega, rfl, rfl⟩
  case round =>
    obtain ⟨j, x, hx, hj, rfl, rfl⟩ := hrel
    by_cases hjn : j < n
    · rcases hc1 with hc1 | ⟨b1, o1, rfl, hb1, hc1⟩
      · omega
      have g1 := hc1 j hjn
      obtain ⟨z, hz⟩ : ∃ z, zs[j]? = some z := ⟨_, List.getElem?_eq_getElem (by rw [HN.out]; omega)⟩
      rw [ints_at _ _ _ hz] at g1
      have hs := sumL_step zs j z hz
      have hb2 := HBD.out (j + 1)
      rw [hs, ← hx.out] at hb2
      obtain ⟨hb3, hb4⟩ := hb2
      have HS := Lib.hid hs
      clear hc1 hs hz
      go_wp2_with fail
      go_round
      case rel => exact ⟨j + 1, x + z, by unfold Hid; rw [HS.out, hx.out], by omega, by go_num, by go_num⟩
      case measure => simp [intOf]; omega
    · obtain rfl : j = n := by omega
      go_wp2
      go_returns
      have h1 := hx.out
      rw [List.take_of_length_le (by rw [HN.out]; omega)] at h1
      exact ⟨by rw [← h1]; rfl, rfl⟩

end Go.Proofs.Ytcacedcbboidoaa
