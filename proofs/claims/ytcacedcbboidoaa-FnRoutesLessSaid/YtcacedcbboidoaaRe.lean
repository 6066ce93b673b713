/- Contracts of the laws' comparisons of tables. -/
import Derived.Test.YtcacedcbboidoaaRl
set_option linter.unusedSimpArgs false
set_option linter.unusedVariables false
namespace Go.Proofs.Ytcacedcbboidoaa
open Go.RowKit

set_option maxRecDepth 100000 in
set_option maxHeartbeats 1000000 in
theorem eqRouteS_any (v u : Value) (zs ys : List Rt) (w : World) (hv : Rds w v zs.length 2 (rcells zs)) (hu : Rds w u ys.length 2 (rcells ys)) :
    Calls Try.prog 31 #[v, u] w fun e w' => e = .returned (.bool (decide (zs = ys))) ∧ Below w.heap.size w w' := by
  obtain ⟨hl1, hm1, a, ca, rfl, hn1, hc1⟩ := hv
  obtain ⟨hl2, hm2, b, cb, rfl, hn2, hc2⟩ := hu
  unfold maxLen at hm1 hm2
  by_cases hlen : zs.length = ys.length
  · have hne : ((zs.length : Int) != (ys.length : Int)) = false := by simp; omega
    obtain ⟨m, hm⟩ : ∃ m, ys.length = m := ⟨_, rfl⟩
    rw [hm] at hne hm2 hn2 hc2 ⊢
    obtain ⟨n, hn⟩ : ∃ n, zs.length = n := ⟨_, rfl⟩
    rw [hn] at hne hm1 hn1 hc1 ⊢
    have hnm : n = m := by omega
    subst hnm
    have HM := Lib.hid hm
    have HN := Lib.hid hn
    clear hm hn hl1 hl2 hlen
    go_enter Try.func31, Try.ntmps31
    go_wp2_with fail
    go_loopw [5] (fun i wr => ∃ k : Nat, k ≤ n ∧ i = .int .i64 k ∧ Hid (zs.take k = ys.take k) ∧ Below w.heap.size w wr) (fun i _ => n - (intOf i).toNat)
    case atStart => exact ⟨0, by omega, rfl, rfl, Below.refl _ _⟩
    case round =>
      obtain ⟨k, hk, rfl, hag, hbel⟩ := hrel
      have hz := hbel.size
      by_cases hkn : k < n
      · rcases hc1 with hc1 | ⟨b1, o1, rfl, hb1, hc1⟩
        · omega
        rcases hc2 with hc2 | ⟨b2, o2, rfl, hb2, hc2⟩
        · omega
        obtain ⟨z, hz⟩ : ∃ z, zs[k]? = some z := ⟨_, List.getElem?_eq_getElem (by rw [HN.out]; omega)⟩
        obtain ⟨y, hy⟩ : ∃ y, ys[k]? = some y := ⟨_, List.getElem?_eq_getElem (by rw [HM.out]; omega)⟩
        obtain ⟨g1, g2⟩ := rcells_at zs k z hz
        obtain ⟨g3, g4⟩ := rcells_at ys k y hy
        have c1 : wr.cell? ⟨b1, o1 + k * 2, none⟩ = some (.string z.1) := by rw [hbel.cell (p := ⟨b1, o1 + k * 2, none⟩) hb1, hc1 _ (by omega), g1]
        have c2 : wr.cell? ⟨b1, o1 + k * 2 + 1, none⟩ = some (.int .i64 z.2) := by rw [Nat.add_assoc, hbel.cell (p := ⟨b1, o1 + (k * 2 + 1), none⟩) hb1, hc1 _ (by omega), g2]
        have c3 : wr.cell? ⟨b2, o2 + k * 2, none⟩ = some (.string y.1) := by rw [hbel.cell (p := ⟨b2, o2 + k * 2, none⟩) hb2, hc2 _ (by omega), g3]
        have c4 : wr.cell? ⟨b2, o2 + k * 2 + 1, none⟩ = some (.int .i64 y.2) := by rw [Nat.add_assoc, hbel.cell (p := ⟨b2, o2 + (k * 2 + 1), none⟩) hb2, hc2 _ (by omega), g4]
        have HST := Lib.hid (agree_step hz hy hag.out)
        clear hz hy hc1 hc2 g1 g2 g3 g4 hag
        go_wp2_with fail
        go_still_tail 8, (by kernel_rfl)
        change wpList _ _ _ _ _ wr.drew
        go_wp2_with fail
        refine (eqRoute_any z.1 y.1 z.2 y.2 _).mono ?_
        rintro e w1 ⟨rfl, hb1'⟩
        by_cases hzy : z = y
        · have hd : decide ((z.1, z.2) = (y.1, y.2)) = true := by simp [hzy]
          rw [hd]
          clear hd
          go_wp2_with fail
          go_roundw
          case rel => exact ⟨k + 1, by omega, by go_num, HST.out.2 hzy, by (repeat' (first | (with_reducible exact Below.refl _ _) | (with_reducible assumption) | (with_reducible refine Below.drew ?_) | (with_reducible refine below_drewN ?_ _) | (with_reducible refine Below.alloc ?_ ?_ _) | (with_reducible refine Below.setCell ?_ ?_ _) | (refine Below.trans ?_ (Below.mono (by assumption) (by first | omega | (with_reducible exact Below.size (by assumption)) | (simp; done) | (simp; omega)))) | (with_reducible exact Nat.le_refl _) | omega | (with_reducible exact Below.size (by assumption)) | (simp only [World.size_alloc, World.size_setCell, World.size_drew]; omega) | (simp; done) | (simp; omega)))⟩
          case measure => simp [intOf]; omega
        · have hd : decide ((z.1, z.2) = (y.1, y.2)) = false := by simp only [decide_eq_false_iff_not]; exact fun e => hzy e
          rw [hd]
          clear hd
          have HZ : Hid (zs ≠ ys) := fun h => hzy (HST.out.1 (by rw [h]))
          clear hzy
          go_wp2
          go_returns
          exact ⟨by simp [HZ.out], by (repeat' (first | (with_reducible exact Below.refl _ _) | (with_reducible assumption) | (with_reducible refine Below.drew ?_) | (with_reducible refine below_drewN ?_ _) | (with_reducible refine Below.alloc ?_ ?_ _) | (with_reducible refine Below.setCell ?_ ?_ _) | (refine Below.trans ?_ (Below.mono (by assumption) (by first | omega | (with_reducible exact Below.size (by assumption)) | (simp; done) | (simp; omega)))) | (with_reducible exact Nat.le_refl _) | omega | (with_reducible exact Below.size (by assumption)) | (simp only [World.size_alloc, World.size_setCell, World.size_drew]; omega) | (simp; done) | (simp; omega)))⟩
      · obtain rfl : k = n := by omega
        go_wp2
        go_returns
        refine ⟨?_, hbel⟩
        have h1 := hag.out
        rw [List.take_of_length_le (by rw [HN.out]; omega), List.take_of_length_le (by rw [HM.out]; omega)] at h1
        simp [h1]
  · have hne : ((zs.length : Int) != (ys.length : Int)) = true := by simp; omega
    have hno : zs ≠ ys := fun h => hlen (by rw [h])
    have hdec : decide (zs = ys) = false := by simpa using hno
    rw [hdec]
    clear hdec hno hlen hc1 hc2 hl1 hl2
    go_enter Try.func31, Try.ntmps31
    go_wp2
    go_returns
    exact ⟨rfl, Below.refl _ _⟩

set_option maxRecDepth 100000 in
set_option maxHeartbeats 1000000 in
theorem sameRoutes_any (v u : Value) (zs ys : List Rt) (w : World) (hv : Rds w v zs.length 2 (rcells zs)) (hu : Rds w u ys.length 2 (rcells ys)) :
    Calls Try.prog 60 #[v, u] w fun e w' => e = .returned (.bool (decide (zs = ys))) ∧ Below w.heap.size w w' := by
  obtain ⟨hl1, hm1, a, ca, rfl, hn1, hc1⟩ := hv
  obtain ⟨hl2, hm2, b, cb, rfl, hn2, hc2⟩ := hu
  unfold maxLen at hm1 hm2
  by_cases hlen : zs.length = ys.length
  · have hne : ((zs.length : Int) != (ys.length : Int)) = false := by simp; omega
    obtain ⟨m, hm⟩ : ∃ m, ys.length = m := ⟨_, rfl⟩
    rw [hm] at hne hm2 hn2 hc2 ⊢
    obtain ⟨n, hn⟩ : ∃ n, zs.length = n := ⟨_, rfl⟩
    rw [hn] at hne hm1 hn1 hc1 ⊢
    have hnm : n = m := by omega
    subst hnm
    have HM := Lib.hid hm
    have HN := Lib.hid hn
    clear hm hn hl1 hl2 hlen
    go_enter Try.func60, Try.ntmps60
    go_wp2_with fail
    go_loopw [5] (fun i wr => ∃ k : Nat, k ≤ n ∧ i = .int .i64 k ∧ Hid (zs.take k = ys.take k) ∧ Below w.heap.size w wr) (fun i _ => n - (intOf i).toNat)
    case atStart => exact ⟨0, by omega, rfl, rfl, Below.refl _ _⟩
    case round =>
      obtain ⟨k, hk, rfl, hag, hbel⟩ := hrel
      have hz := hbel.size
      by_cases hkn : k < n
      · rcases hc1 with hc1 | ⟨b1, o1, rfl, hb1, hc1⟩
        · omega
        rcases hc2 with hc2 | ⟨b2, o2, rfl, hb2, hc2⟩
        · omega
        obtain ⟨z, hz⟩ : ∃ z, zs[k]? = some z := ⟨_, List.getElem?_eq_getElem (by rw [HN.out]; omega)⟩
        obtain ⟨y, hy⟩ : ∃ y, ys[k]? = some y := ⟨_, List.getElem?_eq_getElem (by rw [HM.out]; omega)⟩
        obtain ⟨g1, g2⟩ := rcells_at zs k z hz
        obtain ⟨g3, g4⟩ := rcells_at ys k y hy
        have c1 : wr.cell? ⟨b1, o1 + k * 2, none⟩ = some (.string z.1) := by rw [hbel.cell (p := ⟨b1, o1 + k * 2, none⟩) hb1, hc1 _ (by omega), g1]
        have c2 : wr.cell? ⟨b1, o1 + k * 2 + 1, none⟩ = some (.int .i64 z.2) := by rw [Nat.add_assoc, hbel.cell (p := ⟨b1, o1 + (k * 2 + 1), none⟩) hb1, hc1 _ (by omega), g2]
        have c3 : wr.cell? ⟨b2, o2 + k * 2, none⟩ = some (.string y.1) := by rw [hbel.cell (p := ⟨b2, o2 + k * 2, none⟩) hb2, hc2 _ (by omega), g3]
        have c4 : wr.cell? ⟨b2, o2 + k * 2 + 1, none⟩ = some (.int .i64 y.2) := by rw [Nat.add_assoc, hbel.cell (p := ⟨b2, o2 + (k * 2 + 1), none⟩) hb2, hc2 _ (by omega), g4]
        have HST := Lib.hid (agree_step hz hy hag.out)
        clear hz hy hc1 hc2 g1 g2 g3 g4 hag
        go_wp2_with fail
        by_cases hzy : z = y
        · have e1 : z.1 = y.1 := by rw [hzy]
          have e2 : z.2 = y.2 := by rw [hzy]
          have HZ := Lib.hid (HST.out.2 hzy)
          clear hzy HST
          rw [e1] at c1
          rw [e2] at c2
          go_quiet (fail)
          go_wp2
          go_roundw
          case rel => exact ⟨k + 1, by omega, by go_num, HZ.out, by (repeat' (first | (with_reducible exact Below.refl _ _) | (with_reducible assumption) | (with_reducible refine Below.drew ?_) | (with_reducible refine below_drewN ?_ _) | (with_reducible refine Below.alloc ?_ ?_ _) | (with_reducible refine Below.setCell ?_ ?_ _) | (refine Below.trans ?_ (Below.mono (by assumption) (by first | omega | (with_reducible exact Below.size (by assumption)) | (simp; done) | (simp; omega)))) | (with_reducible exact Nat.le_refl _) | omega | (with_reducible exact Below.size (by assumption)) | (simp only [World.size_alloc, World.size_setCell, World.size_drew]; omega) | (simp; done) | (simp; omega)))⟩
          case measure => simp [intOf]; omega
        · have HZ : Hid (zs ≠ ys) := fun h => hzy (HST.out.1 (by rw [h]))
          have hzy' : ¬ (z.1 = y.1 ∧ z.2 = y.2) := fun e => hzy (Prod.ext e.1 e.2)
          clear hzy HST
          by_cases h1 : z.1 = y.1
          · have h2 : ¬ z.2 = y.2 := fun e => hzy' ⟨h1, e⟩
            have h2' : (z.2 == y.2) = false := by simpa using h2
            clear hzy' h2
            rw [h1] at c1
            go_quiet (fail)
            go_wp2
            go_returns
            exact ⟨by simp [HZ.out], by (repeat' (first | (with_reducible exact Below.refl _ _) | (with_reducible assumption) | (with_reducible refine Below.drew ?_) | (with_reducible refine below_drewN ?_ _) | (with_reducible refine Below.alloc ?_ ?_ _) | (with_reducible refine Below.setCell ?_ ?_ _) | (refine Below.trans ?_ (Below.mono (by assumption) (by first | omega | (with_reducible exact Below.size (by assumption)) | (simp; done) | (simp; omega)))) | (with_reducible exact Nat.le_refl _) | omega | (with_reducible exact Below.size (by assumption)) | (simp only [World.size_alloc, World.size_setCell, World.size_drew]; omega) | (simp; done) | (simp; omega)))⟩
          · have hsb := str_ne h1
            clear hzy' h1
            go_quiet (fail)
            go_wp2
            go_returns
            exact ⟨by simp [HZ.out], by (repeat' (first | (with_reducible exact Below.refl _ _) | (with_reducible assumption) | (with_reducible refine Below.drew ?_) | (with_reducible refine below_drewN ?_ _) | (with_reducible refine Below.alloc ?_ ?_ _) | (with_reducible refine Below.setCell ?_ ?_ _) | (refine Below.trans ?_ (Below.mono (by assumption) (by first | omega | (with_reducible exact Below.size (by assumption)) | (simp; done) | (simp; omega)))) | (with_reducible exact Nat.le_refl _) | omega | (with_reducible exact Below.size (by assumption)) | (simp only [World.size_alloc, World.size_setCell, World.size_drew]; omega) | (simp; done) | (simp; omega)))⟩
      · obtain rfl : k = n := by omega
        go_wp2
        go_returns
        refine ⟨?_, hbel⟩
        have h1 := hag.out
        rw [List.take_of_length_le (by rw [HN.out]; omega), List.take_of_length_le (by rw [HM.out]; omega)] at h1
        simp [h1]
  · have hne : ((zs.length : Int) != (ys.length : Int)) = true := by simp; omega
    have hno : zs ≠ ys := fun h => hlen (by rw [h])
    have hdec : decide (zs = ys) = false := by simpa using hno
    rw [hdec]
    clear hdec hno hlen hc1 hc2 hl1 hl2
    go_enter Try.func60, Try.ntmps60
    go_wp2
    go_returns
    exact ⟨rfl, Below.refl _ _⟩

end Go.Proofs.Ytcacedcbboidoaa
