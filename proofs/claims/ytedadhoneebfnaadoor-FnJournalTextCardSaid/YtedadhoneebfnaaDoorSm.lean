/- Contracts of the laws' comparisons: calls, deeds, exchanges. -/
import Derived.Test.YtedadhoneebfnaaDoorJ11
import Derived.Test.YtedadhoneebfnaaDoorJ5
import Derived.Test.YtedadhoneebfnaaDoorJ2
set_option linter.unusedSimpArgs false
set_option linter.unusedVariables false
namespace Go.Proofs.YtedadhoneebfnaaDoor
open Go.RowKit

set_option maxRecDepth 100000 in
set_option maxHeartbeats 1000000 in
theorem sameExDeeds_any (v u : Value) (zs ys : List Ded) (w : World) (hv : Rds w v zs.length 3 (dcells zs)) (hu : Rds w u ys.length 3 (dcells ys)) :
  Calls Tryd.prog 30 #[v, u] w fun e w' => e = .returned (.bool (decide (zs = ys))) ∧ Below w.heap.size w w' := by
 obtain ⟨hl1, hm1, a, ca, rfl, hn1, hc1⟩ := hv
 obtain ⟨hl2, hm2, b, cb, rfl, hn2, hc2⟩ := hu
 unfold maxLen at hm1 hm2
 by_cases hlen : zs.length = ys.length
 ·
  have hne : ((zs.length : Int) != (ys.length : Int)) = false := by simp; omega
  obtain ⟨m, hm⟩ : ∃ m, ys.length = m := ⟨_, rfl⟩
  rw [hm] at hne hm2 hn2 hc2 ⊢
  obtain ⟨n, hn⟩ : ∃ n, zs.length = n := ⟨_, rfl⟩
  rw [hn] at hne hm1 hn1 hc1 ⊢
  have hnm : n = m := by omega
  subst hnm
  have HM := Lib.hid hm
  have HN := Lib.hid hn
  clear hm hn hl1 hl2 hlen
  go_enter Tryd.func30, Tryd.ntmps30
  go_wp2_with fail
  go_loopw [5] (fun i wr => ∃ k q : Nat, k ≤ n ∧ i = .int .i64 k ∧ Hid (zs.take k = ys.take k) ∧ wr = w.drewN q) (fun i _ => n - (intOf i).toNat)
  case atStart => exact ⟨0, 0, by omega, rfl, rfl, rfl⟩
  case round =>
   obtain ⟨k, q, hk, rfl, hag, rfl⟩ := hrel
   by_cases hkn : k < n
   ·
    rcases hc1 with hc1 | ⟨b1, o1, rfl, hb1, hc1⟩
    ·
     omega
    rcases hc2 with hc2 | ⟨b2, o2, rfl, hb2, hc2⟩
    ·
     omega
    obtain ⟨z, hz⟩ : ∃ z, zs[k]? = some z := ⟨_, List.getElem?_eq_getElem (by rw [HN.out]; omega)⟩
    obtain ⟨y, hy⟩ : ∃ y, ys[k]? = some y := ⟨_, List.getElem?_eq_getElem (by rw [HM.out]; omega)⟩
    obtain ⟨g1, g2, g3⟩ := dcells_at zs k z hz
    obtain ⟨g4, g5, g6⟩ := dcells_at ys k y hy
    have c1 : w.cell? ⟨b1, o1 + k * 3, none⟩ = some (.int .i64 z.1) := by rw [hc1 _ (by omega), g1]
    have c2 : w.cell? ⟨b1, o1 + k * 3 + 1, none⟩ = some (.int .i64 z.2.1) := by rw [Nat.add_assoc, hc1 _ (by omega), g2]
    have c3 : w.cell? ⟨b1, o1 + k * 3 + 2, none⟩ = some (.string z.2.2) := by rw [Nat.add_assoc, hc1 _ (by omega), g3]
    have c4 : w.cell? ⟨b2, o2 + k * 3, none⟩ = some (.int .i64 y.1) := by rw [hc2 _ (by omega), g4]
    have c5 : w.cell? ⟨b2, o2 + k * 3 + 1, none⟩ = some (.int .i64 y.2.1) := by rw [Nat.add_assoc, hc2 _ (by omega), g5]
    have c6 : w.cell? ⟨b2, o2 + k * 3 + 2, none⟩ = some (.string y.2.2) := by rw [Nat.add_assoc, hc2 _ (by omega), g6]
    have HST := Lib.hid (agree_step hz hy hag.out)
    obtain ⟨z1, z2, z3⟩ := z
    obtain ⟨y1, y2, y3⟩ := y
    simp only at c1 c2 c3 c4 c5 c6
    clear hz hy hc1 hc2 g1 g2 g3 g4 g5 g6 hag
    go_wp2_with fail
    by_cases h1 : z1 = y1
    ·
     subst h1
     by_cases h2 : z2 = y2
     ·
      subst h2
      by_cases h3 : z3 = y3
      ·
       subst h3
       have HZ := Lib.hid (HST.out.2 rfl)
       clear HST
       go_quiet (fail)
       go_wp2
       go_roundw
       case rel => exact ⟨k + 1, _, by omega, by go_num, HZ.out, rfl⟩
       case measure => simp [intOf]; omega
      ·
       have HZ : Hid (zs ≠ ys) := fun h => h3 (by have := HST.out.1 (by rw [h]); simp only [Prod.mk.injEq, true_and] at this; exact this)
       have hsb := str_ne h3
       clear HST h3
       go_quiet (fail)
       go_wp2
       go_returns
       exact ⟨by simp [HZ.out], by (exact grownA)⟩
     ·
      have HZ : Hid (zs ≠ ys) := fun h => h2 (by have := HST.out.1 (by rw [h]); simp only [Prod.mk.injEq, true_and] at this; exact this.1)
      have hsb : (z2 == y2) = false := by simpa using h2
      clear HST h2
      go_quiet (fail)
      go_wp2
      go_returns
      exact ⟨by simp [HZ.out], by (exact grownA)⟩
    ·
     have HZ : Hid (zs ≠ ys) := fun h => h1 (by have := HST.out.1 (by rw [h]); simp only [Prod.mk.injEq, true_and] at this; exact this.1)
     have hsb : (z1 == y1) = false := by simpa using h1
     clear HST h1
     go_quiet (fail)
     go_wp2
     go_returns
     exact ⟨by simp [HZ.out], by (exact grownA)⟩
   ·
    obtain rfl : k = n := by omega
    go_wp2
    go_returns
    refine ⟨?_, by (exact grownA)⟩
    have h1 := hag.out
    rw [List.take_of_length_le (by rw [HN.out]; omega), List.take_of_length_le (by rw [HM.out]; omega)] at h1
    simp [h1]
 ·
  have hne : ((zs.length : Int) != (ys.length : Int)) = true := by simp; omega
  have hno : zs ≠ ys := fun h => hlen (by rw [h])
  have hdec : decide (zs = ys) = false := by simpa using hno
  rw [hdec]
  clear hdec hno hlen hc1 hc2 hl1 hl2
  go_enter Tryd.func30, Tryd.ntmps30
  go_wp2
  go_returns
  exact ⟨rfl, Below.refl _ _⟩

end Go.Proofs.YtedadhoneebfnaaDoor
