/- Contracts of BusyParts (program and reference). -/
import Derived.Test.YtmckjikdecmagaaLib
import Derived.Test.YtmckjikdecmagaaLow
import Derived.Test.YtmckjikdecmagaaInts
set_option linter.unusedSimpArgs false
set_option linter.unusedVariables false
namespace Go.Proofs.Ytmckjikdecmagaa
open Go.RowKit

theorem infoI : (Try.prog.info? 3).map (fun i => (i.zero, i.size, i.bytes)) = some (some (.int .i64 0), 1, 8) := by kernel_rfl


set_option maxHeartbeats 1000000 in
theorem iBusy_yes (l t : Nat) (w : World) (hl : l ≤ 6) (ht : t ≤ 8) :
    Calls Try.prog 28 #[.int .i64 l, .int .i64 t] w fun e w' => ∃ g cap, e = .returned (.slice (some ⟨g, 0, none⟩) (t + 1) cap) ∧ w.heap.size ≤ g ∧ Own w' g (t + 1) cap 3 1 (ints ((busyL l t).map (fun x : Nat => (x : Int)))) ∧ Below w.heap.size w w' := by
  have hok : loadOk l t = true := (loadOk_iff l t).2 ⟨by omega, by omega, by omega, by omega⟩
  obtain ⟨i0, hi, hz0, hz1, hz2⟩ := info_parts infoI
  go_enter Try.func28, Try.ntmps28
  go_wp2_with (first
    | (go_at_call 52; refine (iLoadValid_any _ _ _).mono ?_; rintro e w1 ⟨rfl, rfl⟩)
    | (at_make; refine wpList_make_full _ rfl _ _ 37 rfl w.heap.size 3 i0 (.int .i64 0) 1 Try.underlying37 hi hz0 hz1 .i64 .i64 _ _ (t + 1) rfl rfl (by omega) (by omega) (by rw [hz2]; omega) (by unfold maxLen; omega) (Nat.le_refl _) ?_; intro w1 hown hgrow))
  have hb1 : Below w.heap.size w w1 := (Below.refl _ _).grown hgrow (Nat.le_refl _) (by simp)
  have ho1 : Own w1 w.heap.size (t + 1) (t + 1) 3 1 (ints (partL l t 0)) := by
    have := (Own.of hown).1
    rw [partL_zero]
    simpa [ints, toList_madeCells_one, Value.cells] using this
  clear hown hgrow hz0 hz1 hz2 hi
  go_loopw [6, 18] (fun pw i wr => ∃ (j P : Nat) (L : List Int), Hid (P = l ^ j) ∧ Hid (L = partL l t j) ∧ j ≤ t + 1 ∧ i = .int .i64 j ∧ pw = .int .i64 P ∧ Own wr w.heap.size (t + 1) (t + 1) 3 1 (ints L) ∧ Below w.heap.size w wr) (fun _ i _ => t + 1 - (intOf i).toNat)
  case atStart => exact ⟨0, 1, _, rfl, rfl, by omega, rfl, rfl, ho1, hb1⟩
  case round =>
    obtain ⟨j, P, L, hP, hL, hj, rfl, rfl, hown, hbel⟩ := hrel
    have hlen : L.length = t + 1 := by rw [hL.out, partL_len]
    by_cases hjt : j < t + 1
    · have hl1 : P ≤ 10077696 := by rw [hP.out]; exact pow_small l j hl (by omega)
      have hl2 : (P : Int) * l ≤ 60466176 := by have h : P * l ≤ 60466176 := Nat.mul_le_mul hl1 hl; rw [← Int.natCast_mul]; omega
      have hl3 : 0 ≤ (P : Int) * l := Int.mul_nonneg (by omega) (by omega)
      obtain ⟨z, hz⟩ : ∃ z, L[j]? = some z := ⟨_, List.getElem?_eq_getElem (by omega)⟩
      have hc := hown.cell j (by omega)
      rw [ints_at _ _ _ hz] at hc
      have hf := hown.free j
      have hlt := hown.lt
      have HLEN := Lib.hid hlen
      clear hlen hz
      go_wp2_with fail
      obtain ⟨wo, hwo⟩ : ∃ wo : World, wr.setCell ⟨w.heap.size, j, none⟩ (.int .i64 P) = wo := ⟨_, rfl⟩
      have hown2 : Own wo w.heap.size (t + 1) (t + 1) 3 1 (ints (L.set j P)) := by rw [← hwo, ← ints_set]; (repeat' (first | (with_reducible assumption) | rfl | omega | (with_reducible apply Own.set) | (with_reducible apply Own.other (by first | (simp; done) | (simp; omega) | omega)) | (with_reducible apply Own.alloc) | (with_reducible apply Own.drewN) | (with_reducible apply Own.drew) | (with_reducible apply Own.below) | (simp; omega)))
      have hbel2 : Below w.heap.size w wo := by rw [← hwo]; (repeat' (first | (with_reducible exact Below.refl _ _) | (with_reducible assumption) | (with_reducible refine Below.drew ?_) | (with_reducible refine below_drewN ?_ _) | (with_reducible refine Below.alloc ?_ ?_ _) | (with_reducible refine Below.setCell ?_ ?_ _) | (refine Below.trans ?_ (Below.mono (by assumption) (by first | omega | (with_reducible exact Below.size (by assumption)) | (simp; done) | (simp; omega)))) | (with_reducible exact Nat.le_refl _) | omega | (with_reducible exact Below.size (by assumption)) | (simp only [World.size_alloc, World.size_setCell, World.size_drew]; omega) | (simp; done) | (simp; omega)))
      rw [hwo]
      clear hwo hown hbel hc hf
      go_loopw [8] (fun k wi => ∃ d x : Nat, Hid (x = P * rise j d) ∧ j + 1 + d ≤ t + 1 ∧ k = .int .i64 (j + 1 + d : Nat) ∧ Own wi w.heap.size (t + 1) (t + 1) 3 1 (ints (L.set j x)) ∧ Below w.heap.size w wi) (fun k _ => t + 1 - (intOf k).toNat)
      case atStart => exact ⟨0, P, by simp [Hid, rise], by omega, by go_num, hown2, hbel2⟩
      case round =>
        obtain ⟨d, x, hx, hd, rfl, hown3, hbel3⟩ := hrel
        have hc := hown3.cell j (by omega)
        rw [ints_at _ _ _ (set_at _ _ _ (by rw [HLEN.out]; omega))] at hc
        have hf := hown3.free j
        by_cases hk : j + 1 + d < t + 1
        · have hx1 : x * (j + 1 + d) ≤ 169075682574336 := by
            have := powrise_small l j (d + 1) hl (by omega)
            rw [rise, ← hP.out, ← Nat.mul_assoc, ← hx.out, show j + d + 1 = j + 1 + d from by omega] at this
            exact this
          have hx2 : (x : Int) * (j + 1 + d) ≤ 169075682574336 := by rw [show (x : Int) * (j + 1 + d) = ((x * (j + 1 + d) : Nat) : Int) from by push_cast; rfl]; omega
          have hx3 : 0 ≤ (x : Int) * (j + 1 + d) := Int.mul_nonneg (by omega) (by omega)
          go_wp2_with fail
          go_roundw
          case rel =>
            refine ⟨d + 1, x * (j + 1 + d), by unfold Hid; rw [rise, ← Nat.mul_assoc, ← hx.out, show j + d + 1 = j + 1 + d from by omega], by omega, by go_num, ?_, by (repeat' (first | (with_reducible exact Below.refl _ _) | (with_reducible assumption) | (with_reducible refine Below.drew ?_) | (with_reducible refine below_drewN ?_ _) | (with_reducible refine Below.alloc ?_ ?_ _) | (with_reducible refine Below.setCell ?_ ?_ _) | (refine Below.trans ?_ (Below.mono (by assumption) (by first | omega | (with_reducible exact Below.size (by assumption)) | (simp; done) | (simp; omega)))) | (with_reducible exact Nat.le_refl _) | omega | (with_reducible exact Below.size (by assumption)) | (simp only [World.size_alloc, World.size_setCell, World.size_drew]; omega) | (simp; done) | (simp; omega)))⟩
            rw [show L.set j ((x * (j + 1 + d) : Nat) : Int) = (L.set j (x : Int)).set j ((x : Int) * (j + 1 + d)) from by rw [List.set_set]; push_cast; rfl, ← ints_set]
            (repeat' (first | (with_reducible assumption) | rfl | omega | (with_reducible apply Own.set) | (with_reducible apply Own.other (by first | (simp; done) | (simp; omega) | omega)) | (with_reducible apply Own.alloc) | (with_reducible apply Own.drewN) | (with_reducible apply Own.drew) | (with_reducible apply Own.below) | (simp; omega)))
          case measure => simp [intOf]; omega
        · go_wp2_with fail
          go_roundw
          case rel =>
            have hx' : x = busyAt l t j := by rw [hx.out, hP.out, busyAt, show d = t - j from by omega]
            refine ⟨j + 1, P * l, _, by unfold Hid; rw [hP.out, Nat.pow_succ], rfl, by omega, by go_num, by go_num, ?_, hbel3⟩
            rw [← partL_set l t j (by omega), ← hL.out, ← hx']
            exact hown3
          case measure => simp [intOf]; omega
    · obtain rfl : j = t + 1 := by omega
      go_wp2_with fail
      go_returns
      rw [hL.out, partL_all] at hown
      exact ⟨_, _, rfl, Nat.le_refl _, hown, hbel⟩

end Go.Proofs.Ytmckjikdecmagaa
