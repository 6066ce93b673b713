/- The walk of the law of DialCost. -/
import Derived.Test.YtcacedcbboidoaaDrOf
import Derived.Test.YtcacedcbboidoaaDl
import Derived.Test.YtcacedcbboidoaaPh
import Derived.Test.YtcacedcbboidoaaAlive
set_option linter.unusedSimpArgs false
set_option linter.unusedVariables false
namespace Go.Proofs.Ytcacedcbboidoaa
open Go.RowKit

theorem sharesZ_of : ∀ (ls : List Int), (∀ l ∈ ls, 1 ≤ l ∧ l ≤ 3) → ((sharesZ ls : Nat) : Int) = (ls.map shareN).sum := by
  intro ls
  induction ls with
  | nil => intro _; rfl
  | cons l ls ih =>
    intro h
    have h1 := h l (by simp)
    have h2 := ih (fun x hx => h x (by simp [hx]))
    have h3 : l = 1 ∨ l = 2 ∨ l = 3 := by omega
    simp only [sharesZ, List.map_cons, List.sum_cons]
    rw [Int.natCast_add, h2]
    rcases h3 with rfl | rfl | rfl <;> rfl
theorem costZ_nonneg : ∀ (xs ls : List Int), (∀ x ∈ xs, 0 ≤ x) → (∀ l ∈ ls, 1 ≤ l ∧ l ≤ 3) → 0 ≤ costZ xs ls := by
  intro xs
  induction xs with
  | nil => intro ls _ _; simp [costZ]
  | cons x xs ih =>
    intro ls h1 h2
    cases ls with
    | nil => simp [costZ]
    | cons l ls =>
      have a1 := ih ls (fun y hy => h1 y (by simp [hy])) (fun y hy => h2 y (by simp [hy]))
      have a2 := Int.mul_nonneg (h1 x (by simp)) (show 0 ≤ l by have := h2 l (by simp); omega)
      simp only [costZ]; omega

set_option maxRecDepth 100000 in
set_option maxHeartbeats 2000000 in
theorem wDialCost (a : Option Addr) (len cap : Nat) (cs : List Int) (w : World) (h0 : IsRow .u8 w a len cap cs) :
    Calls Try.prog 19 #[.slice a len cap] w fun e w' => e = .returned (.bool true) ∧ Below w.heap.size w w' := by
  have h := h0.code
  have hm := h.bd
  by_cases hbig : len > 1048576
  · go_enter Try.func19, Try.ntmps19
    go_wp2
    go_returns
    exact ⟨rfl, Below.refl _ _⟩
  · go_enter Try.func19, Try.ntmps19
    go_wp2_with fail
    refine (DrawDialCost_any _ _ _ _ _ h).mono ?_
    rintro e w1 ⟨v, u, xs, ls, rfl, hr1, hl1, hr2, hl2, hb1⟩
    have HV := Lib.hid hr1
    have HU := Lib.hid hr2
    clear hr1 hr2
    go_wp2_with fail
    refine (iDialCost_any _ _ xs ls _ HV.out HU.out).mono ?_
    rintro e w2 ⟨rfl, q1, rfl⟩
    obtain ⟨x, hx⟩ : ∃ x, costR xs ls = x := ⟨_, rfl⟩
    have HX := Lib.hid hx
    rw [hx]
    clear hx
    go_wp2_with fail
    refine (sDialCost_any _ _ xs ls _ (HV.out.drewN q1) (HU.out.drewN q1)).mono ?_
    rintro e w3 ⟨rfl, q2, rfl⟩
    rw [HX.out]
    have hne : (x != x) = false := by simp
    have hbel2 : Below w.heap.size w ((w1.drewN q1).drewN q2) := by (repeat' (first | (with_reducible exact Below.refl _ _) | (with_reducible assumption) | (with_reducible refine Below.drew ?_) | (with_reducible refine below_drewN ?_ _) | (with_reducible refine Below.alloc ?_ ?_ _) | (with_reducible refine Below.setCell ?_ ?_ _) | (refine Below.trans ?_ (Below.mono (by assumption) (by first | omega | (with_reducible exact Below.size (by assumption)) | (simp; done) | (simp; omega)))) | (with_reducible exact Nat.le_refl _) | omega | (with_reducible exact Below.size (by assumption)) | (simp only [World.size_alloc, World.size_setCell, World.size_drew]; omega) | (simp; done) | (simp; omega)))
    have HV2 : Hid (Rds ((w1.drewN q1).drewN q2) v xs.length 1 (ints xs)) := (HV.out.drewN q1).drewN q2
    have HU2 : Hid (Rds ((w1.drewN q1).drewN q2) u ls.length 1 (ints ls)) := (HU.out.drewN q1).drewN q2
    clear hb1 HV HU
    generalize (w1.drewN q1).drewN q2 = w3 at *
    have hz3 := hbel2.size
    by_cases hx0 : x < 0
    · have hx1 : x = -1 := by
        have hh := HX.out
        unfold costR at hh
        split at hh
        · rename_i hc
          simp only [costB, Bool.and_eq_true, decide_eq_true_eq] at hc
          have := costZ_nonneg xs ls (fun y hy => ((oftB_mem hc.1.1).2.2 y hy).1) (fun l hl => by obtain ⟨k, hk⟩ := List.mem_iff_getElem?.1 hl; exact lensB_at hc.1.2 k l hk)
          omega
        · exact hh.symm
      subst hx1
      go_wp2_with fail
      refine (alive_any _).mono ?_
      rintro e w4 ⟨rfl, hb4⟩
      have hbel4 : Below w.heap.size w w4 := by (repeat' (first | (with_reducible exact Below.refl _ _) | (with_reducible assumption) | (with_reducible refine Below.drew ?_) | (with_reducible refine below_drewN ?_ _) | (with_reducible refine Below.alloc ?_ ?_ _) | (with_reducible refine Below.setCell ?_ ?_ _) | (refine Below.trans ?_ (Below.mono (by assumption) (by first | omega | (with_reducible exact Below.size (by assumption)) | (simp; done) | (simp; omega)))) | (with_reducible exact Nat.le_refl _) | omega | (with_reducible exact Below.size (by assumption)) | (simp only [World.size_alloc, World.size_setCell, World.size_drew]; omega) | (simp; done) | (simp; omega)))
      go_wp2
      go_returns
      exact ⟨rfl, hbel4⟩
    · have hc : costB xs ls = true := by
        cases hcc : costB xs ls with
        | true => rfl
        | false => have := HX.out; rw [costR, hcc] at this; simp at this; omega
      have hxc : x = costZ xs ls := by rw [← HX.out, costR, if_pos hc]
      simp only [costB, Bool.and_eq_true, decide_eq_true_eq] at hc
      obtain ⟨⟨hc1, hc2⟩, hc3⟩ := hc
      have HC1 := Lib.hid hc1
      have HC2 := Lib.hid hc2
      have HC3 := Lib.hid hc3
      have HXC := Lib.hid hxc
      clear hc1 hc2 hc3 hxc
      go_wp2_with fail
      refine (iPlanFor_any _ ls _ HU2.out).mono ?_
      rintro e w4 ⟨v4, rfl, ho4, hb4⟩
      have hbel4 : Below w.heap.size w w4 := by (repeat' (first | (with_reducible exact Below.refl _ _) | (with_reducible assumption) | (with_reducible refine Below.drew ?_) | (with_reducible refine below_drewN ?_ _) | (with_reducible refine Below.alloc ?_ ?_ _) | (with_reducible refine Below.setCell ?_ ?_ _) | (refine Below.trans ?_ (Below.mono (by assumption) (by first | omega | (with_reducible exact Below.size (by assumption)) | (simp; done) | (simp; omega)))) | (with_reducible exact Nat.le_refl _) | omega | (with_reducible exact Below.size (by assumption)) | (simp only [World.size_alloc, World.size_setCell, World.size_drew]; omega) | (simp; done) | (simp; omega)))
      have hz4 := hb4.size
      obtain ⟨o, ho⟩ : ∃ o, fitB ls = o := ⟨_, rfl⟩
      have HO := Lib.hid ho
      rw [ho]
      clear ho ho4
      cases o
      · go_wp2
        go_returns
        exact ⟨rfl, hbel4⟩
      · go_wp2_with fail
        refine (iDialLeast_any _ xs _ (HV2.out.below hb4)).mono ?_
        rintro e w5 ⟨t, rfl, ht, hb5⟩
        have hbel5 : Below w.heap.size w w5 := by (repeat' (first | (with_reducible exact Below.refl _ _) | (with_reducible assumption) | (with_reducible refine Below.drew ?_) | (with_reducible refine below_drewN ?_ _) | (with_reducible refine Below.alloc ?_ ?_ _) | (with_reducible refine Below.setCell ?_ ?_ _) | (refine Below.trans ?_ (Below.mono (by assumption) (by first | omega | (with_reducible exact Below.size (by assumption)) | (simp; done) | (simp; omega)))) | (with_reducible exact Nat.le_refl _) | omega | (with_reducible exact Below.size (by assumption)) | (simp only [World.size_alloc, World.size_setCell, World.size_drew]; omega) | (simp; done) | (simp; omega)))
        have hle : t ≤ x := by
          rw [HXC.out]
          have hl3 : ∀ l ∈ ls, 1 ≤ l ∧ l ≤ 3 := fun l hl => by obtain ⟨k, hk⟩ := List.mem_iff_getElem?.1 hl; exact lensB_at HC2.out k l hk
          refine Huf.cost (fun y hy => ((oftB_mem HC1.out).2.2 y hy).1) HC3.out hl3 ?_ (ht.2 HC1.out).1
          have h1 := (fitB_sum HO.out).2
          have h2 := sharesZ_of ls hl3
          omega
        have hd : decide (t ≤ x) = true := by simp [hle]
        clear ht hle
        go_wp2
        go_returns
        exact ⟨rfl, hbel5⟩

end Go.Proofs.Ytcacedcbboidoaa
