/- The walk of the exact law of DialAll. -/
import Derived.Test.YtcacedcbboidoaaDi
import Derived.Test.YtcacedcbboidoaaSh
set_option linter.unusedSimpArgs false
set_option linter.unusedVariables false
namespace Go.Proofs.Ytcacedcbboidoaa
open Go.RowKit

theorem dialF_len {ps : List ByteArray} (h : PlanOk ps) : ∀ (n : Nat) (t : List UInt8) (ks : List Int), dialF ps n t = some ks → ks.length ≤ t.length := by
  intro n
  induction n with
  | zero =>
    intro t ks hd
    simp only [dialF] at hd
    split at hd
    · cases hd; simp
    · cases hd
  | succ n ih =>
    intro t ks hd
    simp only [dialF] at hd
    split at hd
    · cases hd; simp
    · cases hk : dialK ps t with
      | none => rw [hk] at hd; cases hd
      | some k =>
        rw [hk] at hd
        simp only [Option.map_eq_some_iff] at hd
        obtain ⟨r, h1, rfl⟩ := hd
        obtain ⟨p, hp, hpre⟩ := dialK_some hk
        have hs := (numB_size (h.at k p hp)).1
        have hl := pre_size hpre
        have := ih _ _ h1
        rw [sizeAt_of hp, List.length_drop] at this
        simp only [List.length_cons]
        omega
theorem allR_len (ps : List ByteArray) (s : ByteArray) : ((allR ps s).getD []).length ≤ s.size := by
  unfold allR
  split
  · rename_i h
    rw [Bool.and_eq_true] at h
    cases hd : dialL ps s.data.toList with
    | none => simp
    | some ks => have := dialF_len ((planB_iff ps).1 h.1) _ _ _ hd; simpa using this
  · simp

set_option maxHeartbeats 1000000 in
theorem exDialAll (v : Value) (ps : List ByteArray) (s : ByteArray) (w : World) (hv : Rds w v ps.length 1 (strs ps)) (hL : StLen ps) (hs : s.size ≤ maxLen) :
    Calls Try.prog 9 #[v, .string s] w fun e w' => e = .returned (.bool true) ∧ Below w.heap.size w w' := by
  have HV := Lib.hid hv
  have HL := Lib.hid hL
  clear hv hL
  unfold maxLen at hs
  by_cases hbig : (s.size : Int) > 1048576
  · go_enter Try.func9, Try.ntmps9
    go_wp2
    go_returns
    exact ⟨rfl, Below.refl _ _⟩
  have hs20 : s.size ≤ 1048576 := by omega
  have HS20 := Lib.hid hs20
  obtain ⟨r, hr⟩ : ∃ r, allR ps s = r := ⟨_, rfl⟩
  have hlen0 := allR_len ps s
  rw [hr] at hlen0
  obtain ⟨zs, hzs⟩ : ∃ zs, r.getD [] = zs := ⟨_, rfl⟩
  obtain ⟨o, ho⟩ : ∃ o, r.isSome = o := ⟨_, rfl⟩
  rw [hzs] at hlen0
  have hlen : zs.length ≤ 1000000000 := by omega
  have HRR := Lib.hid hr
  have HZ := Lib.hid hzs
  have HO := Lib.hid ho
  have hoo : (o != o) = false := by cases o <;> rfl
  clear hr hzs ho hlen0 hs20
  go_enter Try.func9, Try.ntmps9
  go_wp2_with fail
  refine (szStringS_any v ps _ HV.out HL.out).mono ?_
  rintro e w0 ⟨x, rfl, hx0, hx1, hx2, rfl⟩
  by_cases hx : 0 ≤ x
  · obtain ⟨hn, -⟩ := hx2 hx
    have HNL := Lib.hid hn
    clear hx2 hn
    go_wp2_with fail
    refine (toStringS_any v ps _ HV.out HNL.out).mono ?_
    rintro e w1 ⟨g1, rfl, hg1, hO1, hb1⟩
    have hz1 := hb1.size
    go_wp2_with fail
    refine (sDialAll_any _ ps s _ (Rds.ofOwn hO1) HL.out HS20.out).mono ?_
    rintro e w2 ⟨v0, rfl, ho0, hb2⟩
    rw [HRR.out, HZ.out] at ho0
    rw [HRR.out, HO.out]
    have hbel2 : Below w.heap.size w w2 := by (repeat' (first | (with_reducible exact Below.refl _ _) | (with_reducible assumption) | (with_reducible refine Below.drew ?_) | (with_reducible refine below_drewN ?_ _) | (with_reducible refine Below.alloc ?_ ?_ _) | (with_reducible refine Below.setCell ?_ ?_ _) | (refine Below.trans ?_ (Below.mono (by assumption) (by first | omega | (with_reducible exact Below.size (by assumption)) | (simp; done) | (simp; omega)))) | (with_reducible exact Nat.le_refl _) | omega | (with_reducible exact Below.size (by assumption)) | (simp only [World.size_alloc, World.size_setCell, World.size_drew]; omega) | (simp; done) | (simp; omega)))
    have hz2 := hb2.size
    clear hO1 hg1 hb1 hb2
    go_wp2_with fail
    refine (toStringS_any v ps _ (HV.out.below hbel2) HNL.out).mono ?_
    rintro e w3 ⟨g3, rfl, hg3, hO3, hb3⟩
    have hbel3 : Below w.heap.size w w3 := by (repeat' (first | (with_reducible exact Below.refl _ _) | (with_reducible assumption) | (with_reducible refine Below.drew ?_) | (with_reducible refine below_drewN ?_ _) | (with_reducible refine Below.alloc ?_ ?_ _) | (with_reducible refine Below.setCell ?_ ?_ _) | (refine Below.trans ?_ (Below.mono (by assumption) (by first | omega | (with_reducible exact Below.size (by assumption)) | (simp; done) | (simp; omega)))) | (with_reducible exact Nat.le_refl _) | omega | (with_reducible exact Below.size (by assumption)) | (simp only [World.size_alloc, World.size_setCell, World.size_drew]; omega) | (simp; done) | (simp; omega)))
    have ho03 := owns_below hb3 ho0
    have hz3 := hb3.size
    go_wp2_with fail
    refine (iDialAll_any _ ps s _ (Rds.ofOwn hO3) HL.out HS20.out).mono ?_
    rintro e w4 ⟨v1, rfl, ho1, hb4⟩
    rw [HRR.out, HZ.out] at ho1
    rw [HRR.out, HO.out]
    have hbel4 : Below w.heap.size w w4 := by (repeat' (first | (with_reducible exact Below.refl _ _) | (with_reducible assumption) | (with_reducible refine Below.drew ?_) | (with_reducible refine below_drewN ?_ _) | (with_reducible refine Below.alloc ?_ ?_ _) | (with_reducible refine Below.setCell ?_ ?_ _) | (refine Below.trans ?_ (Below.mono (by assumption) (by first | omega | (with_reducible exact Below.size (by assumption)) | (simp; done) | (simp; omega)))) | (with_reducible exact Nat.le_refl _) | omega | (with_reducible exact Below.size (by assumption)) | (simp only [World.size_alloc, World.size_setCell, World.size_drew]; omega) | (simp; done) | (simp; omega)))
    have ho04 := owns_below hb4 ho03
    have hO4 := hO3.below hb4 hO3.lt
    have hlt3 := hO3.lt
    have hr0 := Rds.ofOwns ho04
    have hr1 := Rds.ofOwns ho1
    clear hb3 hb4 hO3
    go_wp2_with fail
    refine (eqIntS_any _ _ _ _ _ hr1 hr0).mono ?_
    rintro e w5 ⟨rfl, hb5⟩
    rw [decide_eq_true rfl]
    have hbel5 : Below w.heap.size w w5 := by (repeat' (first | (with_reducible exact Below.refl _ _) | (with_reducible assumption) | (with_reducible refine Below.drew ?_) | (with_reducible refine below_drewN ?_ _) | (with_reducible refine Below.alloc ?_ ?_ _) | (with_reducible refine Below.setCell ?_ ?_ _) | (refine Below.trans ?_ (Below.mono (by assumption) (by first | omega | (with_reducible exact Below.size (by assumption)) | (simp; done) | (simp; omega)))) | (with_reducible exact Nat.le_refl _) | omega | (with_reducible exact Below.size (by assumption)) | (simp only [World.size_alloc, World.size_setCell, World.size_drew]; omega) | (simp; done) | (simp; omega)))
    have ho05 := owns_below hb5 ho04
    have ho15 := owns_below hb5 ho1
    have hO5 := hO4.below hb5 hO4.lt
    have hz5 := hb5.size
    clear hr0 hr1 hO4 hb5
    go_wp2_with fail
    refine (toStringS_any v ps _ (HV.out.below hbel5) HNL.out).mono ?_
    rintro e w6 ⟨g6, rfl, hg6, hO6, hb6⟩
    have hbel6 : Below w.heap.size w w6 := by (repeat' (first | (with_reducible exact Below.refl _ _) | (with_reducible assumption) | (with_reducible refine Below.drew ?_) | (with_reducible refine below_drewN ?_ _) | (with_reducible refine Below.alloc ?_ ?_ _) | (with_reducible refine Below.setCell ?_ ?_ _) | (refine Below.trans ?_ (Below.mono (by assumption) (by first | omega | (with_reducible exact Below.size (by assumption)) | (simp; done) | (simp; omega)))) | (with_reducible exact Nat.le_refl _) | omega | (with_reducible exact Below.size (by assumption)) | (simp only [World.size_alloc, World.size_setCell, World.size_drew]; omega) | (simp; done) | (simp; omega)))
    have ho06 := owns_below hb6 ho05
    have ho16 := owns_below hb6 ho15
    have hO36 := hO5.below hb6 hO5.lt
    have hr3 := Rds.ofOwn hO36
    have hr6 := Rds.ofOwn hO6
    clear hb6 hO5 hO6
    go_wp2_with fail
    refine (eqStringS_any _ _ ps ps _ hr3 hr6).mono ?_
    rintro e w7 ⟨rfl, hb7⟩
    rw [decide_eq_true rfl]
    have hbel7 : Below w.heap.size w w7 := by (repeat' (first | (with_reducible exact Below.refl _ _) | (with_reducible assumption) | (with_reducible refine Below.drew ?_) | (with_reducible refine below_drewN ?_ _) | (with_reducible refine Below.alloc ?_ ?_ _) | (with_reducible refine Below.setCell ?_ ?_ _) | (refine Below.trans ?_ (Below.mono (by assumption) (by first | omega | (with_reducible exact Below.size (by assumption)) | (simp; done) | (simp; omega)))) | (with_reducible exact Nat.le_refl _) | omega | (with_reducible exact Below.size (by assumption)) | (simp only [World.size_alloc, World.size_setCell, World.size_drew]; omega) | (simp; done) | (simp; omega)))
    have ho07 := owns_below hb7 ho06
    have ho17 := owns_below hb7 ho16
    have hO7 := hO36.below hb7 hO36.lt
    clear hr3 hr6 hO36 hb7
    go_wp2_with fail
    refine (markStrs g3 _ _ ps 1 _ hO7 (by omega) (by omega) (by have := HNL.out; omega)).mono ?_
    rintro e w8 ⟨rfl, hO8, hg8⟩
    have hbel8 : Below w.heap.size w w8 := below_gb hg8 hbel7.size (by omega) hbel7
    have ho08 := ho07.kept hg8 (by
      cases hvb : Value.ownBlock v0 with
      | none => exact .inl rfl
      | some k => exact .inr (by have := own_lt ho0 k hvb; simp; omega))
    have ho18 := ho17.kept hg8 (by
      cases hvb : Value.ownBlock v1 with
      | none => exact .inl rfl
      | some k => exact .inr (by have := own_ge ho1 k hvb; simp; omega))
    have hr0 := Rds.ofOwns ho08
    have hr1 := Rds.ofOwns ho18
    have hk8 : ¬ ((1 + ps.length : Nat) : Int) < 0 := by omega
    clear hO7 hO8 hg8 hk8
    go_wp2_with fail
    refine (eqIntS_any _ _ _ _ _ hr1 hr0).mono ?_
    rintro e w9 ⟨rfl, hb9⟩
    rw [decide_eq_true rfl]
    have hbel9 : Below w.heap.size w w9 := by (repeat' (first | (with_reducible exact Below.refl _ _) | (with_reducible assumption) | (with_reducible refine Below.drew ?_) | (with_reducible refine below_drewN ?_ _) | (with_reducible refine Below.alloc ?_ ?_ _) | (with_reducible refine Below.setCell ?_ ?_ _) | (refine Below.trans ?_ (Below.mono (by assumption) (by first | omega | (with_reducible exact Below.size (by assumption)) | (simp; done) | (simp; omega)))) | (with_reducible exact Nat.le_refl _) | omega | (with_reducible exact Below.size (by assumption)) | (simp only [World.size_alloc, World.size_setCell, World.size_drew]; omega) | (simp; done) | (simp; omega)))
    have ho09 := owns_below hb9 ho08
    have ho19 := owns_below hb9 ho18
    clear hr0 hr1 hb9
    go_wp2_with fail
    refine (markInts_any _ _ _ _ _ _ ho19 (by omega) (by omega) hlen).mono ?_
    rintro e wa ⟨rfl, hoa, hga⟩
    have hge := own_ge hoa
    have hoq := ho09.kept hga (own_apart ho0 hoa (by omega))
    have hbela : Below w.heap.size w wa := hbel9.grown hga hbel9.size (fun k hk => by have := hge k hk; omega)
    go_wp2_with fail
    refine (heldInts _ _ _ _ (Rds.ofOwns hoa) (by omega) (by omega) hlen).mono ?_
    rintro e wb ⟨rfl, rfl⟩
    go_wp2_with fail
    refine (toStringS_any v ps _ (HV.out.below hbela) HNL.out).mono ?_
    rintro e wc ⟨gc, rfl, hgc, hOc, hbc⟩
    have hbelc : Below w.heap.size w wc := by (repeat' (first | (with_reducible exact Below.refl _ _) | (with_reducible assumption) | (with_reducible refine Below.drew ?_) | (with_reducible refine below_drewN ?_ _) | (with_reducible refine Below.alloc ?_ ?_ _) | (with_reducible refine Below.setCell ?_ ?_ _) | (refine Below.trans ?_ (Below.mono (by assumption) (by first | omega | (with_reducible exact Below.size (by assumption)) | (simp; done) | (simp; omega)))) | (with_reducible exact Nat.le_refl _) | omega | (with_reducible exact Below.size (by assumption)) | (simp only [World.size_alloc, World.size_setCell, World.size_drew]; omega) | (simp; done) | (simp; omega)))
    have ho0c := owns_below hbc hoq
    have ho1c := owns_below hbc hoa
    clear hbc
    go_wp2_with fail
    refine (iDialAll_any _ ps s _ (Rds.ofOwn hOc) HL.out HS20.out).mono ?_
    rintro e wd ⟨v2, rfl, ho2, hbd⟩
    rw [HRR.out, HZ.out] at ho2
    rw [HRR.out, HO.out]
    have hbeld : Below w.heap.size w wd := by (repeat' (first | (with_reducible exact Below.refl _ _) | (with_reducible assumption) | (with_reducible refine Below.drew ?_) | (with_reducible refine below_drewN ?_ _) | (with_reducible refine Below.alloc ?_ ?_ _) | (with_reducible refine Below.setCell ?_ ?_ _) | (refine Below.trans ?_ (Below.mono (by assumption) (by first | omega | (with_reducible exact Below.size (by assumption)) | (simp; done) | (simp; omega)))) | (with_reducible exact Nat.le_refl _) | omega | (with_reducible exact Below.size (by assumption)) | (simp only [World.size_alloc, World.size_setCell, World.size_drew]; omega) | (simp; done) | (simp; omega)))
    have hr0 := (Rds.ofOwns ho0c).below hbd
    have hr1 := (Rds.ofOwns ho1c).below hbd
    have hr2 := Rds.ofOwns ho2
    clear hOc hgc hbd
    go_wp2_with fail
    refine (eqIntS_any _ _ _ _ _ hr2 hr0).mono ?_
    rintro e we ⟨rfl, hbe⟩
    rw [decide_eq_true rfl]
    have hbele : Below w.heap.size w we := by (repeat' (first | (with_reducible exact Below.refl _ _) | (with_reducible assumption) | (with_reducible refine Below.drew ?_) | (with_reducible refine below_drewN ?_ _) | (with_reducible refine Below.alloc ?_ ?_ _) | (with_reducible refine Below.setCell ?_ ?_ _) | (refine Below.trans ?_ (Below.mono (by assumption) (by first | omega | (with_reducible exact Below.size (by assumption)) | (simp; done) | (simp; omega)))) | (with_reducible exact Nat.le_refl _) | omega | (with_reducible exact Below.size (by assumption)) | (simp only [World.size_alloc, World.size_setCell, World.size_drew]; omega) | (simp; done) | (simp; omega)))
    have hr7 := hr1.below hbe
    clear hr0 hr1 hr2 hbe ho0 ho1 ho0c ho1c ho2 hoa hoq hga hge
    go_wp2_with fail
    refine (heldInts _ _ _ _ hr7 (by omega) (by omega) hlen).mono ?_
    rintro e wf ⟨rfl, rfl⟩
    go_wp2
    go_returns
    exact ⟨rfl, hbele⟩
  · clear hx2
    go_wp2
    go_returns
    exact ⟨rfl, Below.refl _ _⟩

end Go.Proofs.Ytcacedcbboidoaa
