/- Contract of ReadDeed (program). -/
import Derived.Test.YtedadhoneebfnaaDoorCt
set_option linter.unusedSimpArgs false
set_option linter.unusedVariables false
namespace Go.Proofs.YtedadhoneebfnaaDoor
open Go.RowKit

def RdPost (s : ByteArray) (w : World) (e : Ending) (w' : World) : Prop :=
  e = .returned (.tuple #[.agg #[.int .i64 (rdeed s).1.1, .int .i64 (rdeed s).1.2.1, .string (rdeed s).1.2.2], .bool (rdeed s).2]) ∧ Below w.heap.size w w'
theorem rd_none {s : ByteArray} (h : rdeed s = ((0, 0, ⟨#[]⟩), false)) {w w' : World} (hb : Below w.heap.size w w') : RdPost s w (.returned (.tuple #[.agg #[.int .i64 0, .int .i64 0, .string ByteArray.empty], .bool false])) w' := by
  unfold RdPost; rw [h]; exact ⟨rfl, hb⟩
theorem rd_some {s : ByteArray} {k l : Int} {t : ByteArray} (h : rdeed s = ((k, l, t), true)) {w w' : World} (hb : Below w.heap.size w w') : RdPost s w (.returned (.tuple #[.agg #[.int .i64 k, .int .i64 l, .string t], .bool true])) w' := by
  unfold RdPost; rw [h]; exact ⟨rfl, hb⟩
theorem ba_size (l : List UInt8) : (ba l).size = l.length := by rw [← tl_size, tl_ba]
theorem ba_toList (l : List UInt8) : (ba l).toList = l := by rw [ByteArray.toList_eq]; simp [ba]
theorem word_ne {l m : List UInt8} (h : ¬ l = m) : ((ba l).toList == m) = false := by rw [ba_toList]; simpa using h
theorem word_eq {l m : List UInt8} (h : l = m) : ((ba l).toList == m) = true := by rw [ba_toList]; simpa using h
theorem bef_le (c : UInt8) (l : List UInt8) : (bef c l).length ≤ l.length := by unfold bef; rw [List.length_take]; omega
theorem aft_le (c : UInt8) (l : List UInt8) : (aft c l).length ≤ l.length := by unfold aft; rw [List.length_drop]; omega
theorem ba_inj {a b : List UInt8} (h : ba a = ba b) : a = b := by rw [← tl_ba a, ← tl_ba b, h]
theorem cut_word {s : ByteArray} {c : UInt8} {w : World} (hs : s.size ≤ maxLen) {l : List UInt8} (hl : s = ba l) :
    Calls Tryd.prog 41 #[.string s, .string ⟨#[c]⟩] w fun e w' => ∃ q, e = .returned (.tuple #[.string (ba (bef c l)), .string (ba (aft c l)), .bool (decide (ix c l < l.length))]) ∧ w' = w.drewN q := by
  refine (cut_any s c w hs).mono ?_
  rintro e w' ⟨q, rfl, rfl⟩
  subst hl
  refine ⟨q, ?_, rfl⟩
  rw [tl_ba, ba_size]
theorem read_word {s : ByteArray} {w : World} (hs : s.size ≤ maxLen) {l : List UInt8} (hl : s = ba l) :
    Calls Tryd.prog 42 #[.string s, .int .i64 2] w fun e w' => e = .returned (.tuple #[.int .i64 ((readL 2 l).getD 0), .bool (readL 2 l).isSome]) ∧ w = w' := by
  refine (readNumber_any s 2 (by omega) w hs).mono ?_
  rintro e w' ⟨rfl, rfl⟩
  subst hl
  rw [tl_ba]
  exact ⟨rfl, rfl⟩

set_option maxRecDepth 100000 in
set_option maxHeartbeats 2000000 in
theorem iReadDeed_any (s : ByteArray) (w : World) (hs : s.size ≤ maxLen) :
    Calls Tryd.prog 20 #[.string s] w (RdPost s w) := by
  have HS := Lib.hid hs
  have HZ := Lib.hid (tl_size s)
  have HSB := Lib.hid (ba_tl s)
  have HL1 : Hid ((ba (aft 32 (tl s))).size ≤ maxLen) := by unfold Hid; rw [ba_size]; have := aft_le 32 (tl s); rw [HZ.out] at this; omega
  have HL2 : Hid ((ba (bef 32 (aft 32 (tl s)))).size ≤ maxLen) := by unfold Hid; rw [ba_size]; have := aft_le 32 (tl s); have := bef_le 32 (aft 32 (tl s)); rw [HZ.out] at *; omega
  have HL3 : Hid ((ba (aft 32 (aft 32 (tl s)))).size ≤ maxLen) := by unfold Hid; rw [ba_size]; have := aft_le 32 (tl s); have := aft_le 32 (aft 32 (tl s)); rw [HZ.out] at *; omega
  have hR := Blk.new (w := w) (cs := #[.int .i64 0, .int .i64 0, .string ByteArray.empty]) (T := 26) rfl
  have hbel0 : Below w.heap.size w (w.alloc (.cells #[.int .i64 0, .int .i64 0, .string ByteArray.empty] 26)) := by (repeat' (first | (with_reducible exact Below.refl _ _) | (with_reducible assumption) | (with_reducible refine Below.drew ?_) | (with_reducible refine below_drewN ?_ _) | (with_reducible refine Below.alloc ?_ ?_ _) | (with_reducible refine Below.setCell ?_ ?_ _) | (refine Below.trans ?_ (Below.mono (by assumption) (by first | omega | (with_reducible exact Below.size (by assumption)) | (simp; done) | (simp; omega)))) | (with_reducible exact Nat.le_refl _) | omega | (with_reducible exact Below.size (by assumption)) | (simp only [World.size_alloc, World.size_setCell, World.size_drew]; omega) | (simp; done) | (simp; omega)))
  obtain ⟨p0, p1, p2, f0, f1, f2, plt⟩ := hR.three
  clear hs
  by_cases hw0 : bef 32 (tl s) = wcall
  · have HNE : Hid (s.size ≠ 0) := by
      intro h0
      have h9 : tl s = [] := List.length_eq_zero_iff.1 (by rw [HZ.out]; exact h0)
      rw [h9] at hw0
      exact absurd hw0 (by decide)
    have HK : Hid (wordK (bef 32 (tl s)) = some 0) := by unfold Hid wordK; rw [if_pos hw0]
    have hn0 := word_eq (m := [99, 97, 108, 108]) hw0
    obtain ⟨wd, hwd⟩ : ∃ z, ba (bef 32 (tl s)) = z := ⟨_, rfl⟩
    rw [hwd] at hn0
    have HWD := Lib.hid hwd
    clear hwd hw0
    cases hr : readL 2 (bef 32 (aft 32 (tl s))) with
    | none =>
      have HF := Lib.hid (rdeed_pI (s := s) (by unfold pI; rw [HK.out, hr]))
      have HR := Lib.hid hr
      clear hr
      go_enter Tryd.func20, Tryd.ntmps20
      go_wp2_with fail
      refine (cut_any s 32 _ HS.out).mono ?_
      rintro e w1 ⟨q, rfl, rfl⟩
      rw [HWD.out]
      go_wp2_with fail
      refine (cut_word (l := aft 32 (tl s)) HL1.out rfl).mono ?_
      rintro e w2 ⟨q2, rfl, rfl⟩
      go_wp2_with fail
      refine (read_word (l := bef 32 (aft 32 (tl s))) HL2.out rfl).mono ?_
      rintro e w3 ⟨rfl, rfl⟩
      rw [HR.out]
      go_wp2
      refine bodyPost_ret (v := .tuple #[.agg #[.int .i64 0, .int .i64 0, .string ByteArray.empty], .bool false]) (by simp [results, Tryd.results20, go_sem, p0, p1, p2]; rfl) rfl ?_
      exact rd_none HF.out (by (repeat' (first | (with_reducible exact Below.refl _ _) | (with_reducible assumption) | (with_reducible refine Below.drew ?_) | (with_reducible refine below_drewN ?_ _) | (with_reducible refine Below.alloc ?_ ?_ _) | (with_reducible refine Below.setCell ?_ ?_ _) | (refine Below.trans ?_ (Below.mono (by assumption) (by first | omega | (with_reducible exact Below.size (by assumption)) | (simp; done) | (simp; omega)))) | (with_reducible exact Nat.le_refl _) | omega | (with_reducible exact Below.size (by assumption)) | (simp only [World.size_alloc, World.size_setCell, World.size_drew]; omega) | (simp; done) | (simp; omega))))
    | some n =>
      have HPI : Hid (pI (tl s) = some (0, n, ba (aft 32 (aft 32 (tl s))))) := by unfold Hid pI; rw [HK.out, hr]
      have HR := Lib.hid hr
      clear hr
      obtain ⟨num, hnum⟩ : ∃ z, ba (aft 32 (aft 32 (tl s))) = z := ⟨_, rfl⟩
      have HNUM := Lib.hid hnum
      rw [hnum] at HPI HL3
      clear hnum
      go_enter Tryd.func20, Tryd.ntmps20
      go_wp2_with fail
      refine (cut_any s 32 _ HS.out).mono ?_
      rintro e w1 ⟨q, rfl, rfl⟩
      rw [HWD.out]
      go_wp2_with fail
      refine (cut_word (l := aft 32 (tl s)) HL1.out rfl).mono ?_
      rintro e w2 ⟨q2, rfl, rfl⟩
      rw [HNUM.out]
      go_wp2_with fail
      refine (read_word (l := bef 32 (aft 32 (tl s))) HL2.out rfl).mono ?_
      rintro e w3 ⟨rfl, rfl⟩
      rw [HR.out]
      go_wp2_with fail
      refine (iDeedText_any 0 n num _ HL3.out).mono ?_
      rintro e w4 ⟨rfl, hb4⟩
      have hD0 := Blk.new (w := (w.alloc (.cells #[.int .i64 0, .int .i64 0, .string ByteArray.empty] 26)).drewN q) (cs := #[.int .i64 0, .int .i64 0, .string ByteArray.empty]) (T := 26) (b := w.heap.size + 1) (by simp)
      have hD4 := (((hD0.drewN q2).set (i := 1) (u := .int .i64 n) rfl).set (i := 2) (u := .string num) rfl).belowAll hb4
      have hR4 := (((((hR.drewN q).alloc (.cells #[.int .i64 0, .int .i64 0, .string ByteArray.empty] 26)).drewN q2).other (a := ⟨w.heap.size + 1, 1, none⟩) (u := .int .i64 n) (by simp)).other (a := ⟨w.heap.size + 1, 2, none⟩) (u := .string num) (by simp)).belowAll hb4
      have hbel4 : Below w.heap.size w w4 := by (repeat' (first | (with_reducible exact Below.refl _ _) | (with_reducible assumption) | (with_reducible refine Below.drew ?_) | (with_reducible refine below_drewN ?_ _) | (with_reducible refine Below.alloc ?_ ?_ _) | (with_reducible refine Below.setCell ?_ ?_ _) | (refine Below.trans ?_ (Below.mono (by assumption) (by first | omega | (with_reducible exact Below.size (by assumption)) | (simp; done) | (simp; omega)))) | (with_reducible exact Nat.le_refl _) | omega | (with_reducible exact Below.size (by assumption)) | (simp only [World.size_alloc, World.size_setCell, World.size_drew]; omega) | (simp; done) | (simp; omega)))
      clear hD0 hb4 p0 p1 p2 f0 f1 f2 plt
      obtain ⟨d0, d1, d2, _, _, _, dlt⟩ := hD4.three
      obtain ⟨p0, p1, p2, f0, f1, f2, plt⟩ := hR4.three
      obtain ⟨tx, htx⟩ : ∃ z, dtxt 0 n num = z := ⟨_, rfl⟩
      rw [htx]
      have HTX := Lib.hid htx
      clear htx
      by_cases hts : tx = s
      · have hq := str_eq hts
        have hq2 : (tx.toList != s.toList) = false := by simp [bne, hq]
        have HF := Lib.hid (rdeed_some (d := (0, n, num)) HNE.out (by show dtxt 0 n num = s; rw [HTX.out, hts]))
        clear hts
        go_wp2
        refine bodyPost_ret (v := .tuple #[.agg #[.int .i64 0, .int .i64 n, .string num], .bool true]) (by simp [results, Tryd.results20, go_sem, p0, p1, p2, d0, d1, d2]) rfl ?_
        exact rd_some HF.out (by (repeat' (first | (with_reducible exact Below.refl _ _) | (with_reducible assumption) | (with_reducible refine Below.drew ?_) | (with_reducible refine below_drewN ?_ _) | (with_reducible refine Below.alloc ?_ ?_ _) | (with_reducible refine Below.setCell ?_ ?_ _) | (refine Below.trans ?_ (Below.mono (by assumption) (by first | omega | (with_reducible exact Below.size (by assumption)) | (simp; done) | (simp; omega)))) | (with_reducible exact Nat.le_refl _) | omega | (with_reducible exact Below.size (by assumption)) | (simp only [World.size_alloc, World.size_setCell, World.size_drew]; omega) | (simp; done) | (simp; omega))))
      · have hq := str_ne hts
        have hq2 : (tx.toList != s.toList) = true := by simp [bne, hq]
        have HF := Lib.hid (rdeed_pI_ne HPI.out (by show ¬ dtxt 0 n num = s; rw [HTX.out]; exact hts))
        clear hts
        go_wp2
        refine bodyPost_ret (v := .tuple #[.agg #[.int .i64 0, .int .i64 0, .string ByteArray.empty], .bool false]) (by simp [results, Tryd.results20, go_sem, p0, p1, p2]; rfl) rfl ?_
        exact rd_none HF.out (by (repeat' (first | (with_reducible exact Below.refl _ _) | (with_reducible assumption) | (with_reducible refine Below.drew ?_) | (with_reducible refine below_drewN ?_ _) | (with_reducible refine Below.alloc ?_ ?_ _) | (with_reducible refine Below.setCell ?_ ?_ _) | (refine Below.trans ?_ (Below.mono (by assumption) (by first | omega | (with_reducible exact Below.size (by assumption)) | (simp; done) | (simp; omega)))) | (with_reducible exact Nat.le_refl _) | omega | (with_reducible exact Below.size (by assumption)) | (simp only [World.size_alloc, World.size_setCell, World.size_drew]; omega) | (simp; done) | (simp; omega))))
  by_cases hw1 : bef 32 (tl s) = wdrop
  · have HNE : Hid (s.size ≠ 0) := by
      intro h0
      have h9 : tl s = [] := List.length_eq_zero_iff.1 (by rw [HZ.out]; exact h0)
      rw [h9] at hw1
      exact absurd hw1 (by decide)
    have HK : Hid (wordK (bef 32 (tl s)) = some 1) := by unfold Hid wordK; rw [if_neg hw0, if_pos hw1]
    have hn0 := word_ne (m := [99, 97, 108, 108]) hw0
    have hn1 := word_eq (m := [100, 114, 111, 112]) hw1
    obtain ⟨wd, hwd⟩ : ∃ z, ba (bef 32 (tl s)) = z := ⟨_, rfl⟩
    rw [hwd] at hn0 hn1
    have HWD := Lib.hid hwd
    clear hwd hw0 hw1
    cases hr : readL 2 (bef 32 (aft 32 (tl s))) with
    | none =>
      have HF := Lib.hid (rdeed_pI (s := s) (by unfold pI; rw [HK.out, hr]))
      have HR := Lib.hid hr
      clear hr
      go_enter Tryd.func20, Tryd.ntmps20
      go_wp2_with fail
      refine (cut_any s 32 _ HS.out).mono ?_
      rintro e w1 ⟨q, rfl, rfl⟩
      rw [HWD.out]
      go_wp2_with fail
      refine (cut_word (l := aft 32 (tl s)) HL1.out rfl).mono ?_
      rintro e w2 ⟨q2, rfl, rfl⟩
      go_wp2_with fail
      refine (read_word (l := bef 32 (aft 32 (tl s))) HL2.out rfl).mono ?_
      rintro e w3 ⟨rfl, rfl⟩
      rw [HR.out]
      go_wp2
      refine bodyPost_ret (v := .tuple #[.agg #[.int .i64 0, .int .i64 0, .string ByteArray.empty], .bool false]) (by simp [results, Tryd.results20, go_sem, p0, p1, p2]; rfl) rfl ?_
      exact rd_none HF.out (by (repeat' (first | (with_reducible exact Below.refl _ _) | (with_reducible assumption) | (with_reducible refine Below.drew ?_) | (with_reducible refine below_drewN ?_ _) | (with_reducible refine Below.alloc ?_ ?_ _) | (with_reducible refine Below.setCell ?_ ?_ _) | (refine Below.trans ?_ (Below.mono (by assumption) (by first | omega | (with_reducible exact Below.size (by assumption)) | (simp; done) | (simp; omega)))) | (with_reducible exact Nat.le_refl _) | omega | (with_reducible exact Below.size (by assumption)) | (simp only [World.size_alloc, World.size_setCell, World.size_drew]; omega) | (simp; done) | (simp; omega))))
    | some n =>
      have HPI : Hid (pI (tl s) = some (1, n, ba (aft 32 (aft 32 (tl s))))) := by unfold Hid pI; rw [HK.out, hr]
      have HR := Lib.hid hr
      clear hr
      obtain ⟨num, hnum⟩ : ∃ z, ba (aft 32 (aft 32 (tl s))) = z := ⟨_, rfl⟩
      have HNUM := Lib.hid hnum
      rw [hnum] at HPI HL3
      clear hnum
      go_enter Tryd.func20, Tryd.ntmps20
      go_wp2_with fail
      refine (cut_any s 32 _ HS.out).mono ?_
      rintro e w1 ⟨q, rfl, rfl⟩
      rw [HWD.out]
      go_wp2_with fail
      refine (cut_word (l := aft 32 (tl s)) HL1.out rfl).mono ?_
      rintro e w2 ⟨q2, rfl, rfl⟩
      rw [HNUM.out]
      go_wp2_with fail
      refine (read_word (l := bef 32 (aft 32 (tl s))) HL2.out rfl).mono ?_
      rintro e w3 ⟨rfl, rfl⟩
      rw [HR.out]
      go_wp2_with fail
      refine (iDeedText_any 1 n num _ HL3.out).mono ?_
      rintro e w4 ⟨rfl, hb4⟩
      have hD0 := Blk.new (w := (w.alloc (.cells #[.int .i64 0, .int .i64 0, .string ByteArray.empty] 26)).drewN q) (cs := #[.int .i64 1, .int .i64 0, .string ByteArray.empty]) (T := 26) (b := w.heap.size + 1) (by simp)
      have hD4 := (((hD0.drewN q2).set (i := 1) (u := .int .i64 n) rfl).set (i := 2) (u := .string num) rfl).belowAll hb4
      have hR4 := (((((hR.drewN q).alloc (.cells #[.int .i64 1, .int .i64 0, .string ByteArray.empty] 26)).drewN q2).other (a := ⟨w.heap.size + 1, 1, none⟩) (u := .int .i64 n) (by simp)).other (a := ⟨w.heap.size + 1, 2, none⟩) (u := .string num) (by simp)).belowAll hb4
      have hbel4 : Below w.heap.size w w4 := by (repeat' (first | (with_reducible exact Below.refl _ _) | (with_reducible assumption) | (with_reducible refine Below.drew ?_) | (with_reducible refine below_drewN ?_ _) | (with_reducible refine Below.alloc ?_ ?_ _) | (with_reducible refine Below.setCell ?_ ?_ _) | (refine Below.trans ?_ (Below.mono (by assumption) (by first | omega | (with_reducible exact Below.size (by assumption)) | (simp; done) | (simp; omega)))) | (with_reducible exact Nat.le_refl _) | omega | (with_reducible exact Below.size (by assumption)) | (simp only [World.size_alloc, World.size_setCell, World.size_drew]; omega) | (simp; done) | (simp; omega)))
      clear hD0 hb4 p0 p1 p2 f0 f1 f2 plt
      obtain ⟨d0, d1, d2, _, _, _, dlt⟩ := hD4.three
      obtain ⟨p0, p1, p2, f0, f1, f2, plt⟩ := hR4.three
      obtain ⟨tx, htx⟩ : ∃ z, dtxt 1 n num = z := ⟨_, rfl⟩
      rw [htx]
      have HTX := Lib.hid htx
      clear htx
      by_cases hts : tx = s
      · have hq := str_eq hts
        have hq2 : (tx.toList != s.toList) = false := by simp [bne, hq]
        have HF := Lib.hid (rdeed_some (d := (1, n, num)) HNE.out (by show dtxt 1 n num = s; rw [HTX.out, hts]))
        clear hts
        go_wp2
        refine bodyPost_ret (v := .tuple #[.agg #[.int .i64 1, .int .i64 n, .string num], .bool true]) (by simp [results, Tryd.results20, go_sem, p0, p1, p2, d0, d1, d2]) rfl ?_
        exact rd_some HF.out (by (repeat' (first | (with_reducible exact Below.refl _ _) | (with_reducible assumption) | (with_reducible refine Below.drew ?_) | (with_reducible refine below_drewN ?_ _) | (with_reducible refine Below.alloc ?_ ?_ _) | (with_reducible refine Below.setCell ?_ ?_ _) | (refine Below.trans ?_ (Below.mono (by assumption) (by first | omega | (with_reducible exact Below.size (by assumption)) | (simp; done) | (simp; omega)))) | (with_reducible exact Nat.le_refl _) | omega | (with_reducible exact Below.size (by assumption)) | (simp only [World.size_alloc, World.size_setCell, World.size_drew]; omega) | (simp; done) | (simp; omega))))
      · have hq := str_ne hts
        have hq2 : (tx.toList != s.toList) = true := by simp [bne, hq]
        have HF := Lib.hid (rdeed_pI_ne HPI.out (by show ¬ dtxt 1 n num = s; rw [HTX.out]; exact hts))
        clear hts
        go_wp2
        refine bodyPost_ret (v := .tuple #[.agg #[.int .i64 0, .int .i64 0, .string ByteArray.empty], .bool false]) (by simp [results, Tryd.results20, go_sem, p0, p1, p2]; rfl) rfl ?_
        exact rd_none HF.out (by (repeat' (first | (with_reducible exact Below.refl _ _) | (with_reducible assumption) | (with_reducible refine Below.drew ?_) | (with_reducible refine below_drewN ?_ _) | (with_reducible refine Below.alloc ?_ ?_ _) | (with_reducible refine Below.setCell ?_ ?_ _) | (refine Below.trans ?_ (Below.mono (by assumption) (by first | omega | (with_reducible exact Below.size (by assumption)) | (simp; done) | (simp; omega)))) | (with_reducible exact Nat.le_refl _) | omega | (with_reducible exact Below.size (by assumption)) | (simp only [World.size_alloc, World.size_setCell, World.size_drew]; omega) | (simp; done) | (simp; omega))))
  by_cases hw2 : bef 32 (tl s) = wnumber
  · have HNE : Hid (s.size ≠ 0) := by
      intro h0
      have h9 : tl s = [] := List.length_eq_zero_iff.1 (by rw [HZ.out]; exact h0)
      rw [h9] at hw2
      exact absurd hw2 (by decide)
    have HK : Hid (wordK (bef 32 (tl s)) = some 2) := by unfold Hid wordK; rw [if_neg hw0, if_neg hw1, if_pos hw2]
    have hn0 := word_ne (m := [99, 97, 108, 108]) hw0
    have hn1 := word_ne (m := [100, 114, 111, 112]) hw1
    have hn2 := word_eq (m := [110, 117, 109, 98, 101, 114]) hw2
    obtain ⟨wd, hwd⟩ : ∃ z, ba (bef 32 (tl s)) = z := ⟨_, rfl⟩
    rw [hwd] at hn0 hn1 hn2
    have HWD := Lib.hid hwd
    clear hwd hw0 hw1 hw2
    cases hr : readL 2 (bef 32 (aft 32 (tl s))) with
    | none =>
      have HF := Lib.hid (rdeed_pI (s := s) (by unfold pI; rw [HK.out, hr]))
      have HR := Lib.hid hr
      clear hr
      go_enter Tryd.func20, Tryd.ntmps20
      go_wp2_with fail
      refine (cut_any s 32 _ HS.out).mono ?_
      rintro e w1 ⟨q, rfl, rfl⟩
      rw [HWD.out]
      go_wp2_with fail
      refine (cut_word (l := aft 32 (tl s)) HL1.out rfl).mono ?_
      rintro e w2 ⟨q2, rfl, rfl⟩
      go_wp2_with fail
      refine (read_word (l := bef 32 (aft 32 (tl s))) HL2.out rfl).mono ?_
      rintro e w3 ⟨rfl, rfl⟩
      rw [HR.out]
      go_wp2
      refine bodyPost_ret (v := .tuple #[.agg #[.int .i64 0, .int .i64 0, .string ByteArray.empty], .bool false]) (by simp [results, Tryd.results20, go_sem, p0, p1, p2]; rfl) rfl ?_
      exact rd_none HF.out (by (repeat' (first | (with_reducible exact Below.refl _ _) | (with_reducible assumption) | (with_reducible refine Below.drew ?_) | (with_reducible refine below_drewN ?_ _) | (with_reducible refine Below.alloc ?_ ?_ _) | (with_reducible refine Below.setCell ?_ ?_ _) | (refine Below.trans ?_ (Below.mono (by assumption) (by first | omega | (with_reducible exact Below.size (by assumption)) | (simp; done) | (simp; omega)))) | (with_reducible exact Nat.le_refl _) | omega | (with_reducible exact Below.size (by assumption)) | (simp only [World.size_alloc, World.size_setCell, World.size_drew]; omega) | (simp; done) | (simp; omega))))
    | some n =>
      have HPI : Hid (pI (tl s) = some (2, n, ba (aft 32 (aft 32 (tl s))))) := by unfold Hid pI; rw [HK.out, hr]
      have HR := Lib.hid hr
      clear hr
      obtain ⟨num, hnum⟩ : ∃ z, ba (aft 32 (aft 32 (tl s))) = z := ⟨_, rfl⟩
      have HNUM := Lib.hid hnum
      rw [hnum] at HPI HL3
      clear hnum
      go_enter Tryd.func20, Tryd.ntmps20
      go_wp2_with fail
      refine (cut_any s 32 _ HS.out).mono ?_
      rintro e w1 ⟨q, rfl, rfl⟩
      rw [HWD.out]
      go_wp2_with fail
      refine (cut_word (l := aft 32 (tl s)) HL1.out rfl).mono ?_
      rintro e w2 ⟨q2, rfl, rfl⟩
      rw [HNUM.out]
      go_wp2_with fail
      refine (read_word (l := bef 32 (aft 32 (tl s))) HL2.out rfl).mono ?_
      rintro e w3 ⟨rfl, rfl⟩
      rw [HR.out]
      go_wp2_with fail
      refine (iDeedText_any 2 n num _ HL3.out).mono ?_
      rintro e w4 ⟨rfl, hb4⟩
      have hD0 := Blk.new (w := (w.alloc (.cells #[.int .i64 0, .int .i64 0, .string ByteArray.empty] 26)).drewN q) (cs := #[.int .i64 2, .int .i64 0, .string ByteArray.empty]) (T := 26) (b := w.heap.size + 1) (by simp)
      have hD4 := (((hD0.drewN q2).set (i := 1) (u := .int .i64 n) rfl).set (i := 2) (u := .string num) rfl).belowAll hb4
      have hR4 := (((((hR.drewN q).alloc (.cells #[.int .i64 2, .int .i64 0, .string ByteArray.empty] 26)).drewN q2).other (a := ⟨w.heap.size + 1, 1, none⟩) (u := .int .i64 n) (by simp)).other (a := ⟨w.heap.size + 1, 2, none⟩) (u := .string num) (by simp)).belowAll hb4
      have hbel4 : Below w.heap.size w w4 := by (repeat' (first | (with_reducible exact Below.refl _ _) | (with_reducible assumption) | (with_reducible refine Below.drew ?_) | (with_reducible refine below_drewN ?_ _) | (with_reducible refine Below.alloc ?_ ?_ _) | (with_reducible refine Below.setCell ?_ ?_ _) | (refine Below.trans ?_ (Below.mono (by assumption) (by first | omega | (with_reducible exact Below.size (by assumption)) | (simp; done) | (simp; omega)))) | (with_reducible exact Nat.le_refl _) | omega | (with_reducible exact Below.size (by assumption)) | (simp only [World.size_alloc, World.size_setCell, World.size_drew]; omega) | (simp; done) | (simp; omega)))
      clear hD0 hb4 p0 p1 p2 f0 f1 f2 plt
      obtain ⟨d0, d1, d2, _, _, _, dlt⟩ := hD4.three
      obtain ⟨p0, p1, p2, f0, f1, f2, plt⟩ := hR4.three
      obtain ⟨tx, htx⟩ : ∃ z, dtxt 2 n num = z := ⟨_, rfl⟩
      rw [htx]
      have HTX := Lib.hid htx
      clear htx
      by_cases hts : tx = s
      · have hq := str_eq hts
        have hq2 : (tx.toList != s.toList) = false := by simp [bne, hq]
        have HF := Lib.hid (rdeed_some (d := (2, n, num)) HNE.out (by show dtxt 2 n num = s; rw [HTX.out, hts]))
        clear hts
        go_wp2
        refine bodyPost_ret (v := .tuple #[.agg #[.int .i64 2, .int .i64 n, .string num], .bool true]) (by simp [results, Tryd.results20, go_sem, p0, p1, p2, d0, d1, d2]) rfl ?_
        exact rd_some HF.out (by (repeat' (first | (with_reducible exact Below.refl _ _) | (with_reducible assumption) | (with_reducible refine Below.drew ?_) | (with_reducible refine below_drewN ?_ _) | (with_reducible refine Below.alloc ?_ ?_ _) | (with_reducible refine Below.setCell ?_ ?_ _) | (refine Below.trans ?_ (Below.mono (by assumption) (by first | omega | (with_reducible exact Below.size (by assumption)) | (simp; done) | (simp; omega)))) | (with_reducible exact Nat.le_refl _) | omega | (with_reducible exact Below.size (by assumption)) | (simp only [World.size_alloc, World.size_setCell, World.size_drew]; omega) | (simp; done) | (simp; omega))))
      · have hq := str_ne hts
        have hq2 : (tx.toList != s.toList) = true := by simp [bne, hq]
        have HF := Lib.hid (rdeed_pI_ne HPI.out (by show ¬ dtxt 2 n num = s; rw [HTX.out]; exact hts))
        clear hts
        go_wp2
        refine bodyPost_ret (v := .tuple #[.agg #[.int .i64 0, .int .i64 0, .string ByteArray.empty], .bool false]) (by simp [results, Tryd.results20, go_sem, p0, p1, p2]; rfl) rfl ?_
        exact rd_none HF.out (by (repeat' (first | (with_reducible exact Below.refl _ _) | (with_reducible assumption) | (with_reducible refine Below.drew ?_) | (with_reducible refine below_drewN ?_ _) | (with_reducible refine Below.alloc ?_ ?_ _) | (with_reducible refine Below.setCell ?_ ?_ _) | (refine Below.trans ?_ (Below.mono (by assumption) (by first | omega | (with_reducible exact Below.size (by assumption)) | (simp; done) | (simp; omega)))) | (with_reducible exact Nat.le_refl _) | omega | (with_reducible exact Below.size (by assumption)) | (simp only [World.size_alloc, World.size_setCell, World.size_drew]; omega) | (simp; done) | (simp; omega))))
  have hpi : pI (tl s) = none := by unfold pI; rw [show wordK (bef 32 (tl s)) = none by unfold wordK; rw [if_neg hw0, if_neg hw1, if_neg hw2]]
  have HF := Lib.hid (rdeed_pI hpi)
  clear hpi
  have hn0 := word_ne (m := [99, 97, 108, 108]) hw0
  have hn1 := word_ne (m := [100, 114, 111, 112]) hw1
  have hn2 := word_ne (m := [110, 117, 109, 98, 101, 114]) hw2
  obtain ⟨wd, hwd⟩ : ∃ z, ba (bef 32 (tl s)) = z := ⟨_, rfl⟩
  rw [hwd] at hn0 hn1 hn2
  have HWD := Lib.hid hwd
  clear hwd hw0 hw1 hw2
  go_enter Tryd.func20, Tryd.ntmps20
  go_wp2_with fail
  refine (cut_any s 32 _ HS.out).mono ?_
  rintro e w1 ⟨q, rfl, rfl⟩
  rw [HWD.out]
  go_wp2
  refine bodyPost_ret (v := .tuple #[.agg #[.int .i64 0, .int .i64 0, .string ByteArray.empty], .bool false]) (by simp [results, Tryd.results20, go_sem, p0, p1, p2]; rfl) rfl ?_
  exact rd_none HF.out (by (repeat' (first | (with_reducible exact Below.refl _ _) | (with_reducible assumption) | (with_reducible refine Below.drew ?_) | (with_reducible refine below_drewN ?_ _) | (with_reducible refine Below.alloc ?_ ?_ _) | (with_reducible refine Below.setCell ?_ ?_ _) | (refine Below.trans ?_ (Below.mono (by assumption) (by first | omega | (with_reducible exact Below.size (by assumption)) | (simp; done) | (simp; omega)))) | (with_reducible exact Nat.le_refl _) | omega | (with_reducible exact Below.size (by assumption)) | (simp only [World.size_alloc, World.size_setCell, World.size_drew]; omega) | (simp; done) | (simp; omega))))

end Go.Proofs.YtedadhoneebfnaaDoor
