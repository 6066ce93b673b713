/- Reading deeds, plain: the text of a deed tells the deed. No program in sight. -/
import Derived.Test.YtedadhoneebfnaaDoorJt
set_option linter.unusedSimpArgs false
set_option linter.unusedVariables false
namespace Go.Proofs.YtedadhoneebfnaaDoor

/-! What stands before the first byte c, and what behind it. -/
abbrev tl (s : ByteArray) : List UInt8 := s.data.toList
def ba (l : List UInt8) : ByteArray := ⟨l.toArray⟩
theorem tl_ba (l : List UInt8) : tl (ba l) = l := by simp [tl, ba]
theorem ba_tl (s : ByteArray) : ba (tl s) = s := bytes_ext (by simp [tl, ba])
theorem tl_size (s : ByteArray) : (tl s).length = s.size := by simp [tl]
theorem tl_app (s t : ByteArray) : tl (s ++ t) = tl s ++ tl t := by simp [tl]
def ix (c : UInt8) (l : List UInt8) : Nat := l.findIdx (· == c)
def bef (c : UInt8) (l : List UInt8) : List UInt8 := l.take (ix c l)
def aft (c : UInt8) (l : List UInt8) : List UInt8 := l.drop (ix c l + 1)
theorem ix_none {c : UInt8} {l : List UInt8} (h : c ∉ l) : ix c l = l.length := by
  unfold ix
  rw [List.findIdx_eq_length]
  intro x hx
  simp only [beq_eq_false_iff_ne, ne_eq]
  exact fun e => h (e ▸ hx)
theorem ix_at {c : UInt8} {l r : List UInt8} (h : c ∉ l) : ix c (l ++ c :: r) = l.length := by
  have h1 := ix_none h
  unfold ix at h1 ⊢
  rw [List.findIdx_append, h1, if_neg (by omega)]
  simp [List.findIdx_cons]
theorem bef_none {c : UInt8} {l : List UInt8} (h : c ∉ l) : bef c l = l := by unfold bef; rw [ix_none h]; simp
theorem aft_none {c : UInt8} {l : List UInt8} (h : c ∉ l) : aft c l = [] := by unfold aft; rw [ix_none h]; simp
theorem bef_at {c : UInt8} {l r : List UInt8} (h : c ∉ l) : bef c (l ++ c :: r) = l := by unfold bef; rw [ix_at h]; simp
theorem aft_at {c : UInt8} {l r : List UInt8} (h : c ∉ l) : aft c (l ++ c :: r) = r := by
  unfold aft; rw [ix_at h, List.drop_append]; simp

/-! Numbers of a text. -/
def dgB (c : UInt8) : Bool := decide (48 ≤ (c.toNat : Int)) && decide ((c.toNat : Int) ≤ 57)
def valL (l : List UInt8) : Int := l.foldl (fun n c => 10 * n + ((c.toNat : Int) - 48)) 0
def readL (most : Nat) (l : List UInt8) : Option Int :=
  if l.length < 1 ∨ most < l.length ∨ (1 < l.length ∧ l[0]? = some 48) then none
  else if l.all dgB then some (valL l) else none
set_option maxRecDepth 100000 in
theorem two_read : ∀ n, n < 100 → readL 2 (tl (two n)) = some (n : Int) ∧ (32 : UInt8) ∉ tl (two n) := by decide +kernel
theorem read_more {l : List UInt8} {a b : Nat} {z : Int} (h : readL a l = some z) (hab : a ≤ b) : readL b l = some z := by
  unfold readL at h ⊢
  split at h
  · cases h
  · rename_i hn
    rw [if_neg (by simp only [not_or] at hn ⊢; exact ⟨hn.1, by omega, hn.2.2⟩)]
    exact h

/-! The text of a deed, as letters. -/
def wcall : List UInt8 := [99, 97, 108, 108]
def wdrop : List UInt8 := [100, 114, 111, 112]
def wnumber : List UInt8 := [110, 117, 109, 98, 101, 114]
def DtIs (d : Ded) (l : List UInt8) : Prop := ∃ n : Nat, n < 100 ∧ d.2.1 = n ∧
  ((d.1 = 1 ∧ tl d.2.2 = [] ∧ l = wdrop ++ 32 :: tl (two n)) ∨ (d.1 = 0 ∧ (32 : UInt8) ∉ tl d.2.2 ∧ l = wcall ++ 32 :: (tl (two n) ++ 32 :: tl d.2.2)) ∨ (d.1 = 2 ∧ (32 : UInt8) ∉ tl d.2.2 ∧ l = wnumber ++ 32 :: (tl (two n) ++ 32 :: tl d.2.2)))
theorem numD_sp {s : ByteArray} (h : numD s = true) : (32 : UInt8) ∉ tl s := by
  intro hm
  simp only [numD, Bool.and_eq_true] at h
  have := List.all_eq_true.1 h.2 32 hm
  simp [digB] at this
theorem dt_is {d : Ded} (h : (dt d).size ≠ 0) : DtIs d (tl (dt d)) := by
  obtain ⟨k, l, s⟩ := d
  unfold dt dtxt at h ⊢
  simp only at h ⊢
  split at h
  · exact absurd rfl h
  rename_i hl
  rw [if_neg hl]
  have hn : l.toNat < 100 := by omega
  refine ⟨l.toNat, hn, by simp only; omega, ?_⟩
  simp only
  split at h
  · rename_i hk
    split at h
    · rename_i hs
      rw [if_pos hk, if_pos hs]
      refine .inl ⟨hk, ?_, ?_⟩
      · have := tl_size s; exact List.length_eq_zero_iff.1 (by omega)
      · rw [tl_app]; rfl
    · exact absurd rfl h
  rename_i hk
  rw [if_neg hk]
  split at h
  · exact absurd rfl h
  rename_i hd
  rw [if_neg hd]
  have hsp := numD_sp (by simpa using hd)
  split at h
  · rename_i hk0
    rw [if_pos hk0]
    refine .inr (.inl ⟨hk0, hsp, ?_⟩)
    rw [tl_app, tl_app, tl_app]; simp [wcall]; rfl
  rename_i hk0
  rw [if_neg hk0]
  split at h
  · rename_i hk2
    rw [if_pos hk2]
    refine .inr (.inr ⟨hk2, hsp, ?_⟩)
    rw [tl_app, tl_app, tl_app]; simp [wnumber]; rfl
  · exact absurd rfl h

/-! Two ways to read it. -/
def wordK (l : List UInt8) : Option Int := if l = wcall then some 0 else if l = wdrop then some 1 else if l = wnumber then some 2 else none
def pI (l : List UInt8) : Option Ded := match wordK (bef 32 l) with
  | none => none
  | some k => match readL 2 (bef 32 (aft 32 l)) with
    | none => none
    | some n => some (k, n, ba (aft 32 (aft 32 l)))
def pS (l : List UInt8) : Ded := ((wordK (bef 32 l)).getD (-1), (if (32 : UInt8) ∈ l then (readL 4 (bef 32 (aft 32 l))).getD (-1) else 0), (if (32 : UInt8) ∈ l ∧ (32 : UInt8) ∈ aft 32 l then ba (bef 32 (aft 32 (aft 32 l))) else ⟨#[]⟩))
theorem pI_is {d : Ded} {l : List UInt8} (h : DtIs d l) : pI l = some d := by
  obtain ⟨k, l', s⟩ := d
  obtain ⟨n, hn, h1, h2⟩ := h
  obtain ⟨r1, r2⟩ := two_read n hn
  simp only at h1 h2
  subst h1
  rcases h2 with ⟨rfl, hs, rfl⟩ | ⟨rfl, hs, rfl⟩ | ⟨rfl, hs, rfl⟩
  · unfold pI
    rw [bef_at (by decide), aft_at (by decide), bef_none r2, aft_none r2, r1]
    simp only [wordK, wcall, wdrop]
    have : s = ba [] := by rw [← hs, ba_tl]
    subst this
    rfl
  · unfold pI
    rw [bef_at (by decide), aft_at (by decide), bef_at r2, aft_at r2, r1, ba_tl]
    rfl
  · unfold pI
    rw [bef_at (by decide), aft_at (by decide), bef_at r2, aft_at r2, r1, ba_tl]
    rfl
theorem pS_is {d : Ded} {l : List UInt8} (h : DtIs d l) : pS l = d := by
  obtain ⟨k, l', s⟩ := d
  obtain ⟨n, hn, h1, h2⟩ := h
  obtain ⟨r1, r2⟩ := two_read n hn
  have r3 := read_more r1 (show 2 ≤ 4 by omega)
  simp only at h1 h2
  subst h1
  rcases h2 with ⟨rfl, hs, rfl⟩ | ⟨rfl, hs, rfl⟩ | ⟨rfl, hs, rfl⟩
  · unfold pS
    rw [bef_at (by decide), aft_at (by decide), bef_none r2, r3, if_pos (by simp), if_neg (by simp [r2])]
    have : s = ba [] := by rw [← hs, ba_tl]
    subst this
    rfl
  · unfold pS
    rw [bef_at (by decide), aft_at (by decide), bef_at r2, aft_at r2, bef_none hs, r3, if_pos (by simp), if_pos (by simp), ba_tl]
    rfl
  · unfold pS
    rw [bef_at (by decide), aft_at (by decide), bef_at r2, aft_at r2, bef_none hs, r3, if_pos (by simp), if_pos (by simp), ba_tl]
    rfl
/-- The deed that a text tells. -/
theorem dt_one {d e : Ded} (h : (dt d).size ≠ 0) (he : dt d = dt e) : d = e := by
  have h1 := pI_is (dt_is h)
  have h2 := pI_is (dt_is (d := e) (by rw [← he]; exact h))
  rw [he, h2] at h1
  exact (Option.some.inj h1).symm
open Classical in
noncomputable def rdeed (s : ByteArray) : Ded × Bool := if h : s.size ≠ 0 ∧ ∃ d, dt d = s then (Classical.choose h.2, true) else ((0, 0, ⟨#[]⟩), false)
theorem rdeed_some {s : ByteArray} {d : Ded} (h0 : s.size ≠ 0) (h : dt d = s) : rdeed s = (d, true) := by
  unfold rdeed
  have hh : s.size ≠ 0 ∧ ∃ d, dt d = s := ⟨h0, d, h⟩
  rw [dif_pos hh]
  have := Classical.choose_spec hh.2
  rw [dt_one (d := Classical.choose hh.2) (e := d) (by rw [this]; exact h0) (by rw [this, h])]
theorem rdeed_empty {s : ByteArray} (h0 : s.size = 0) : rdeed s = ((0, 0, ⟨#[]⟩), false) := by
  unfold rdeed; rw [dif_neg (fun h => h.1 h0)]
theorem rdeed_pI {s : ByteArray} (h : pI (tl s) = none) : rdeed s = ((0, 0, ⟨#[]⟩), false) := by
  unfold rdeed
  rw [dif_neg]
  rintro ⟨h0, d, rfl⟩
  rw [pI_is (dt_is h0)] at h
  cases h
theorem rdeed_pI_ne {s : ByteArray} {d : Ded} (h : pI (tl s) = some d) (hd : dt d ≠ s) : rdeed s = ((0, 0, ⟨#[]⟩), false) := by
  unfold rdeed
  rw [dif_neg]
  rintro ⟨h0, e, rfl⟩
  rw [pI_is (dt_is h0)] at h
  cases h
  exact hd rfl
theorem rdeed_pS_ne {s : ByteArray} (hd : dt (pS (tl s)) ≠ s) : rdeed s = ((0, 0, ⟨#[]⟩), false) := by
  unfold rdeed
  rw [dif_neg]
  rintro ⟨h0, e, rfl⟩
  rw [pS_is (dt_is h0)] at hd
  exact hd rfl
theorem rdeed_true {s : ByteArray} {d : Ded} (h : rdeed s = (d, true)) : dt d = s ∧ s.size ≠ 0 := by
  unfold rdeed at h
  split at h
  · rename_i hh
    have := Classical.choose_spec hh.2
    cases h
    exact ⟨this, hh.1⟩
  · cases h
theorem rdeed_false {s : ByteArray} {d : Ded} (h : rdeed s = (d, false)) : d = (0, 0, ⟨#[]⟩) := by
  unfold rdeed at h
  split at h
  · cases h
  · cases h; rfl

/-! The pieces between the bytes c. -/
def splitL (c : UInt8) : List UInt8 → List UInt8 → List (List UInt8)
  | [], cur => [cur]
  | x :: xs, cur => if x = c then cur :: splitL c xs [] else splitL c xs (cur ++ [x])
theorem splitL_cons (c x : UInt8) (xs cur : List UInt8) : splitL c (x :: xs) cur = if x = c then cur :: splitL c xs [] else splitL c xs (cur ++ [x]) := by rw [splitL]
theorem split_head (c : UInt8) : ∀ (l cur : List UInt8), (splitL c l cur)[0]? = some (cur ++ bef c l) ∧ (splitL c l cur).length = 1 + l.count c := by
  intro l
  induction l with
  | nil => intro cur; simp [splitL, bef]
  | cons x xs ih =>
    intro cur
    rw [splitL_cons]
    split
    · rename_i e
      subst e
      obtain ⟨h1, h2⟩ := ih []
      exact ⟨by simp [bef, ix, List.findIdx_cons], by simp [h2]; omega⟩
    · rename_i e
      obtain ⟨h1, h2⟩ := ih (cur ++ [x])
      refine ⟨?_, ?_⟩
      · rw [h1]
        have : (x == c) = false := by simpa using e
        simp [bef, ix, List.findIdx_cons, this]
      · rw [h2, List.count_cons_of_ne e]
theorem split_tail (c : UInt8) : ∀ (l cur : List UInt8), c ∈ l → splitL c l cur = (cur ++ bef c l) :: splitL c (aft c l) [] := by
  intro l
  induction l with
  | nil => intro cur h; simp at h
  | cons x xs ih =>
    intro cur h
    rw [splitL_cons]
    split
    · rename_i e
      subst e
      simp [bef, aft, ix, List.findIdx_cons]
    · rename_i e
      have hb : (x == c) = false := by simpa using e
      rw [ih (cur ++ [x]) (by simpa [Ne.symm e] using h)]
      simp [bef, aft, ix, List.findIdx_cons, hb]
theorem split_one (c : UInt8) {l cur : List UInt8} (h : c ∉ l) : splitL c l cur = [cur ++ l] := by
  induction l generalizing cur with
  | nil => simp [splitL]
  | cons x xs ih =>
    rw [splitL_cons, if_neg (fun e => h (by simp [e])), ih (fun e => h (by simp [e]))]
    simp
/-- A loop over the letters: where it stands. -/
theorem split_step {c : UInt8} {l : List UInt8} {k f : Nat} {x : UInt8} (hx : l[k]? = some x) (hf : f ≤ k) : splitL c (l.drop k) ((l.take k).drop f) = if x = c then ((l.take k).drop f) :: splitL c (l.drop (k + 1)) ((l.take (k + 1)).drop (k + 1)) else splitL c (l.drop (k + 1)) ((l.take (k + 1)).drop f) := by
  obtain ⟨hk, rfl⟩ := List.getElem?_eq_some_iff.1 hx
  rw [List.drop_eq_getElem_cons hk, splitL_cons]
  have h1 : (l.take (k + 1)).drop (k + 1) = [] := by rw [List.drop_eq_nil_iff]; simp; omega
  have h2 : (l.take (k + 1)).drop f = (l.take k).drop f ++ [l[k]] := by
    rw [List.take_succ_eq_append_getElem hk, List.drop_append_of_le_length (by simp; omega)]
  rw [h1, h2]

end Go.Proofs.YtedadhoneebfnaaDoor
