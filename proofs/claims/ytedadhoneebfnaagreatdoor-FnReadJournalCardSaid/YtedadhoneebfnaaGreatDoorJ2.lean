/- Joined texts: Jt, Rp, Jr, Jq, Cu, Rn, Str. -/
import Derived.Test.YtedadhoneebfnaaGreatDoorDy
import Derived.Test.YtedadhoneebfnaaGreatDoorSi
import Derived.Deep.QuietTactic
import Derived.BigQuiet
import Derived.IntWalk
import Derived.Test.YtedadhoneebfnaaGreatDoorJ1
import Derived.Test.YtedadhoneebfnaaGreatDoorLib
set_option linter.unusedSimpArgs false
set_option linter.unusedVariables false
/- The text of a journal (plain), and the contract of the reference's JournalText. -/
namespace Go.Proofs.YtedadhoneebfnaaGreatDoor
open Go.RowKit

theorem dtxt_size (k l : Int) (s : ByteArray) : (dtxt k l s).size ≤ 13 := by
 have h2 := two_size l.toNat
 unfold dtxt
 split
 ·
  show 0 ≤ 13; omega
 ·
  split
  ·
   split
   ·
    rw [ByteArray.size_append]; show 5 + (two l.toNat).size ≤ 13; omega
   ·
    show 0 ≤ 13; omega
  ·
   split
   ·
    show 0 ≤ 13; omega
   ·
    rename_i hn
    have h3 : s.size ≤ 3 := by
     have : numD s = true := by simpa using hn
     simp [numD] at this
     omega
    split
    ·
     simp only [ByteArray.size_append]; show 5 + (two l.toNat).size + 1 + s.size ≤ 13; omega
    ·
     split
     ·
      simp only [ByteArray.size_append]; show 7 + (two l.toNat).size + 1 + s.size ≤ 13; omega
     ·
      show 0 ≤ 13; omega

/-- The text of one deed of a list. -/
def dt (d : Ded) : ByteArray := dtxt d.1 d.2.1 d.2.2
theorem dt_size (d : Ded) : (dt d).size ≤ 13 := dtxt_size _ _ _
/-- The lines joined. -/
def jcat (zs : List Ded) : ByteArray := zs.foldl (fun a d => a ++ dt d ++ ⟨#[10]⟩) ⟨#[]⟩
/-- Does each deed have a text? -/
def jok (zs : List Ded) : Bool := zs.all fun d => decide ((dt d).size ≠ 0)
def jtxt (zs : List Ded) : ByteArray := if jok zs then jcat zs else ⟨#[]⟩
theorem jcat_snoc (zs : List Ded) (d : Ded) : jcat (zs ++ [d]) = jcat zs ++ dt d ++ ⟨#[10]⟩ := by simp [jcat]
theorem jok_snoc (zs : List Ded) (d : Ded) : jok (zs ++ [d]) = (jok zs && decide ((dt d).size ≠ 0)) := by simp [jok]
theorem jcat_size (zs : List Ded) : (jcat zs).size ≤ 14 * zs.length := by
 have h : ∀ (zs : List Ded) (a : ByteArray), (zs.foldl (fun a d => a ++ dt d ++ ⟨#[10]⟩) a).size ≤ a.size + 14 * zs.length := by
  intro zs
  induction zs with
  | nil => intro a; simp
  | cons z zs ih =>
   intro a
   have h1 := ih (a ++ dt z ++ ⟨#[10]⟩)
   have h2 := dt_size z
   have h3 : (a ++ dt z ++ (⟨#[10]⟩ : ByteArray)).size = a.size + (dt z).size + 1 := by simp only [ByteArray.size_append]; rfl
   simp only [List.foldl_cons, List.length_cons]
   omega
 have := h zs ⟨#[]⟩
 have h0 : (⟨#[]⟩ : ByteArray).size = 0 := rfl
 unfold jcat
 omega
theorem take_snoc {zs : List Ded} {k : Nat} {d : Ded} (h : zs[k]? = some d) : zs.take (k + 1) = zs.take k ++ [d] := by
 rw [List.take_add_one, h]; rfl
theorem jok_no {zs : List Ded} {k : Nat} {d : Ded} (h : zs[k]? = some d) (h0 : (dt d).size = 0) : jok zs = false := by
 have hm : d ∈ zs := List.mem_of_getElem? h
 cases hb : jok zs with
 | false => rfl
 | true =>
  have := List.all_eq_true.1 hb d hm
  simp [h0] at this

set_option maxRecDepth 100000 in
set_option maxHeartbeats 2000000 in
theorem sJournalText_any (v : Value) (zs : List Ded) (w : World) (hv : Rds w v zs.length 3 (dcells zs)) (hl : zs.length ≤ 1048576) (hs : ∀ d ∈ zs, d.2.2.size ≤ maxLen) :
  Calls Tryz.prog 49 #[v] w fun e w' => e = .returned (.string (jtxt zs)) ∧ Below w.heap.size w w' := by
 obtain ⟨hl1, hm1, a, ca, rfl, hn1, hc1⟩ := hv
 unfold maxLen at hm1
 obtain ⟨n, hn⟩ : ∃ n, zs.length = n := ⟨_, rfl⟩
 rw [hn] at hm1 hn1 hc1 hl ⊢
 have HN := Lib.hid hn
 have HS := Lib.hid hs
 clear hn hl1 hs
 go_enter Tryz.func49, Tryz.ntmps49
 go_wp2_with fail
 go_loopw [3, 4] (fun t i wr => ∃ k : Nat, k ≤ n ∧ i = .int .i64 k ∧ t = .string (jcat (zs.take k)) ∧ Hid (jok (zs.take k) = true) ∧ Below w.heap.size w wr) (fun _ i _ => n - (intOf i).toNat)
 case atStart => exact ⟨0, by omega, rfl, rfl, rfl, Below.refl _ _⟩
 case round =>
  obtain ⟨k, hk, rfl, rfl, hok, hbel⟩ := hrel
  by_cases hkn : k < n
  ·
   rcases hc1 with hc1 | ⟨b1, o1, rfl, hb1, hc1⟩
   ·
    omega
   obtain ⟨z, hz⟩ : ∃ z, zs[k]? = some z := ⟨_, List.getElem?_eq_getElem (by rw [HN.out]; omega)⟩
   obtain ⟨g1, g2, g3⟩ := dcells_at zs k z hz
   have c1 : wr.cell? ⟨b1, o1 + k * 3, none⟩ = some (.int .i64 z.1) := by rw [hbel.cell (p := ⟨b1, o1 + k * 3, none⟩) hb1, hc1 _ (by omega), g1]
   have c2 : wr.cell? ⟨b1, o1 + k * 3 + 1, none⟩ = some (.int .i64 z.2.1) := by rw [Nat.add_assoc, hbel.cell (p := ⟨b1, o1 + (k * 3 + 1), none⟩) hb1, hc1 _ (by omega), g2]
   have c3 : wr.cell? ⟨b1, o1 + k * 3 + 2, none⟩ = some (.string z.2.2) := by rw [Nat.add_assoc, hbel.cell (p := ⟨b1, o1 + (k * 3 + 2), none⟩) hb1, hc1 _ (by omega), g3]
   have hzs := HS.out z (List.mem_of_getElem? hz)
   have HZ := Lib.hid hz
   have HC : Hid (∀ W : World, Below w.heap.size w W → W.cell? ⟨b1, o1 + k * 3, none⟩ = some (.int .i64 z.1) ∧ W.cell? ⟨b1, o1 + k * 3 + 1, none⟩ = some (.int .i64 z.2.1) ∧ W.cell? ⟨b1, o1 + k * 3 + 2, none⟩ = some (.string z.2.2)) := fun W hW => ⟨by rw [hW.cell (p := ⟨b1, o1 + k * 3, none⟩) hb1, hc1 _ (by omega), g1], by rw [Nat.add_assoc, hW.cell (p := ⟨b1, o1 + (k * 3 + 1), none⟩) hb1, hc1 _ (by omega), g2], by rw [Nat.add_assoc, hW.cell (p := ⟨b1, o1 + (k * 3 + 2), none⟩) hb1, hc1 _ (by omega), g3]⟩
   have hjs : (jcat (zs.take k)).size ≤ 14 * k := by have := jcat_size (zs.take k); rw [List.length_take] at this; omega
   clear hz hc1 g1 g2 g3
   go_wp2_with fail
   refine (sDeedText_any z.1 z.2.1 z.2.2 _ hzs).mono ?_
   rintro e w1 ⟨rfl, hb⟩
   have hbel1 : Below w.heap.size w w1 := by (exact grownA)
   obtain ⟨c1, c2, c3⟩ := HC.out w1 hbel1
   obtain ⟨T, hT⟩ : ∃ T, dt z = T := ⟨_, rfl⟩
   rw [show dtxt z.1 z.2.1 z.2.2 = T from hT]
   by_cases h0 : T.size = 0
   ·
    have HNO := Lib.hid (jok_no HZ.out (by rw [hT]; exact h0))
    have HT := Lib.hid hT
    obtain rfl : T = ⟨#[]⟩ := empty_of h0
    clear h0 hT
    go_wp2
    go_returns
    exact ⟨by unfold jtxt; rw [HNO.out]; rfl, hbel1⟩
   ·
    obtain ⟨q1, q2⟩ := some_of h0
    have HT := Lib.hid hT
    have H0 := Lib.hid h0
    have hts : T.size ≤ 13 := by rw [← hT]; exact dt_size z
    clear h0 hT hb hbel c1 c2 c3
    obtain ⟨c1, c2, c3⟩ := HC.out w1 hbel1
    go_wp2_with fail
    refine (sDeedText_any z.1 z.2.1 z.2.2 _ hzs).mono ?_
    rintro e w2 ⟨rfl, hb⟩
    have hbel2 : Below w.heap.size w w2 := by (exact grownA)
    rw [show dtxt z.1 z.2.1 z.2.2 = T from HT.out]
    go_wp2_with fail
    go_roundw
    case rel => exact ⟨k + 1, by omega, by go_num, by rw [take_snoc HZ.out, jcat_snoc, HT.out], by unfold Hid; rw [take_snoc HZ.out, jok_snoc, hok.out, HT.out]; simp [H0.out], by (exact grownA)⟩
    case measure => simp [intOf]; omega
  ·
   obtain rfl : k = n := by omega
   have HA : Hid (zs.take k = zs) := List.take_of_length_le (by rw [HN.out]; omega)
   rw [HA.out] at hok ⊢
   go_wp2
   go_returns
   exact ⟨by unfold jtxt; rw [hok.out]; rfl, hbel⟩

end Go.Proofs.YtedadhoneebfnaaGreatDoor

/- Reading deeds, plain: the text of a deed tells the deed. No program in sight. -/
namespace Go.Proofs.YtedadhoneebfnaaGreatDoor

/-! What stands before the first byte c, and what behind it. -/
abbrev tl (s : ByteArray) : List UInt8 := s.data.toList
def ba (l : List UInt8) : ByteArray := ⟨l.toArray⟩
theorem tl_ba (l : List UInt8) : tl (ba l) = l := by simp [tl, ba]
theorem ba_tl (s : ByteArray) : ba (tl s) = s := bytes_ext (by simp [tl, ba])
theorem tl_size (s : ByteArray) : (tl s).length = s.size := by simp [tl]
theorem tl_app (s t : ByteArray) : tl (s ++ t) = tl s ++ tl t := by simp [tl]
def ix (c : UInt8) (l : List UInt8) : Nat := l.findIdx (· == c)
def bef (c : UInt8) (l : List UInt8) : List UInt8 := l.take (ix c l)
def aft (c : UInt8) (l : List UInt8) : List UInt8 := l.drop (ix c l + 1)
theorem ix_none {c : UInt8} {l : List UInt8} (h : c ∉ l) : ix c l = l.length := by
 unfold ix
 rw [List.findIdx_eq_length]
 intro x hx
 simp only [beq_eq_false_iff_ne, ne_eq]
 exact fun e => h (e ▸ hx)
theorem ix_at {c : UInt8} {l r : List UInt8} (h : c ∉ l) : ix c (l ++ c :: r) = l.length := by
 have h1 := ix_none h
 unfold ix at h1 ⊢
 rw [List.findIdx_append, h1, if_neg (by omega)]
 simp [List.findIdx_cons]
theorem bef_none {c : UInt8} {l : List UInt8} (h : c ∉ l) : bef c l = l := by unfold bef; rw [ix_none h]; simp
theorem aft_none {c : UInt8} {l : List UInt8} (h : c ∉ l) : aft c l = [] := by unfold aft; rw [ix_none h]; simp
theorem bef_at {c : UInt8} {l r : List UInt8} (h : c ∉ l) : bef c (l ++ c :: r) = l := by unfold bef; rw [ix_at h]; simp
theorem aft_at {c : UInt8} {l r : List UInt8} (h : c ∉ l) : aft c (l ++ c :: r) = r := by
 unfold aft; rw [ix_at h, List.drop_append]; simp

/-! Numbers of a text. -/
def dgB (c : UInt8) : Bool := decide (48 ≤ (c.toNat : Int)) && decide ((c.toNat : Int) ≤ 57)
def valL (l : List UInt8) : Int := l.foldl (fun n c => 10 * n + ((c.toNat : Int) - 48)) 0
def readL (most : Nat) (l : List UInt8) : Option Int :=
 if l.length < 1 ∨ most < l.length ∨ (1 < l.length ∧ l[0]? = some 48) then none
 else if l.all dgB then some (valL l) else none
set_option maxRecDepth 100000 in
theorem two_read : ∀ n, n < 100 → readL 2 (tl (two n)) = some (n : Int) ∧ (32 : UInt8) ∉ tl (two n) := by decide +kernel
theorem read_more {l : List UInt8} {a b : Nat} {z : Int} (h : readL a l = some z) (hab : a ≤ b) : readL b l = some z := by
 unfold readL at h ⊢
 split at h
 ·
  cases h
 ·
  rename_i hn
  rw [if_neg (by simp only [not_or] at hn ⊢; exact ⟨hn.1, by omega, hn.2.2⟩)]
  exact h

/-! The text of a deed, as letters. -/
def wcall : List UInt8 := [99, 97, 108, 108]
def wdrop : List UInt8 := [100, 114, 111, 112]
def wnumber : List UInt8 := [110, 117, 109, 98, 101, 114]
def DtIs (d : Ded) (l : List UInt8) : Prop := ∃ n : Nat, n < 100 ∧ d.2.1 = n ∧
 ((d.1 = 1 ∧ tl d.2.2 = [] ∧ l = wdrop ++ 32 :: tl (two n)) ∨ (d.1 = 0 ∧ (32 : UInt8) ∉ tl d.2.2 ∧ l = wcall ++ 32 :: (tl (two n) ++ 32 :: tl d.2.2)) ∨ (d.1 = 2 ∧ (32 : UInt8) ∉ tl d.2.2 ∧ l = wnumber ++ 32 :: (tl (two n) ++ 32 :: tl d.2.2)))
theorem numD_sp {s : ByteArray} (h : numD s = true) : (32 : UInt8) ∉ tl s := by
 intro hm
 simp only [numD, Bool.and_eq_true] at h
 have := List.all_eq_true.1 h.2 32 hm
 simp [digB] at this
theorem dt_is {d : Ded} (h : (dt d).size ≠ 0) : DtIs d (tl (dt d)) := by
 obtain ⟨k, l, s⟩ := d
 unfold dt dtxt at h ⊢
 simp only at h ⊢
 split at h
 ·
  exact absurd rfl h
 rename_i hl
 rw [if_neg hl]
 have hn : l.toNat < 100 := by omega
 refine ⟨l.toNat, hn, by simp only; omega, ?_⟩
 simp only
 split at h
 ·
  rename_i hk
  split at h
  ·
   rename_i hs
   rw [if_pos hk, if_pos hs]
   refine .inl ⟨hk, ?_, ?_⟩
   ·
    have := tl_size s; exact List.length_eq_zero_iff.1 (by omega)
   ·
    rw [tl_app]; rfl
  ·
   exact absurd rfl h
 rename_i hk
 rw [if_neg hk]
 split at h
 ·
  exact absurd rfl h
 rename_i hd
 rw [if_neg hd]
 have hsp := numD_sp (by simpa using hd)
 split at h
 ·
  rename_i hk0
  rw [if_pos hk0]
  refine .inr (.inl ⟨hk0, hsp, ?_⟩)
  rw [tl_app, tl_app, tl_app]; simp [wcall]; rfl
 rename_i hk0
 rw [if_neg hk0]
 split at h
 ·
  rename_i hk2
  rw [if_pos hk2]
  refine .inr (.inr ⟨hk2, hsp, ?_⟩)
  rw [tl_app, tl_app, tl_app]; simp [wnumber]; rfl
 ·
  exact absurd rfl h

/-! Two ways to read it. -/
def wordK (l : List UInt8) : Option Int := if l = wcall then some 0 else if l = wdrop then some 1 else if l = wnumber then some 2 else none
def pI (l : List UInt8) : Option Ded := match wordK (bef 32 l) with
 | none => none
 | some k => match readL 2 (bef 32 (aft 32 l)) with
  | none => none
  | some n => some (k, n, ba (aft 32 (aft 32 l)))
def pS (l : List UInt8) : Ded := ((wordK (bef 32 l)).getD (-1), (if (32 : UInt8) ∈ l then (readL 4 (bef 32 (aft 32 l))).getD (-1) else 0), (if (32 : UInt8) ∈ l ∧ (32 : UInt8) ∈ aft 32 l then ba (bef 32 (aft 32 (aft 32 l))) else ⟨#[]⟩))
theorem pI_is {d : Ded} {l : List UInt8} (h : DtIs d l) : pI l = some d := by
 obtain ⟨k, l', s⟩ := d
 obtain ⟨n, hn, h1, h2⟩ := h
 obtain ⟨r1, r2⟩ := two_read n hn
 simp only at h1 h2
 subst h1
 rcases h2 with ⟨rfl, hs, rfl⟩ | ⟨rfl, hs, rfl⟩ | ⟨rfl, hs, rfl⟩
 ·
  unfold pI
  rw [bef_at (by decide), aft_at (by decide), bef_none r2, aft_none r2, r1]
  simp only [wordK, wcall, wdrop]
  have : s = ba [] := by rw [← hs, ba_tl]
  subst this
  rfl
 ·
  unfold pI
  rw [bef_at (by decide), aft_at (by decide), bef_at r2, aft_at r2, r1, ba_tl]
  rfl
 ·
  unfold pI
  rw [bef_at (by decide), aft_at (by decide), bef_at r2, aft_at r2, r1, ba_tl]
  rfl
theorem pS_is {d : Ded} {l : List UInt8} (h : DtIs d l) : pS l = d := by
 obtain ⟨k, l', s⟩ := d
 obtain ⟨n, hn, h1, h2⟩ := h
 obtain ⟨r1, r2⟩ := two_read n hn
 have r3 := read_more r1 (show 2 ≤ 4 by omega)
 simp only at h1 h2
 subst h1
 rcases h2 with ⟨rfl, hs, rfl⟩ | ⟨rfl, hs, rfl⟩ | ⟨rfl, hs, rfl⟩
 ·
  unfold pS
  rw [bef_at (by decide), aft_at (by decide), bef_none r2, r3, if_pos (by simp), if_neg (by simp [r2])]
  have : s = ba [] := by rw [← hs, ba_tl]
  subst this
  rfl
 ·
  unfold pS
  rw [bef_at (by decide), aft_at (by decide), bef_at r2, aft_at r2, bef_none hs, r3, if_pos (by simp), if_pos (by simp), ba_tl]
  rfl
 ·
  unfold pS
  rw [bef_at (by decide), aft_at (by decide), bef_at r2, aft_at r2, bef_none hs, r3, if_pos (by simp), if_pos (by simp), ba_tl]
  rfl
/-- The deed that a text tells. -/
theorem dt_one {d e : Ded} (h : (dt d).size ≠ 0) (he : dt d = dt e) : d = e := by
 have h1 := pI_is (dt_is h)
 have h2 := pI_is (dt_is (d := e) (by rw [← he]; exact h))
 rw [he, h2] at h1
 exact (Option.some.inj h1).symm
open Classical in
noncomputable def rdeed (s : ByteArray) : Ded × Bool := if h : s.size ≠ 0 ∧ ∃ d, dt d = s then (Classical.choose h.2, true) else ((0, 0, ⟨#[]⟩), false)
theorem rdeed_some {s : ByteArray} {d : Ded} (h0 : s.size ≠ 0) (h : dt d = s) : rdeed s = (d, true) := by
 unfold rdeed
 have hh : s.size ≠ 0 ∧ ∃ d, dt d = s := ⟨h0, d, h⟩
 rw [dif_pos hh]
 have := Classical.choose_spec hh.2
 rw [dt_one (d := Classical.choose hh.2) (e := d) (by rw [this]; exact h0) (by rw [this, h])]
theorem rdeed_empty {s : ByteArray} (h0 : s.size = 0) : rdeed s = ((0, 0, ⟨#[]⟩), false) := by
 unfold rdeed; rw [dif_neg (fun h => h.1 h0)]
theorem rdeed_pI {s : ByteArray} (h : pI (tl s) = none) : rdeed s = ((0, 0, ⟨#[]⟩), false) := by
 unfold rdeed
 rw [dif_neg]
 rintro ⟨h0, d, rfl⟩
 rw [pI_is (dt_is h0)] at h
 cases h
theorem rdeed_pI_ne {s : ByteArray} {d : Ded} (h : pI (tl s) = some d) (hd : dt d ≠ s) : rdeed s = ((0, 0, ⟨#[]⟩), false) := by
 unfold rdeed
 rw [dif_neg]
 rintro ⟨h0, e, rfl⟩
 rw [pI_is (dt_is h0)] at h
 cases h
 exact hd rfl
theorem rdeed_pS_ne {s : ByteArray} (hd : dt (pS (tl s)) ≠ s) : rdeed s = ((0, 0, ⟨#[]⟩), false) := by
 unfold rdeed
 rw [dif_neg]
 rintro ⟨h0, e, rfl⟩
 rw [pS_is (dt_is h0)] at hd
 exact hd rfl
theorem rdeed_true {s : ByteArray} {d : Ded} (h : rdeed s = (d, true)) : dt d = s ∧ s.size ≠ 0 := by
 unfold rdeed at h
 split at h
 ·
  rename_i hh
  have := Classical.choose_spec hh.2
  cases h
  exact ⟨this, hh.1⟩
 ·
  cases h
/-! The pieces between the bytes c. -/
def splitL (c : UInt8) : List UInt8 → List UInt8 → List (List UInt8)
 | [], cur => [cur]
 | x :: xs, cur => if x = c then cur :: splitL c xs [] else splitL c xs (cur ++ [x])
theorem splitL_cons (c x : UInt8) (xs cur : List UInt8) : splitL c (x :: xs) cur = if x = c then cur :: splitL c xs [] else splitL c xs (cur ++ [x]) := by rw [splitL]
theorem split_head (c : UInt8) : ∀ (l cur : List UInt8), (splitL c l cur)[0]? = some (cur ++ bef c l) ∧ (splitL c l cur).length = 1 + l.count c := by
 intro l
 induction l with
 | nil => intro cur; simp [splitL, bef]
 | cons x xs ih =>
  intro cur
  rw [splitL_cons]
  split
  ·
   rename_i e
   subst e
   obtain ⟨h1, h2⟩ := ih []
   exact ⟨by simp [bef, ix, List.findIdx_cons], by simp [h2]; omega⟩
  ·
   rename_i e
   obtain ⟨h1, h2⟩ := ih (cur ++ [x])
   refine ⟨?_, ?_⟩
   ·
    rw [h1]
    have : (x == c) = false := by simpa using e
    simp [bef, ix, List.findIdx_cons, this]
   ·
    rw [h2, List.count_cons_of_ne e]
theorem split_tail (c : UInt8) : ∀ (l cur : List UInt8), c ∈ l → splitL c l cur = (cur ++ bef c l) :: splitL c (aft c l) [] := by
 intro l
 induction l with
 | nil => intro cur h; simp at h
 | cons x xs ih =>
  intro cur h
  rw [splitL_cons]
  split
  ·
   rename_i e
   subst e
   simp [bef, aft, ix, List.findIdx_cons]
  ·
   rename_i e
   have hb : (x == c) = false := by simpa using e
   rw [ih (cur ++ [x]) (by simpa [Ne.symm e] using h)]
   simp [bef, aft, ix, List.findIdx_cons, hb]
theorem split_one (c : UInt8) {l cur : List UInt8} (h : c ∉ l) : splitL c l cur = [cur ++ l] := by
 induction l generalizing cur with
 | nil => simp [splitL]
 | cons x xs ih =>
  rw [splitL_cons, if_neg (fun e => h (by simp [e])), ih (fun e => h (by simp [e]))]
  simp
/-- A loop over the letters: where it stands. -/
theorem split_step {c : UInt8} {l : List UInt8} {k f : Nat} {x : UInt8} (hx : l[k]? = some x) (hf : f ≤ k) : splitL c (l.drop k) ((l.take k).drop f) = if x = c then ((l.take k).drop f) :: splitL c (l.drop (k + 1)) ((l.take (k + 1)).drop (k + 1)) else splitL c (l.drop (k + 1)) ((l.take (k + 1)).drop f) := by
 obtain ⟨hk, rfl⟩ := List.getElem?_eq_some_iff.1 hx
 rw [List.drop_eq_getElem_cons hk, splitL_cons]
 have h1 : (l.take (k + 1)).drop (k + 1) = [] := by rw [List.drop_eq_nil_iff]; simp; omega
 have h2 : (l.take (k + 1)).drop f = (l.take k).drop f ++ [l[k]] := by
  rw [List.take_succ_eq_append_getElem hk, List.drop_append_of_le_length (by simp; omega)]
 rw [h1, h2]

end Go.Proofs.YtedadhoneebfnaaGreatDoor

/- Journals read, plain: line by line up to the first that tells no deed. No program in sight. -/
namespace Go.Proofs.YtedadhoneebfnaaGreatDoor

theorem ix_le (c : UInt8) (l : List UInt8) : ix c l ≤ l.length := by unfold ix; exact List.findIdx_le_length
theorem ix_mem {c : UInt8} {l : List UInt8} : c ∈ l ↔ ix c l < l.length := by
 unfold ix
 rw [List.findIdx_lt_length]
 constructor
 ·
  intro h; exact ⟨c, h, by simp⟩
 ·
  rintro ⟨x, hx, e⟩
  have : x = c := by simpa using e
  exact this ▸ hx
theorem bef_len {c : UInt8} {l : List UInt8} : (bef c l).length = ix c l := by unfold bef; rw [List.length_take]; have := ix_le c l; omega
theorem aft_len {c : UInt8} {l : List UInt8} : (aft c l).length = l.length - (ix c l + 1) := by unfold aft; rw [List.length_drop]
theorem aft_lt {c : UInt8} {l : List UInt8} (h : c ∈ l) : (aft c l).length < l.length := by rw [aft_len]; have := ix_mem.1 h; omega
theorem bef_not (c : UInt8) (l : List UInt8) : c ∉ bef c l := by
 intro h
 unfold bef at h
 obtain ⟨j, hj⟩ := List.mem_iff_getElem?.1 h
 obtain ⟨hl, e⟩ := List.getElem?_eq_some_iff.1 hj
 have hl2 := hl
 rw [List.length_take] at hl2
 rw [List.getElem_take] at e
 have := List.not_of_lt_findIdx (p := (· == c)) (xs := l) (i := j) (by unfold ix at hl2; omega)
 simp [e] at this
/-- Cut at its first byte c. -/
theorem cut_mem {c : UInt8} {l : List UInt8} (h : c ∈ l) : l = bef c l ++ c :: aft c l := by
 have h1 := ix_mem.1 h
 unfold bef aft
 have h2 : l[ix c l] = c := by
  have := List.findIdx_getElem (xs := l) (p := (· == c)) (w := by unfold ix at h1; exact h1)
  simp only [beq_iff_eq] at this
  exact this
 conv => lhs; rw [← List.take_append_drop (ix c l) l, List.drop_eq_getElem_cons h1, h2]
theorem cut_is {c : UInt8} {l p r : List UInt8} (h : l = p ++ c :: r) (hp : c ∉ p) : c ∈ l ∧ bef c l = p ∧ aft c l = r := by
 subst h
 exact ⟨by simp, bef_at hp, aft_at hp⟩

noncomputable def jF : Nat → List UInt8 → List Ded × Nat
 | 0, _ => ([], 0)
 | n + 1, l => if (10 : UInt8) ∈ l ∧ (rdeed (ba (bef 10 l))).2 = true then ((rdeed (ba (bef 10 l))).1 :: (jF n (aft 10 l)).1, (bef 10 l).length + 1 + (jF n (aft 10 l)).2) else ([], 0)
theorem jF_fuel : ∀ (n m : Nat) (l : List UInt8), l.length < n → l.length < m → jF n l = jF m l := by
 intro n
 induction n with
 | zero => intro m l h; omega
 | succ n ih =>
  intro m l h1 h2
  cases m with
  | zero => omega
  | succ m =>
   unfold jF
   by_cases h : (10 : UInt8) ∈ l ∧ (rdeed (ba (bef 10 l))).2 = true
   ·
    rw [if_pos h, if_pos h]
    have := aft_lt h.1
    rw [ih m (aft 10 l) (by omega) (by omega)]
   ·
    rw [if_neg h, if_neg h]
/-- The deeds of the lines with which a text begins, and how many bytes these lines have. -/
noncomputable def jL (l : List UInt8) : List Ded × Nat := jF (l.length + 1) l
theorem jL_no {l : List UInt8} (h : ¬ ((10 : UInt8) ∈ l ∧ (rdeed (ba (bef 10 l))).2 = true)) : jL l = ([], 0) := by unfold jL jF; rw [if_neg h]
theorem jL_step {l : List UInt8} {d : Ded} (h : (10 : UInt8) ∈ l) (hd : rdeed (ba (bef 10 l)) = (d, true)) : jL l = (d :: (jL (aft 10 l)).1, (bef 10 l).length + 1 + (jL (aft 10 l)).2) := by
 have := aft_lt h
 unfold jL
 conv => lhs; unfold jF
 rw [if_pos ⟨h, by rw [hd]⟩, hd, jF_fuel l.length ((aft 10 l).length + 1) (aft 10 l) (by omega) (by omega)]
/-- The deeds ds and the first b bytes have been read. -/
structure JAt (l : List UInt8) (b : Nat) (ds : List Ded) : Prop where
 le : b ≤ l.length
 few : ds.length ≤ b
 is : jL l = (ds ++ (jL (l.drop b)).1, b + (jL (l.drop b)).2)
theorem JAt.start (l : List UInt8) : JAt l 0 [] := ⟨Nat.zero_le _, Nat.le_refl _, by simp⟩
theorem JAt.fin {l : List UInt8} {b : Nat} {ds : List Ded} (h : JAt l b ds) (hn : ¬ ((10 : UInt8) ∈ l.drop b ∧ (rdeed (ba (bef 10 (l.drop b)))).2 = true)) : jL l = (ds, b) := by
 rw [h.is, jL_no hn]; simp
theorem JAt.step {l : List UInt8} {b : Nat} {ds : List Ded} {d : Ded} (h : JAt l b ds) (hm : (10 : UInt8) ∈ l.drop b) (hd : rdeed (ba (bef 10 (l.drop b))) = (d, true)) : JAt l (b + ((bef 10 (l.drop b)).length + 1)) (ds ++ [d]) := by
 have h1 := ix_mem.1 hm
 have h2 := h.le
 have h3 := h.few
 have hl : (bef 10 (l.drop b)).length = ix 10 (l.drop b) := bef_len
 rw [List.length_drop] at h1
 refine ⟨by omega, by simp; omega, ?_⟩
 have ha : aft 10 (l.drop b) = l.drop (b + ((bef 10 (l.drop b)).length + 1)) := by
  rw [hl]; unfold aft; rw [List.drop_drop]
 rw [h.is, jL_step hm hd, ha]
 simp only [List.append_assoc, List.cons_append, List.nil_append, Prod.mk.injEq, true_and]
 omega

end Go.Proofs.YtedadhoneebfnaaGreatDoor

/- What the laws on the texts of deeds and journals ask, plain. No program in sight. -/
namespace Go.Proofs.YtedadhoneebfnaaGreatDoor

theorem rdeed_dt {d : Ded} (h : (dt d).size ≠ 0) : rdeed (dt d) = (d, true) := rdeed_some h rfl
/-! Journals. -/
theorem jfold_tl (zs : List Ded) : ∀ a : ByteArray, tl (zs.foldl (fun a d => a ++ dt d ++ ⟨#[10]⟩) a) = tl a ++ tl (jcat zs) := by
 induction zs with
 | nil => intro a; simp [jcat, tl]
 | cons z zs ih =>
  intro a
  have h1 := ih (a ++ dt z ++ ⟨#[10]⟩)
  have h2 := ih (⟨#[]⟩ ++ dt z ++ ⟨#[10]⟩)
  simp only [jcat, List.foldl_cons] at h1 h2 ⊢
  rw [h1, h2]
  simp only [tl_app]
  have : tl (⟨#[]⟩ : ByteArray) = [] := rfl
  rw [this]; simp
theorem jcat_cons (z : Ded) (zs : List Ded) : tl (jcat (z :: zs)) = tl (dt z) ++ 10 :: tl (jcat zs) := by
 have h2 := jfold_tl zs (⟨#[]⟩ ++ dt z ++ ⟨#[10]⟩)
 simp only [jcat, List.foldl_cons] at h2 ⊢
 rw [h2]
 simp only [tl_app]
 have h1 : tl (⟨#[]⟩ : ByteArray) = [] := rfl
 have h3 : tl (⟨#[10]⟩ : ByteArray) = [10] := rfl
 rw [h1, h3]; simp
theorem jtxt_yes {zs : List Ded} (h : jok zs = true) : jtxt zs = jcat zs := by unfold jtxt; rw [if_pos h]
/-- What is read is what stood there. -/
theorem jback : ∀ (n : Nat) (l : List UInt8), l.length ≤ n → tl (jcat (jL l).1) = l.take (jL l).2 ∧ (jL l).2 ≤ l.length ∧ jok (jL l).1 = true ∧ (jL l).1.length ≤ (jL l).2 := by
 intro n
 induction n with
 | zero =>
  intro l hl
  have : l = [] := List.length_eq_zero_iff.1 (by omega)
  subst this
  rw [jL_no (by simp)]
  exact ⟨rfl, Nat.le_refl _, rfl, Nat.le_refl _⟩
 | succ n ih =>
  intro l hl
  by_cases h : (10 : UInt8) ∈ l ∧ (rdeed (ba (bef 10 l))).2 = true
  ·
   obtain ⟨d, hd⟩ : ∃ d, rdeed (ba (bef 10 l)) = (d, true) := ⟨_, Prod.ext rfl h.2⟩
   have hlt := aft_lt h.1
   obtain ⟨i1, i2, i3, i4⟩ := ih (aft 10 l) (by omega)
   obtain ⟨t1, t2⟩ := rdeed_true hd
   have hl2 := cut_mem h.1
   rw [jL_step h.1 hd]
   simp only
   refine ⟨?_, ?_, ?_, ?_⟩
   ·
    rw [jcat_cons, t1, tl_ba, i1]
    have hk : ∀ (p r : List UInt8) (m : Nat), (p ++ 10 :: r).take (p.length + 1 + m) = p ++ 10 :: r.take m := by
     intro p r m
     rw [Nat.add_assoc, List.take_length_add_append, Nat.add_comm 1, List.take_succ_cons]
    have h9 := hk (bef 10 l) (aft 10 l) (jL (aft 10 l)).2
    rw [← hl2] at h9
    exact h9.symm
   ·
    have := congrArg List.length hl2
    rw [List.length_append, List.length_cons] at this
    omega
   ·
    simp only [jok, List.all_cons, Bool.and_eq_true, decide_eq_true_eq] at i3 ⊢
    exact ⟨by rw [t1]; exact t2, i3⟩
   ·
    simp only [List.length_cons]; omega
  ·
   rw [jL_no h]
   exact ⟨by simp [jcat, tl], Nat.zero_le _, rfl, Nat.le_refl _⟩
/-- Of a beginning the first ones are read. -/
theorem jprefix : ∀ (n : Nat) (l : List UInt8) (k : Nat), l.length ≤ n → (jL (l.take k)).1 <+: (jL l).1 := by
 intro n
 induction n with
 | zero =>
  intro l k hl
  have : l = [] := List.length_eq_zero_iff.1 (by omega)
  subst this
  simp
 | succ n ih =>
  intro l k hl
  by_cases h : (10 : UInt8) ∈ l.take k ∧ (rdeed (ba (bef 10 (l.take k)))).2 = true
  ·
   obtain ⟨d, hd⟩ : ∃ d, rdeed (ba (bef 10 (l.take k))) = (d, true) := ⟨_, Prod.ext rfl h.2⟩
   have h2 := cut_mem h.1
   have h3 : l = bef 10 (l.take k) ++ 10 :: (aft 10 (l.take k) ++ l.drop k) := by
    conv => lhs; rw [← List.take_append_drop k l, h2]
    simp
   obtain ⟨c1, c2, c3⟩ := cut_is h3 (bef_not 10 _)
   have hd' : rdeed (ba (bef 10 l)) = (d, true) := by rw [c2]; exact hd
   rw [jL_step h.1 hd, jL_step c1 hd']
   simp only
   have hlt := aft_lt c1
   have h5 : aft 10 (l.take k) = (aft 10 l).take (aft 10 (l.take k)).length := by rw [c3]; simp
   rw [h5, List.prefix_cons_inj]
   exact ih (aft 10 l) _ (by omega)
  ·
   rw [jL_no h]
   exact List.nil_prefix

end Go.Proofs.YtedadhoneebfnaaGreatDoor

/- Contracts of strings.Cut and stringslite.Cut at one byte. -/
namespace Go.Proofs.YtedadhoneebfnaaGreatDoor
open Go.RowKit

theorem index_ix (l : List UInt8) (c : UInt8) : Lib.indexByte l c = if ix c l < l.length then (ix c l : Int) else -1 := by
 induction l with
 | nil => simp [Lib.indexByte, ix]
 | cons x xs ih =>
  unfold Lib.indexByte
  by_cases h : x == c
  ·
   rw [if_pos h]; simp [ix, List.findIdx_cons, h]
  ·
   rw [if_neg h, ih]
   have e : ix c (x :: xs) = ix c xs + 1 := by simp [ix, List.findIdx_cons, h]
   rw [e]
   by_cases h2 : ix c xs < xs.length
   ·
    rw [if_pos h2, if_neg (by first | (simp; done) | (simp; omega)), if_pos (by first | (simp; done) | (simp; omega))]; first | rfl | omega
   ·
    rw [if_neg h2, if_pos (by decide), if_neg (by first | (simp; done) | (simp; omega))]
theorem cut_bef (s : ByteArray) (c : UInt8) : s.extract 0 (ix c (tl s)) = ba (bef c (tl s)) := by
 apply bytes_ext; simp [ba, bef, tl, ByteArray.data_extract]
theorem cut_aft (s : ByteArray) (c : UInt8) : s.extract (ix c (tl s) + 1) s.size = ba (aft c (tl s)) := by
 apply bytes_ext; simp [ba, aft, tl, ByteArray.data_extract]
 exact List.take_of_length_le (by rw [List.length_drop]; simp)
theorem cut_none {s : ByteArray} {c : UInt8} (h : ¬ ix c (tl s) < s.size) : s = ba (bef c (tl s)) ∧ (⟨#[]⟩ : ByteArray) = ba (aft c (tl s)) := by
 have h1 := tl_size s
 constructor
 ·
  apply bytes_ext; rw [ba, bef, List.take_of_length_le (by omega)]
 ·
  apply bytes_ext; simp [ba, aft]; omega
def CutPost (s : ByteArray) (c : UInt8) (w : World) (e : Ending) (w' : World) : Prop := ∃ q, e = .returned (.tuple #[.string (ba (bef c (tl s))), .string (ba (aft c (tl s))), .bool (decide (ix c (tl s) < s.size))]) ∧ w' = w.drewN q

set_option maxRecDepth 100000 in
set_option maxHeartbeats 1000000 in
theorem cut0_any (s : ByteArray) (c : UInt8) (w : World) (hs : s.size ≤ maxLen) :
  Calls Tryz.prog 92 #[.string s, .string ⟨#[c]⟩] w (CutPost s c w) := by
 have HI := Lib.hid (index_ix (tl s) c)
 have HZ := Lib.hid (tl_size s)
 unfold maxLen at hs
 go_enter Tryz.func92, Tryz.ntmps92
 go_wp2_with fail
 refine (Tryz.stringslite_Index_one s c _).mono ?_
 rintro e w1 ⟨rfl, rfl⟩
 by_cases h : ix c (tl s) < s.size
 ·
  have HV : Hid (Lib.indexByte (tl s) c = (ix c (tl s) : Int)) := by rw [Hid, HI.out, HZ.out, if_pos h]
  rw [HV.out]
  obtain ⟨k, hk⟩ : ∃ k, ix c (tl s) = k := ⟨_, rfl⟩
  have HK := Lib.hid hk
  rw [hk] at h
  rw [hk]
  have HCB := Lib.hid (cut_bef s c)
  have HCA := Lib.hid (cut_aft s c)
  have hs1 : IntKind.i64.wrap ((k : Int) + 1) = (k : Int) + 1 := IntWalk.i64_in _ (by omega)
  have hs2 : (0 : Int) ≤ (k : Int) + 1 := by omega
  have hs3 : ((k : Int) + 1).toNat = k + 1 := by omega
  have hs4 : (k : Int) + 1 ≤ (s.size : Int) := by omega
  have hs5 : (k : Int) ≤ (s.size : Int) := by omega
  have hs6 : (0 : Int) ≤ (k : Int) := by omega
  clear hk HV HI
  go_wp2_with fail
  go_quiet (fail)
  go_wp2
  go_returns
  refine ⟨_, ?_, rfl⟩
  rw [← HCB.out, ← HCA.out, HK.out, decide_eq_true h]
  rfl
 ·
  have HV : Hid (Lib.indexByte (tl s) c = -1) := by rw [Hid, HI.out, HZ.out, if_neg h]
  rw [HV.out]
  have HCN := Lib.hid (cut_none h)
  have HH := Lib.hid h
  clear HV HI h
  go_wp2
  go_returns
  refine ⟨0, ?_, rfl⟩
  rw [← HCN.out.1, ← HCN.out.2, decide_eq_false HH.out]
  rfl

set_option maxRecDepth 100000 in
set_option maxHeartbeats 1000000 in
theorem cut_any (s : ByteArray) (c : UInt8) (w : World) (hs : s.size ≤ maxLen) :
  Calls Tryz.prog 53 #[.string s, .string ⟨#[c]⟩] w (CutPost s c w) := by
 have HS := Lib.hid hs
 clear hs
 go_enter Tryz.func53, Tryz.ntmps53
 go_wp2_with fail
 refine (cut0_any s c _ HS.out).mono ?_
 rintro e w1 ⟨q, rfl, rfl⟩
 go_wp2
 go_returns
 exact ⟨q, rfl, rfl⟩

end Go.Proofs.YtedadhoneebfnaaGreatDoor

/- Contracts of readNumber (program) and l1Read (reference). -/
namespace Go.Proofs.YtedadhoneebfnaaGreatDoor
open Go.RowKit

theorem tl_at (s : ByteArray) (k : Nat) (h : k < s.size) : (tl s)[k]? = some s[k] := by
 rw [List.getElem?_eq_getElem (by simpa using h)]; rfl
/-- What is read of the first k digits. -/
def valTo (l : List UInt8) (k : Nat) : Int := valL (l.take k)
theorem valTo_step {l : List UInt8} {k : Nat} {c : UInt8} (h : l[k]? = some c) : valTo l (k + 1) = 10 * valTo l k + ((c.toNat : Int) - 48) := by
 obtain ⟨hk, rfl⟩ := List.getElem?_eq_some_iff.1 h
 unfold valTo valL
 rw [List.take_succ_eq_append_getElem hk, List.foldl_append]; rfl
theorem valTo_bd {l : List UInt8} {k : Nat} (hk : k ≤ 4) (h : (l.take k).all dgB = true) : 0 ≤ valTo l k ∧ valTo l k ≤ 9999 := by
 have key : ∀ k, k ≤ 4 → (l.take k).all dgB = true → 0 ≤ valTo l k ∧ valTo l k < 10 ^ k := by
  intro k
  induction k with
  | zero => intro _ _; simp [valTo, valL]
  | succ k ih =>
   intro hk h
   by_cases hl : k < l.length
   ·
    have hc : l[k]? = some l[k] := List.getElem?_eq_getElem hl
    rw [List.take_succ_eq_append_getElem hl, List.all_append] at h
    simp only [Bool.and_eq_true, List.all_cons, List.all_nil, Bool.and_true] at h
    obtain ⟨h1, h2⟩ := ih (by omega) h.1
    have hd := h.2
    simp only [dgB, Bool.and_eq_true, decide_eq_true_eq] at hd
    rw [valTo_step hc, Int.pow_succ]
    omega
   ·
    have : l.take (k + 1) = l.take k := by rw [List.take_of_length_le (by omega), List.take_of_length_le (by omega)]
    have h2 := ih (by omega) (by rw [← this]; exact h)
    have e : valTo l (k + 1) = valTo l k := by unfold valTo; rw [this]
    rw [e, Int.pow_succ]
    have : (0 : Int) < 10 ^ k := Int.pow_pos (by omega)
    omega
 obtain ⟨h1, h2⟩ := key k hk h
 refine ⟨h1, ?_⟩
 have : k = 0 ∨ k = 1 ∨ k = 2 ∨ k = 3 ∨ k = 4 := by omega
 rcases this with rfl | rfl | rfl | rfl | rfl <;> simp at h2 <;> omega
theorem read_len {l : List UInt8} {m : Nat} (h : l.length < 1 ∨ m < l.length) : readL m l = none := by
 unfold readL; rw [if_pos]; rcases h with h | h; exact .inl h; exact .inr (.inl h)
theorem read_zero {l : List UInt8} {m : Nat} (h : 1 < l.length) (h0 : l[0]? = some 48) : readL m l = none := by
 unfold readL; rw [if_pos]; exact .inr (.inr ⟨h, h0⟩)
theorem read_bad {l : List UInt8} {m k : Nat} {c : UInt8} (hc : l[k]? = some c) (h : dgB c = false) : readL m l = none := by
 unfold readL
 split
 ·
  rfl
 ·
  rw [if_neg]
  intro ha
  have := List.all_eq_true.1 ha c (List.mem_of_getElem? hc)
  rw [h] at this; cases this
theorem read_good {l : List UInt8} {m : Nat} (h1 : 1 ≤ l.length) (h2 : l.length ≤ m) (h3 : ¬ (1 < l.length ∧ l[0]? = some 48)) (h : l.all dgB = true) : readL m l = some (valL l) := by
 unfold readL
 rw [if_neg (by simp only [not_or]; exact ⟨by omega, by omega, h3⟩), if_pos h]
theorem all_snoc {l : List UInt8} {k : Nat} {c : UInt8} (hc : l[k]? = some c) (h : (l.take k).all dgB = true) (hd : dgB c = true) : (l.take (k + 1)).all dgB = true := by
 obtain ⟨hk, rfl⟩ := List.getElem?_eq_some_iff.1 hc
 rw [List.take_succ_eq_append_getElem hk, List.all_append, h]; simp [hd]

def RnPost (m : Nat) (s : ByteArray) (w : World) (e : Ending) (w' : World) : Prop := e = .returned (.tuple #[.int .i64 ((readL m (tl s)).getD 0), .bool (readL m (tl s)).isSome]) ∧ w = w'
theorem rn_none {m : Nat} {s : ByteArray} (h : readL m (tl s) = none) (w : World) : RnPost m s w (.returned (.tuple #[.int .i64 0, .bool false])) w := by
 unfold RnPost; rw [h]; exact ⟨rfl, rfl⟩

set_option maxRecDepth 100000 in
set_option maxHeartbeats 2000000 in
theorem readNumber_any (s : ByteArray) (m : Nat) (hm : m ≤ 4) (w : World) (hs : s.size ≤ maxLen) :
  Calls Tryz.prog 93 #[.string s, .int .i64 m] w (RnPost m s w) := by
 have HZ := Lib.hid (tl_size s)
 unfold maxLen at hs
 by_cases h0 : s.size < 1
 ·
  have HF := Lib.hid (read_len (m := m) (l := tl s) (.inl (by rw [HZ.out]; exact h0)))
  have hd1 : decide ((s.size : Int) < 1) = true := by simp; omega
  have hd4 : decide ((1 : Int) ≤ (s.size : Int)) = false := by simp; omega
  go_enter Tryz.func93, Tryz.ntmps93
  go_wp2
  go_returns
  exact rn_none HF.out _
 by_cases h1 : m < s.size
 ·
  have HF := Lib.hid (read_len (m := m) (l := tl s) (.inr (by rw [HZ.out]; exact h1)))
  have hd1 : decide ((s.size : Int) < 1) = false := by simp; omega
  have hd4 : decide ((1 : Int) ≤ (s.size : Int)) = true := by simp; omega
  go_enter Tryz.func93, Tryz.ntmps93
  go_wp2
  go_returns
  exact rn_none HF.out _
 have hd1 : decide ((s.size : Int) < 1) = false := by simp; omega
 have hd4 : decide ((1 : Int) ≤ (s.size : Int)) = true := by simp; omega
 have hc0 := tl_at s 0 (by omega)
 by_cases h2 : 1 < s.size ∧ s[0] = 48
 ·
  have HF := Lib.hid (read_zero (m := m) (l := tl s) (by rw [HZ.out]; exact h2.1) (by rw [hc0, h2.2]))
  obtain ⟨h3, h4⟩ := h2
  have h5 : (((s[0]'(by omega)).toNat : Int) == 48) = true := by rw [h4]; rfl
  have h6 : (1 : Int) < (s.size : Int) := by omega
  clear hc0 h4
  go_enter Tryz.func93, Tryz.ntmps93
  go_wp2
  go_returns
  exact rn_none HF.out _
 have HNZ : Hid (¬ (1 < (tl s).length ∧ (tl s)[0]? = some 48)) := by
  rintro ⟨h3, h4⟩
  rw [hc0] at h4
  exact h2 ⟨by rw [← HZ.out]; exact h3, Option.some.inj h4⟩
 have hz1 : 1 < s.size → (((s[0]'(by omega)).toNat : Int) == 48) = false := by
  intro h3
  have h4 : ¬ s[0]'(by omega) = 48 := fun e => h2 ⟨h3, e⟩
  simp only [beq_eq_false_iff_ne, ne_eq]
  intro e
  exact h4 (UInt8.toNat_inj.1 (by show _ = 48; omega))
 clear hc0 h2
 have hsz : s.size = 1 ∨ 1 < s.size := by omega
 rcases hsz with hsz | hsz
 ·
  have hz2 : ¬ (1 : Int) < (s.size : Int) := by omega
  have hz9 : decide ((1 : Int) < (s.size : Int)) = false := by simpa using hz2
  clear hz1 hsz
  go_enter Tryz.func93, Tryz.ntmps93
  go_wp2_with fail
  go_loop [6, 29] (fun nu i => ∃ k : Nat, k ≤ s.size ∧ i = .int .i64 k ∧ nu = .int .i64 (valTo (tl s) k) ∧ Hid (((tl s).take k).all dgB = true)) (fun _ i => s.size - (intOf i).toNat)
  case atStart => exact ⟨0, by omega, rfl, rfl, rfl⟩
  case round =>
   obtain ⟨k, hk, rfl, rfl, hall⟩ := hrel
   by_cases hkn : k < s.size
   ·
    have HC := Lib.hid (tl_at s k hkn)
    have hbd := valTo_bd (l := tl s) (k := k) (by omega) hall.out
    obtain ⟨x, hx⟩ : ∃ x, valTo (tl s) k = x := ⟨_, rfl⟩
    rw [hx] at hbd ⊢
    have HX := Lib.hid hx
    obtain ⟨hx0, hx1⟩ := hbd
    clear hx
    by_cases hb : 48 ≤ (s[k].toNat : Int) ∧ (s[k].toNat : Int) ≤ 57
    ·
     obtain ⟨q1, q2⟩ := hb
     have q3 : (s[k].toNat : Int) < 58 := by omega
     have hd : dgB s[k] = true := by simp only [dgB, q1, q2, decide_true, Bool.and_self]
     have HST := Lib.hid (all_snoc HC.out hall.out hd)
     have HVS := Lib.hid (valTo_step HC.out)
     have hs5 : IntKind.u8.wrap ((s[k].toNat : Int) - 48) = (s[k].toNat : Int) - 48 := by
      rw [show ((s[k].toNat : Int) - 48) = (((s[k].toNat - 48 : Nat)) : Int) by omega]; exact IntWalk.u8_in _ (by omega)
     clear hd
     go_wp2_with fail
     go_round
     case rel => exact ⟨k + 1, by omega, by go_num, by rw [HVS.out, HX.out], HST.out⟩
     case measure => simp [intOf]; omega
    ·
     have hno : dgB s[k] = false := by simp only [dgB, Bool.and_eq_false_iff, decide_eq_false_iff_not]; omega
     have HF := Lib.hid (read_bad (m := m) HC.out hno)
     clear hno
     by_cases q1 : 48 ≤ (s[k].toNat : Int)
     ·
      have q2 : 58 ≤ (s[k].toNat : Int) := by omega
      clear hb
      go_wp2
      go_returns
      exact rn_none HF.out _
     ·
      clear hb
      go_wp2
      go_returns
      exact rn_none HF.out _
   ·
    obtain rfl : k = s.size := by omega
    have h9 := hall.out
    have HV : Hid (valTo (tl s) s.size = valL (tl s)) := by unfold Hid valTo; rw [List.take_of_length_le (by rw [HZ.out]; omega)]
    rw [List.take_of_length_le (by rw [HZ.out]; omega)] at h9
    have HG := Lib.hid (read_good (m := m) (by rw [HZ.out]; omega) (by rw [HZ.out]; omega) HNZ.out h9)
    clear h9 hall
    rw [HV.out]
    go_wp2
    go_returns
    unfold RnPost; rw [HG.out]; exact ⟨rfl, rfl⟩
 ·
  have hz2 : (1 : Int) < (s.size : Int) := by omega
  have hz9 : decide ((1 : Int) < (s.size : Int)) = true := by simpa using hz2
  have hz3 := hz1 hsz
  clear hz1
  go_enter Tryz.func93, Tryz.ntmps93
  go_wp2_with fail
  go_loop [6, 29] (fun nu i => ∃ k : Nat, k ≤ s.size ∧ i = .int .i64 k ∧ nu = .int .i64 (valTo (tl s) k) ∧ Hid (((tl s).take k).all dgB = true)) (fun _ i => s.size - (intOf i).toNat)
  case atStart => exact ⟨0, by omega, rfl, rfl, rfl⟩
  case round =>
   obtain ⟨k, hk, rfl, rfl, hall⟩ := hrel
   by_cases hkn : k < s.size
   ·
    have HC := Lib.hid (tl_at s k hkn)
    have hbd := valTo_bd (l := tl s) (k := k) (by omega) hall.out
    obtain ⟨x, hx⟩ : ∃ x, valTo (tl s) k = x := ⟨_, rfl⟩
    rw [hx] at hbd ⊢
    have HX := Lib.hid hx
    obtain ⟨hx0, hx1⟩ := hbd
    clear hx
    by_cases hb : 48 ≤ (s[k].toNat : Int) ∧ (s[k].toNat : Int) ≤ 57
    ·
     obtain ⟨q1, q2⟩ := hb
     have q3 : (s[k].toNat : Int) < 58 := by omega
     have hd : dgB s[k] = true := by simp only [dgB, q1, q2, decide_true, Bool.and_self]
     have HST := Lib.hid (all_snoc HC.out hall.out hd)
     have HVS := Lib.hid (valTo_step HC.out)
     have hs5 : IntKind.u8.wrap ((s[k].toNat : Int) - 48) = (s[k].toNat : Int) - 48 := by
      rw [show ((s[k].toNat : Int) - 48) = (((s[k].toNat - 48 : Nat)) : Int) by omega]; exact IntWalk.u8_in _ (by omega)
     clear hd
     go_wp2_with fail
     go_round
     case rel => exact ⟨k + 1, by omega, by go_num, by rw [HVS.out, HX.out], HST.out⟩
     case measure => simp [intOf]; omega
    ·
     have hno : dgB s[k] = false := by simp only [dgB, Bool.and_eq_false_iff, decide_eq_false_iff_not]; omega
     have HF := Lib.hid (read_bad (m := m) HC.out hno)
     clear hno
     by_cases q1 : 48 ≤ (s[k].toNat : Int)
     ·
      have q2 : 58 ≤ (s[k].toNat : Int) := by omega
      clear hb
      go_wp2
      go_returns
      exact rn_none HF.out _
     ·
      clear hb
      go_wp2
      go_returns
      exact rn_none HF.out _
   ·
    obtain rfl : k = s.size := by omega
    have h9 := hall.out
    have HV : Hid (valTo (tl s) s.size = valL (tl s)) := by unfold Hid valTo; rw [List.take_of_length_le (by rw [HZ.out]; omega)]
    rw [List.take_of_length_le (by rw [HZ.out]; omega)] at h9
    have HG := Lib.hid (read_good (m := m) (by rw [HZ.out]; omega) (by rw [HZ.out]; omega) HNZ.out h9)
    clear h9 hall
    rw [HV.out]
    go_wp2
    go_returns
    unfold RnPost; rw [HG.out]; exact ⟨rfl, rfl⟩

set_option maxRecDepth 100000 in
set_option maxHeartbeats 2000000 in
theorem l1Read_any (s : ByteArray) (w : World) (hs : s.size ≤ maxLen) :
  Calls Tryz.prog 76 #[.string s] w (fun e w' => e = .returned (.int .i64 ((readL 4 (tl s)).getD (-1))) ∧ w = w') := by
 have HZ := Lib.hid (tl_size s)
 unfold maxLen at hs
 by_cases h0 : s.size < 1
 ·
  have HF := Lib.hid (read_len (m := 4) (l := tl s) (.inl (by rw [HZ.out]; exact h0)))
  have hd1 : decide ((s.size : Int) < 1) = true := by simp; omega
  have hd4 : decide ((1 : Int) ≤ (s.size : Int)) = false := by simp; omega
  go_enter Tryz.func76, Tryz.ntmps76
  go_wp2_with fail
  refine (sIn_any _ _ _ _).mono ?_
  rintro e w1 ⟨rfl, rfl⟩
  have hd5 : (decide ((1 : Int) ≤ (s.size : Int)) && decide ((s.size : Int) ≤ 4)) = false := by simp; omega
  rw [hd5]
  clear hd5
  go_wp2
  go_returns
  exact ⟨by rw [HF.out]; rfl, rfl⟩
 by_cases h1 : 4 < s.size
 ·
  have HF := Lib.hid (read_len (m := 4) (l := tl s) (.inr (by rw [HZ.out]; exact h1)))
  have hd1 : decide ((s.size : Int) < 1) = false := by simp; omega
  have hd4 : decide ((1 : Int) ≤ (s.size : Int)) = true := by simp; omega
  go_enter Tryz.func76, Tryz.ntmps76
  go_wp2_with fail
  refine (sIn_any _ _ _ _).mono ?_
  rintro e w1 ⟨rfl, rfl⟩
  have hd5 : (decide ((1 : Int) ≤ (s.size : Int)) && decide ((s.size : Int) ≤ 4)) = false := by simp; omega
  rw [hd5]
  clear hd5
  go_wp2
  go_returns
  exact ⟨by rw [HF.out]; rfl, rfl⟩
 have hd1 : decide ((s.size : Int) < 1) = false := by simp; omega
 have hd4 : decide ((1 : Int) ≤ (s.size : Int)) = true := by simp; omega
 have hc0 := tl_at s 0 (by omega)
 by_cases h2 : 1 < s.size ∧ s[0] = 48
 ·
  have HF := Lib.hid (read_zero (m := 4) (l := tl s) (by rw [HZ.out]; exact h2.1) (by rw [hc0, h2.2]))
  obtain ⟨h3, h4⟩ := h2
  have h5 : (((s[0]'(by omega)).toNat : Int) == 48) = true := by rw [h4]; rfl
  have h6 : (1 : Int) < (s.size : Int) := by omega
  clear hc0 h4
  go_enter Tryz.func76, Tryz.ntmps76
  go_wp2_with fail
  refine (sIn_any _ _ _ _).mono ?_
  rintro e w1 ⟨rfl, rfl⟩
  have hd5 : (decide ((1 : Int) ≤ (s.size : Int)) && decide ((s.size : Int) ≤ 4)) = true := by simp; omega
  rw [hd5]
  clear hd5
  go_wp2
  go_returns
  exact ⟨by rw [HF.out]; rfl, rfl⟩
 have HNZ : Hid (¬ (1 < (tl s).length ∧ (tl s)[0]? = some 48)) := by
  rintro ⟨h3, h4⟩
  rw [hc0] at h4
  exact h2 ⟨by rw [← HZ.out]; exact h3, Option.some.inj h4⟩
 have hz1 : 1 < s.size → (((s[0]'(by omega)).toNat : Int) == 48) = false := by
  intro h3
  have h4 : ¬ s[0]'(by omega) = 48 := fun e => h2 ⟨h3, e⟩
  simp only [beq_eq_false_iff_ne, ne_eq]
  intro e
  exact h4 (UInt8.toNat_inj.1 (by show _ = 48; omega))
 clear hc0 h2
 have hsz : s.size = 1 ∨ 1 < s.size := by omega
 rcases hsz with hsz | hsz
 ·
  have hz2 : ¬ (1 : Int) < (s.size : Int) := by omega
  have hz9 : decide ((1 : Int) < (s.size : Int)) = false := by simpa using hz2
  clear hz1 hsz
  go_enter Tryz.func76, Tryz.ntmps76
  go_wp2_with fail
  refine (sIn_any _ _ _ _).mono ?_
  rintro e w1 ⟨rfl, rfl⟩
  have hd5 : (decide ((1 : Int) ≤ (s.size : Int)) && decide ((s.size : Int) ≤ 4)) = true := by simp; omega
  rw [hd5]
  clear hd5
  go_wp2_with fail
  go_loop [3, 4] (fun nu i => ∃ k : Nat, k ≤ s.size ∧ i = .int .i64 k ∧ nu = .int .i64 (valTo (tl s) k) ∧ Hid (((tl s).take k).all dgB = true)) (fun _ i => s.size - (intOf i).toNat)
  case atStart => exact ⟨0, by omega, rfl, rfl, rfl⟩
  case round =>
   obtain ⟨k, hk, rfl, rfl, hall⟩ := hrel
   by_cases hkn : k < s.size
   ·
    have HC := Lib.hid (tl_at s k hkn)
    have hbd := valTo_bd (l := tl s) (k := k) (by omega) hall.out
    obtain ⟨x, hx⟩ : ∃ x, valTo (tl s) k = x := ⟨_, rfl⟩
    rw [hx] at hbd ⊢
    have HX := Lib.hid hx
    obtain ⟨hx0, hx1⟩ := hbd
    clear hx
    by_cases hb : 48 ≤ (s[k].toNat : Int) ∧ (s[k].toNat : Int) ≤ 57
    ·
     obtain ⟨q1, q2⟩ := hb
     have q3 : (s[k].toNat : Int) < 58 := by omega
     have hd : dgB s[k] = true := by simp only [dgB, q1, q2, decide_true, Bool.and_self]
     have HST := Lib.hid (all_snoc HC.out hall.out hd)
     have HVS := Lib.hid (valTo_step HC.out)
     have hs5 : IntKind.u8.wrap ((s[k].toNat : Int) - 48) = (s[k].toNat : Int) - 48 := by
      rw [show ((s[k].toNat : Int) - 48) = (((s[k].toNat - 48 : Nat)) : Int) by omega]; exact IntWalk.u8_in _ (by omega)
     clear hd
     go_wp2_with fail
     go_round
     case rel => exact ⟨k + 1, by omega, by go_num, by rw [HVS.out, HX.out], HST.out⟩
     case measure => simp [intOf]; omega
    ·
     have hno : dgB s[k] = false := by simp only [dgB, Bool.and_eq_false_iff, decide_eq_false_iff_not]; omega
     have HF := Lib.hid (read_bad (m := 4) HC.out hno)
     clear hno
     by_cases q1 : 48 ≤ (s[k].toNat : Int)
     ·
      have q2 : 58 ≤ (s[k].toNat : Int) := by omega
      clear hb
      go_wp2
      go_returns
      exact ⟨by rw [HF.out]; rfl, rfl⟩
     ·
      clear hb
      go_wp2
      go_returns
      exact ⟨by rw [HF.out]; rfl, rfl⟩
   ·
    obtain rfl : k = s.size := by omega
    have h9 := hall.out
    have HV : Hid (valTo (tl s) s.size = valL (tl s)) := by unfold Hid valTo; rw [List.take_of_length_le (by rw [HZ.out]; omega)]
    rw [List.take_of_length_le (by rw [HZ.out]; omega)] at h9
    have HG := Lib.hid (read_good (m := 4) (by rw [HZ.out]; omega) (by rw [HZ.out]; omega) HNZ.out h9)
    clear h9 hall
    rw [HV.out]
    go_wp2
    go_returns
    exact ⟨by rw [HG.out]; rfl, rfl⟩
 ·
  have hz2 : (1 : Int) < (s.size : Int) := by omega
  have hz9 : decide ((1 : Int) < (s.size : Int)) = true := by simpa using hz2
  have hz3 := hz1 hsz
  clear hz1
  go_enter Tryz.func76, Tryz.ntmps76
  go_wp2_with fail
  refine (sIn_any _ _ _ _).mono ?_
  rintro e w1 ⟨rfl, rfl⟩
  have hd5 : (decide ((1 : Int) ≤ (s.size : Int)) && decide ((s.size : Int) ≤ 4)) = true := by simp; omega
  rw [hd5]
  clear hd5
  go_wp2_with fail
  go_loop [3, 4] (fun nu i => ∃ k : Nat, k ≤ s.size ∧ i = .int .i64 k ∧ nu = .int .i64 (valTo (tl s) k) ∧ Hid (((tl s).take k).all dgB = true)) (fun _ i => s.size - (intOf i).toNat)
  case atStart => exact ⟨0, by omega, rfl, rfl, rfl⟩
  case round =>
   obtain ⟨k, hk, rfl, rfl, hall⟩ := hrel
   by_cases hkn : k < s.size
   ·
    have HC := Lib.hid (tl_at s k hkn)
    have hbd := valTo_bd (l := tl s) (k := k) (by omega) hall.out
    obtain ⟨x, hx⟩ : ∃ x, valTo (tl s) k = x := ⟨_, rfl⟩
    rw [hx] at hbd ⊢
    have HX := Lib.hid hx
    obtain ⟨hx0, hx1⟩ := hbd
    clear hx
    by_cases hb : 48 ≤ (s[k].toNat : Int) ∧ (s[k].toNat : Int) ≤ 57
    ·
     obtain ⟨q1, q2⟩ := hb
     have q3 : (s[k].toNat : Int) < 58 := by omega
     have hd : dgB s[k] = true := by simp only [dgB, q1, q2, decide_true, Bool.and_self]
     have HST := Lib.hid (all_snoc HC.out hall.out hd)
     have HVS := Lib.hid (valTo_step HC.out)
     have hs5 : IntKind.u8.wrap ((s[k].toNat : Int) - 48) = (s[k].toNat : Int) - 48 := by
      rw [show ((s[k].toNat : Int) - 48) = (((s[k].toNat - 48 : Nat)) : Int) by omega]; exact IntWalk.u8_in _ (by omega)
     clear hd
     go_wp2_with fail
     go_round
     case rel => exact ⟨k + 1, by omega, by go_num, by rw [HVS.out, HX.out], HST.out⟩
     case measure => simp [intOf]; omega
    ·
     have hno : dgB s[k] = false := by simp only [dgB, Bool.and_eq_false_iff, decide_eq_false_iff_not]; omega
     have HF := Lib.hid (read_bad (m := 4) HC.out hno)
     clear hno
     by_cases q1 : 48 ≤ (s[k].toNat : Int)
     ·
      have q2 : 58 ≤ (s[k].toNat : Int) := by omega
      clear hb
      go_wp2
      go_returns
      exact ⟨by rw [HF.out]; rfl, rfl⟩
     ·
      clear hb
      go_wp2
      go_returns
      exact ⟨by rw [HF.out]; rfl, rfl⟩
   ·
    obtain rfl : k = s.size := by omega
    have h9 := hall.out
    have HV : Hid (valTo (tl s) s.size = valL (tl s)) := by unfold Hid valTo; rw [List.take_of_length_le (by rw [HZ.out]; omega)]
    rw [List.take_of_length_le (by rw [HZ.out]; omega)] at h9
    have HG := Lib.hid (read_good (m := 4) (by rw [HZ.out]; omega) (by rw [HZ.out]; omega) HNZ.out h9)
    clear h9 hall
    rw [HV.out]
    go_wp2
    go_returns
    exact ⟨by rw [HG.out]; rfl, rfl⟩


end Go.Proofs.YtedadhoneebfnaaGreatDoor

/- Slices of strings: their cells. -/
namespace Go.Proofs.YtedadhoneebfnaaGreatDoor
open Go.RowKit

def strs (ps : List ByteArray) : List Value := ps.map Value.string
theorem strs_len (ps : List ByteArray) : (strs ps).length = ps.length := by simp [strs]
theorem strs_at (ps : List ByteArray) (j : Nat) (s : ByteArray) (h : ps[j]? = some s) : (strs ps)[j]? = some (.string s) := by simp [strs, h]
def StLen (ps : List ByteArray) : Prop := ∀ (k : Nat) (s : ByteArray), ps[k]? = some s → s.size ≤ maxLen

end Go.Proofs.YtedadhoneebfnaaGreatDoor
