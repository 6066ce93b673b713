/- Joined texts: Ct, Ri, ClP, Pre. -/
import Derived.Test.YtedadhoneebfnaaGreatDoorJ2
import Derived.Test.YtedadhoneebfnaaGreatDoorLib
import Derived.Test.YtedadhoneebfnaaGreatDoorRows
import Derived.Handy
set_option linter.unusedSimpArgs false
set_option linter.unusedVariables false
/- Contract of l1Cut (reference). -/
namespace Go.Proofs.YtedadhoneebfnaaGreatDoor
open Go.RowKit

def bas (ls : List (List UInt8)) : List ByteArray := ls.map ba
theorem bas_snoc (ls : List (List UInt8)) (l : List UInt8) : bas (ls ++ [l]) = bas ls ++ [ba l] := by simp [bas]
theorem strs_snocD (ps : List ByteArray) (s : ByteArray) : strs ps ++ [.string s] = strs (ps ++ [s]) := by simp [strs]
theorem infoSD : (Tryz.prog.info? 9).map (fun i => (i.zero, i.size, i.bytes)) = some (some (.string ByteArray.empty), 1, 16) := by kernel_rfl
theorem newS (w : World) (T : TypeId) (x0 : Value) (b : Nat) (hb : b = w.heap.size) : ∀ (j : Nat) (u : Value), [x0][j]? = some u → (w.alloc (.cells #[x0] T)).cell? ((⟨b, 0, none⟩ : Addr).add j) = some u := by
 subst hb
 intro j u hu
 match j with
 | 0 => simp at hu; subst hu; rw [Addr.add_spot, World.cell?_alloc_at _ _ _ _ rfl]; rfl
 | j + 1 => simp at hu
theorem oneS (s : ByteArray) : ∀ u ∈ [Value.string s], u.oneCell' = true := by intro u hu; simp at hu; subst hu; rfl
theorem split_count (c : UInt8) (l cur : List UInt8) : (splitL c l cur).length ≤ 1 + l.length := by
 rw [(split_head c l cur).2]; have := List.count_le_length (a := c) (l := l); omega
theorem cut_mid (s : ByteArray) (f k : Nat) : s.extract f k = ba (((tl s).take k).drop f) := by
 apply bytes_ext; simp [ba, tl, ByteArray.data_extract, List.drop_take]
theorem cut_end (s : ByteArray) (f : Nat) : s.extract f s.size = ba (((tl s).take s.size).drop f) := cut_mid s f s.size
/-- The pieces made anew. -/
def CtPost (c : UInt8) (s : ByteArray) (w : World) (e : Ending) (w' : World) : Prop := ∃ v, e = .returned v ∧ w'.ownsRow w.heap.size 9 1 v (splitL c (tl s) []).length (strs (bas (splitL c (tl s) []))) ∧ Below w.heap.size w w'
/-- Where the loop stands. -/
def CtAt (c : UInt8) (l : List UInt8) (k f : Nat) (out : List (List UInt8)) : Prop := f ≤ k ∧ out ++ splitL c (l.drop k) ((l.take k).drop f) = splitL c l []
theorem CtAt.start (c : UInt8) (l : List UInt8) : CtAt c l 0 0 [] := ⟨Nat.le_refl _, by simp⟩
theorem CtAt.len {c : UInt8} {l : List UInt8} {k f : Nat} {out : List (List UInt8)} (h : CtAt c l k f out) : out.length ≤ l.length + 1 := by
 have h1 := congrArg List.length h.2
 have h2 := split_count c l []
 rw [List.length_append] at h1
 omega
theorem CtAt.yes {c : UInt8} {l : List UInt8} {k f : Nat} {out : List (List UInt8)} (h : CtAt c l k f out) (hx : l[k]? = some c) : CtAt c l (k + 1) (k + 1) (out ++ [(l.take k).drop f]) := by
 refine ⟨Nat.le_refl _, ?_⟩
 rw [← h.2, split_step hx h.1, if_pos rfl]; simp
theorem CtAt.no {c x : UInt8} {l : List UInt8} {k f : Nat} {out : List (List UInt8)} (h : CtAt c l k f out) (hx : l[k]? = some x) (hn : x ≠ c) : CtAt c l (k + 1) f out := by
 refine ⟨by have := h.1; omega, ?_⟩
 rw [← h.2, split_step hx h.1, if_neg hn]
theorem CtAt.done {c : UInt8} {l : List UInt8} {f : Nat} {out : List (List UInt8)} (h : CtAt c l l.length f out) : out ++ [(l.take l.length).drop f] = splitL c l [] := by
 rw [← h.2, List.drop_length]; rfl

set_option maxRecDepth 100000 in
set_option maxHeartbeats 2000000 in
theorem l1Cut_any (s : ByteArray) (c : UInt8) (w : World) (hs : s.size ≤ 2000000) :
  Calls Tryz.prog 75 #[.string s, .int .u8 (c.toNat : Nat)] w (CtPost c s w) := by
 obtain ⟨i0, hi, hz0, hz1, hz2⟩ := info_parts infoSD
 have HZ := Lib.hid (tl_size s)
 go_enter Tryz.func75, Tryz.ntmps75
 go_wp2_with fail
 go_loopw [5, 6, 7] (fun v fr i wr => ∃ (k f : Nat) (out : List (List UInt8)), k ≤ s.size ∧ f ≤ k ∧ i = .int .i64 k ∧ fr = .int .i64 f ∧ Hid (CtAt c (tl s) k f out) ∧ wr.ownsRow w.heap.size 9 1 v out.length (strs (bas out)) ∧ Below w.heap.size w wr) (fun _ _ i _ => s.size - (intOf i).toNat)
 case atStart => exact ⟨0, 0, [], by omega, by omega, rfl, rfl, CtAt.start _ _, (by have := World.ownsRow_lit (base := w.heap.size) (e := 9) (size := 1) w #[] 0 (Nat.le_refl _) (by unfold maxLen; omega) rfl; simpa [strs, bas] using this), by (exact grownA)⟩
 case round =>
  obtain ⟨k, f, out, hk, hfk, rfl, rfl, hat, hown, hbel⟩ := hrel
  have hz := hbel.size
  have hol := hat.out.len
  rw [HZ.out] at hol
  by_cases hkn : k < s.size
  ·
   have hc := tl_at s k hkn
   by_cases hcc : s[k] = c
   ·
    have hcb : (((s[k].toNat : Nat) : Int) == ((c.toNat : Nat) : Int)) = true := by rw [hcc]; simp
    have HST := Lib.hid (hat.out.yes (by rw [hc, hcc]))
    have HX := Lib.hid (cut_mid s f k)
    clear hc hcc
    go_wp2_with (at_builtin; refine wpList_append_own _ rfl _ _ 24 rfl w.heap.size 9 i0 _ 1 16 Tryz.underlying24 hi hz0 hz1 hz2 rfl (by decide) _ _ _ rfl (hown.alloc _) ⟨wr.heap.size, 0, none⟩ 1 1 [.string (s.extract f k)] rfl rfl (newS _ _ _ _ (by first | rfl | simp)) (oneS _) (by unfold maxLen; omega) (by omega) (by simp; omega) ?_; intro v' w5 hown' hgrow _)
    have hbel5 : Below w.heap.size w w5 := Below.grown (by (exact grownA)) hgrow (by simp; omega) (own_ge hown)
    clear hgrow
    go_wp2_with fail
    go_roundw
    case rel => exact ⟨k + 1, k + 1, _, by omega, by omega, by go_num, by go_num, HST.out, by rw [List.length_append, bas_snoc, ← strs_snocD, ← HX.out]; exact hown', hbel5⟩
    case measure => simp [intOf]; omega
   ·
    have hcb : (((s[k].toNat : Nat) : Int) == ((c.toNat : Nat) : Int)) = false := by
     simp only [beq_eq_false_iff_ne, ne_eq]
     exact fun e => hcc (UInt8.toNat_inj.1 (by omega))
    have HST := Lib.hid (hat.out.no hc hcc)
    clear hc hcc
    go_wp2_with fail
    go_roundw
    case rel => exact ⟨k + 1, f, _, by omega, by omega, by go_num, rfl, HST.out, hown, hbel⟩
    case measure => simp [intOf]; omega
  ·
   obtain rfl : k = s.size := by omega
   have hd := hat.out
   rw [← HZ.out] at hd
   have hdd := hd.done
   rw [HZ.out] at hdd
   have HD := Lib.hid hdd
   have HX := Lib.hid (cut_end s f)
   clear hd hdd
   go_wp2_with (at_builtin; refine wpList_append_own _ rfl _ _ 24 rfl w.heap.size 9 i0 _ 1 16 Tryz.underlying24 hi hz0 hz1 hz2 rfl (by decide) _ _ _ rfl (hown.alloc _) ⟨wr.heap.size, 0, none⟩ 1 1 [.string (s.extract f s.size)] rfl rfl (newS _ _ _ _ (by first | rfl | simp)) (oneS _) (by unfold maxLen; omega) (by omega) (by simp; omega) ?_; intro v' w5 hown' hgrow _)
   have hbel5 : Below w.heap.size w w5 := Below.grown (by (exact grownA)) hgrow (by simp; omega) (own_ge hown)
   clear hgrow
   go_wp2
   go_returns
   refine ⟨_, rfl, ?_, hbel5⟩
   rw [← HD.out, List.length_append, bas_snoc, ← strs_snocD, ← HX.out]
   exact hown'

end Go.Proofs.YtedadhoneebfnaaGreatDoor

/- Contract of ReadDeed (program). -/
namespace Go.Proofs.YtedadhoneebfnaaGreatDoor
open Go.RowKit

def RdPost (s : ByteArray) (w : World) (e : Ending) (w' : World) : Prop :=
 e = .returned (.tuple #[.agg #[.int .i64 (rdeed s).1.1, .int .i64 (rdeed s).1.2.1, .string (rdeed s).1.2.2], .bool (rdeed s).2]) ∧ Below w.heap.size w w'
theorem rd_none {s : ByteArray} (h : rdeed s = ((0, 0, ⟨#[]⟩), false)) {w w' : World} (hb : Below w.heap.size w w') : RdPost s w (.returned (.tuple #[.agg #[.int .i64 0, .int .i64 0, .string ByteArray.empty], .bool false])) w' := by
 unfold RdPost; rw [h]; exact ⟨rfl, hb⟩
theorem rd_some {s : ByteArray} {k l : Int} {t : ByteArray} (h : rdeed s = ((k, l, t), true)) {w w' : World} (hb : Below w.heap.size w w') : RdPost s w (.returned (.tuple #[.agg #[.int .i64 k, .int .i64 l, .string t], .bool true])) w' := by
 unfold RdPost; rw [h]; exact ⟨rfl, hb⟩
theorem ba_size (l : List UInt8) : (ba l).size = l.length := by rw [← tl_size, tl_ba]
theorem ba_toList (l : List UInt8) : (ba l).toList = l := by rw [ByteArray.toList_eq]; simp [ba]
theorem word_ne {l m : List UInt8} (h : ¬ l = m) : ((ba l).toList == m) = false := by rw [ba_toList]; simpa using h
theorem word_eq {l m : List UInt8} (h : l = m) : ((ba l).toList == m) = true := by rw [ba_toList]; simpa using h
theorem bef_le (c : UInt8) (l : List UInt8) : (bef c l).length ≤ l.length := by unfold bef; rw [List.length_take]; omega
theorem aft_le (c : UInt8) (l : List UInt8) : (aft c l).length ≤ l.length := by unfold aft; rw [List.length_drop]; omega
theorem cut_word {s : ByteArray} {c : UInt8} {w : World} (hs : s.size ≤ maxLen) {l : List UInt8} (hl : s = ba l) :
  Calls Tryz.prog 53 #[.string s, .string ⟨#[c]⟩] w fun e w' => ∃ q, e = .returned (.tuple #[.string (ba (bef c l)), .string (ba (aft c l)), .bool (decide (ix c l < l.length))]) ∧ w' = w.drewN q := by
 refine (cut_any s c w hs).mono ?_
 rintro e w' ⟨q, rfl, rfl⟩
 subst hl
 refine ⟨q, ?_, rfl⟩
 rw [tl_ba, ba_size]
theorem read_word {s : ByteArray} {w : World} (hs : s.size ≤ maxLen) {l : List UInt8} (hl : s = ba l) :
  Calls Tryz.prog 93 #[.string s, .int .i64 2] w fun e w' => e = .returned (.tuple #[.int .i64 ((readL 2 l).getD 0), .bool (readL 2 l).isSome]) ∧ w = w' := by
 refine (readNumber_any s 2 (by omega) w hs).mono ?_
 rintro e w' ⟨rfl, rfl⟩
 subst hl
 rw [tl_ba]
 exact ⟨rfl, rfl⟩

set_option maxRecDepth 100000 in
set_option maxHeartbeats 2000000 in
theorem iReadDeed_any (s : ByteArray) (w : World) (hs : s.size ≤ maxLen) :
  Calls Tryz.prog 54 #[.string s] w (RdPost s w) := by
 have HS := Lib.hid hs
 have HZ := Lib.hid (tl_size s)
 have HSB := Lib.hid (ba_tl s)
 have HL1 : Hid ((ba (aft 32 (tl s))).size ≤ maxLen) := by unfold Hid; rw [ba_size]; have := aft_le 32 (tl s); rw [HZ.out] at this; omega
 have HL2 : Hid ((ba (bef 32 (aft 32 (tl s)))).size ≤ maxLen) := by unfold Hid; rw [ba_size]; have := aft_le 32 (tl s); have := bef_le 32 (aft 32 (tl s)); rw [HZ.out] at *; omega
 have HL3 : Hid ((ba (aft 32 (aft 32 (tl s)))).size ≤ maxLen) := by unfold Hid; rw [ba_size]; have := aft_le 32 (tl s); have := aft_le 32 (aft 32 (tl s)); rw [HZ.out] at *; omega
 have hR := Blk.new (w := w) (cs := #[.int .i64 0, .int .i64 0, .string ByteArray.empty]) (T := 55) rfl
 have hbel0 : Below w.heap.size w (w.alloc (.cells #[.int .i64 0, .int .i64 0, .string ByteArray.empty] 55)) := by (exact grownA)
 obtain ⟨p0, p1, p2, f0, f1, f2, plt⟩ := hR.three
 clear hs
 by_cases hw0 : bef 32 (tl s) = wcall
 ·
  have HNE : Hid (s.size ≠ 0) := by
   intro h0
   have h9 : tl s = [] := List.length_eq_zero_iff.1 (by rw [HZ.out]; exact h0)
   rw [h9] at hw0
   exact absurd hw0 (by decide)
  have HK : Hid (wordK (bef 32 (tl s)) = some 0) := by unfold Hid wordK; rw [if_pos hw0]
  have hn0 := word_eq (m := [99, 97, 108, 108]) hw0
  obtain ⟨wd, hwd⟩ : ∃ z, ba (bef 32 (tl s)) = z := ⟨_, rfl⟩
  rw [hwd] at hn0
  have HWD := Lib.hid hwd
  clear hwd hw0
  cases hr : readL 2 (bef 32 (aft 32 (tl s))) with
  | none =>
   have HF := Lib.hid (rdeed_pI (s := s) (by unfold pI; rw [HK.out, hr]))
   have HR := Lib.hid hr
   clear hr
   go_enter Tryz.func54, Tryz.ntmps54
   go_wp2_with fail
   refine (cut_any s 32 _ HS.out).mono ?_
   rintro e w1 ⟨q, rfl, rfl⟩
   rw [HWD.out]
   go_wp2_with fail
   refine (cut_word (l := aft 32 (tl s)) HL1.out rfl).mono ?_
   rintro e w2 ⟨q2, rfl, rfl⟩
   go_wp2_with fail
   refine (read_word (l := bef 32 (aft 32 (tl s))) HL2.out rfl).mono ?_
   rintro e w3 ⟨rfl, rfl⟩
   rw [HR.out]
   go_wp2
   refine bodyPost_ret (v := .tuple #[.agg #[.int .i64 0, .int .i64 0, .string ByteArray.empty], .bool false]) (by simp [results, Tryz.results54, go_sem, p0, p1, p2]; rfl) rfl ?_
   exact rd_none HF.out (by (exact grownA))
  | some n =>
   have HPI : Hid (pI (tl s) = some (0, n, ba (aft 32 (aft 32 (tl s))))) := by unfold Hid pI; rw [HK.out, hr]
   have HR := Lib.hid hr
   clear hr
   obtain ⟨num, hnum⟩ : ∃ z, ba (aft 32 (aft 32 (tl s))) = z := ⟨_, rfl⟩
   have HNUM := Lib.hid hnum
   rw [hnum] at HPI HL3
   clear hnum
   go_enter Tryz.func54, Tryz.ntmps54
   go_wp2_with fail
   refine (cut_any s 32 _ HS.out).mono ?_
   rintro e w1 ⟨q, rfl, rfl⟩
   rw [HWD.out]
   go_wp2_with fail
   refine (cut_word (l := aft 32 (tl s)) HL1.out rfl).mono ?_
   rintro e w2 ⟨q2, rfl, rfl⟩
   rw [HNUM.out]
   go_wp2_with fail
   refine (read_word (l := bef 32 (aft 32 (tl s))) HL2.out rfl).mono ?_
   rintro e w3 ⟨rfl, rfl⟩
   rw [HR.out]
   go_wp2_with fail
   refine (iDeedText_any 0 n num _ HL3.out).mono ?_
   rintro e w4 ⟨rfl, hb4⟩
   have hD0 := Blk.new (w := (w.alloc (.cells #[.int .i64 0, .int .i64 0, .string ByteArray.empty] 55)).drewN q) (cs := #[.int .i64 0, .int .i64 0, .string ByteArray.empty]) (T := 55) (b := w.heap.size + 1) (by simp)
   have hD4 := (((hD0.drewN q2).set (i := 1) (u := .int .i64 n) rfl).set (i := 2) (u := .string num) rfl).belowAll hb4
   have hR4 := (((((hR.drewN q).alloc (.cells #[.int .i64 0, .int .i64 0, .string ByteArray.empty] 55)).drewN q2).other (a := ⟨w.heap.size + 1, 1, none⟩) (u := .int .i64 n) (by simp)).other (a := ⟨w.heap.size + 1, 2, none⟩) (u := .string num) (by simp)).belowAll hb4
   have hbel4 : Below w.heap.size w w4 := by (exact grownA)
   clear hD0 hb4 p0 p1 p2 f0 f1 f2 plt
   obtain ⟨d0, d1, d2, _, _, _, dlt⟩ := hD4.three
   obtain ⟨p0, p1, p2, f0, f1, f2, plt⟩ := hR4.three
   obtain ⟨tx, htx⟩ : ∃ z, dtxt 0 n num = z := ⟨_, rfl⟩
   rw [htx]
   have HTX := Lib.hid htx
   clear htx
   by_cases hts : tx = s
   ·
    have hq := str_eq hts
    have hq2 : (tx.toList != s.toList) = false := by simp [bne, hq]
    have HF := Lib.hid (rdeed_some (d := (0, n, num)) HNE.out (by show dtxt 0 n num = s; rw [HTX.out, hts]))
    clear hts
    go_wp2
    refine bodyPost_ret (v := .tuple #[.agg #[.int .i64 0, .int .i64 n, .string num], .bool true]) (by simp [results, Tryz.results54, go_sem, p0, p1, p2, d0, d1, d2]) rfl ?_
    exact rd_some HF.out (by (exact grownA))
   ·
    have hq := str_ne hts
    have hq2 : (tx.toList != s.toList) = true := by simp [bne, hq]
    have HF := Lib.hid (rdeed_pI_ne HPI.out (by show ¬ dtxt 0 n num = s; rw [HTX.out]; exact hts))
    clear hts
    go_wp2
    refine bodyPost_ret (v := .tuple #[.agg #[.int .i64 0, .int .i64 0, .string ByteArray.empty], .bool false]) (by simp [results, Tryz.results54, go_sem, p0, p1, p2]; rfl) rfl ?_
    exact rd_none HF.out (by (exact grownA))
 by_cases hw1 : bef 32 (tl s) = wdrop
 ·
  have HNE : Hid (s.size ≠ 0) := by
   intro h0
   have h9 : tl s = [] := List.length_eq_zero_iff.1 (by rw [HZ.out]; exact h0)
   rw [h9] at hw1
   exact absurd hw1 (by decide)
  have HK : Hid (wordK (bef 32 (tl s)) = some 1) := by unfold Hid wordK; rw [if_neg hw0, if_pos hw1]
  have hn0 := word_ne (m := [99, 97, 108, 108]) hw0
  have hn1 := word_eq (m := [100, 114, 111, 112]) hw1
  obtain ⟨wd, hwd⟩ : ∃ z, ba (bef 32 (tl s)) = z := ⟨_, rfl⟩
  rw [hwd] at hn0 hn1
  have HWD := Lib.hid hwd
  clear hwd hw0 hw1
  cases hr : readL 2 (bef 32 (aft 32 (tl s))) with
  | none =>
   have HF := Lib.hid (rdeed_pI (s := s) (by unfold pI; rw [HK.out, hr]))
   have HR := Lib.hid hr
   clear hr
   go_enter Tryz.func54, Tryz.ntmps54
   go_wp2_with fail
   refine (cut_any s 32 _ HS.out).mono ?_
   rintro e w1 ⟨q, rfl, rfl⟩
   rw [HWD.out]
   go_wp2_with fail
   refine (cut_word (l := aft 32 (tl s)) HL1.out rfl).mono ?_
   rintro e w2 ⟨q2, rfl, rfl⟩
   go_wp2_with fail
   refine (read_word (l := bef 32 (aft 32 (tl s))) HL2.out rfl).mono ?_
   rintro e w3 ⟨rfl, rfl⟩
   rw [HR.out]
   go_wp2
   refine bodyPost_ret (v := .tuple #[.agg #[.int .i64 0, .int .i64 0, .string ByteArray.empty], .bool false]) (by simp [results, Tryz.results54, go_sem, p0, p1, p2]; rfl) rfl ?_
   exact rd_none HF.out (by (exact grownA))
  | some n =>
   have HPI : Hid (pI (tl s) = some (1, n, ba (aft 32 (aft 32 (tl s))))) := by unfold Hid pI; rw [HK.out, hr]
   have HR := Lib.hid hr
   clear hr
   obtain ⟨num, hnum⟩ : ∃ z, ba (aft 32 (aft 32 (tl s))) = z := ⟨_, rfl⟩
   have HNUM := Lib.hid hnum
   rw [hnum] at HPI HL3
   clear hnum
   go_enter Tryz.func54, Tryz.ntmps54
   go_wp2_with fail
   refine (cut_any s 32 _ HS.out).mono ?_
   rintro e w1 ⟨q, rfl, rfl⟩
   rw [HWD.out]
   go_wp2_with fail
   refine (cut_word (l := aft 32 (tl s)) HL1.out rfl).mono ?_
   rintro e w2 ⟨q2, rfl, rfl⟩
   rw [HNUM.out]
   go_wp2_with fail
   refine (read_word (l := bef 32 (aft 32 (tl s))) HL2.out rfl).mono ?_
   rintro e w3 ⟨rfl, rfl⟩
   rw [HR.out]
   go_wp2_with fail
   refine (iDeedText_any 1 n num _ HL3.out).mono ?_
   rintro e w4 ⟨rfl, hb4⟩
   have hD0 := Blk.new (w := (w.alloc (.cells #[.int .i64 0, .int .i64 0, .string ByteArray.empty] 55)).drewN q) (cs := #[.int .i64 1, .int .i64 0, .string ByteArray.empty]) (T := 55) (b := w.heap.size + 1) (by simp)
   have hD4 := (((hD0.drewN q2).set (i := 1) (u := .int .i64 n) rfl).set (i := 2) (u := .string num) rfl).belowAll hb4
   have hR4 := (((((hR.drewN q).alloc (.cells #[.int .i64 1, .int .i64 0, .string ByteArray.empty] 55)).drewN q2).other (a := ⟨w.heap.size + 1, 1, none⟩) (u := .int .i64 n) (by simp)).other (a := ⟨w.heap.size + 1, 2, none⟩) (u := .string num) (by simp)).belowAll hb4
   have hbel4 : Below w.heap.size w w4 := by (exact grownA)
   clear hD0 hb4 p0 p1 p2 f0 f1 f2 plt
   obtain ⟨d0, d1, d2, _, _, _, dlt⟩ := hD4.three
   obtain ⟨p0, p1, p2, f0, f1, f2, plt⟩ := hR4.three
   obtain ⟨tx, htx⟩ : ∃ z, dtxt 1 n num = z := ⟨_, rfl⟩
   rw [htx]
   have HTX := Lib.hid htx
   clear htx
   by_cases hts : tx = s
   ·
    have hq := str_eq hts
    have hq2 : (tx.toList != s.toList) = false := by simp [bne, hq]
    have HF := Lib.hid (rdeed_some (d := (1, n, num)) HNE.out (by show dtxt 1 n num = s; rw [HTX.out, hts]))
    clear hts
    go_wp2
    refine bodyPost_ret (v := .tuple #[.agg #[.int .i64 1, .int .i64 n, .string num], .bool true]) (by simp [results, Tryz.results54, go_sem, p0, p1, p2, d0, d1, d2]) rfl ?_
    exact rd_some HF.out (by (exact grownA))
   ·
    have hq := str_ne hts
    have hq2 : (tx.toList != s.toList) = true := by simp [bne, hq]
    have HF := Lib.hid (rdeed_pI_ne HPI.out (by show ¬ dtxt 1 n num = s; rw [HTX.out]; exact hts))
    clear hts
    go_wp2
    refine bodyPost_ret (v := .tuple #[.agg #[.int .i64 0, .int .i64 0, .string ByteArray.empty], .bool false]) (by simp [results, Tryz.results54, go_sem, p0, p1, p2]; rfl) rfl ?_
    exact rd_none HF.out (by (exact grownA))
 by_cases hw2 : bef 32 (tl s) = wnumber
 ·
  have HNE : Hid (s.size ≠ 0) := by
   intro h0
   have h9 : tl s = [] := List.length_eq_zero_iff.1 (by rw [HZ.out]; exact h0)
   rw [h9] at hw2
   exact absurd hw2 (by decide)
  have HK : Hid (wordK (bef 32 (tl s)) = some 2) := by unfold Hid wordK; rw [if_neg hw0, if_neg hw1, if_pos hw2]
  have hn0 := word_ne (m := [99, 97, 108, 108]) hw0
  have hn1 := word_ne (m := [100, 114, 111, 112]) hw1
  have hn2 := word_eq (m := [110, 117, 109, 98, 101, 114]) hw2
  obtain ⟨wd, hwd⟩ : ∃ z, ba (bef 32 (tl s)) = z := ⟨_, rfl⟩
  rw [hwd] at hn0 hn1 hn2
  have HWD := Lib.hid hwd
  clear hwd hw0 hw1 hw2
  cases hr : readL 2 (bef 32 (aft 32 (tl s))) with
  | none =>
   have HF := Lib.hid (rdeed_pI (s := s) (by unfold pI; rw [HK.out, hr]))
   have HR := Lib.hid hr
   clear hr
   go_enter Tryz.func54, Tryz.ntmps54
   go_wp2_with fail
   refine (cut_any s 32 _ HS.out).mono ?_
   rintro e w1 ⟨q, rfl, rfl⟩
   rw [HWD.out]
   go_wp2_with fail
   refine (cut_word (l := aft 32 (tl s)) HL1.out rfl).mono ?_
   rintro e w2 ⟨q2, rfl, rfl⟩
   go_wp2_with fail
   refine (read_word (l := bef 32 (aft 32 (tl s))) HL2.out rfl).mono ?_
   rintro e w3 ⟨rfl, rfl⟩
   rw [HR.out]
   go_wp2
   refine bodyPost_ret (v := .tuple #[.agg #[.int .i64 0, .int .i64 0, .string ByteArray.empty], .bool false]) (by simp [results, Tryz.results54, go_sem, p0, p1, p2]; rfl) rfl ?_
   exact rd_none HF.out (by (exact grownA))
  | some n =>
   have HPI : Hid (pI (tl s) = some (2, n, ba (aft 32 (aft 32 (tl s))))) := by unfold Hid pI; rw [HK.out, hr]
   have HR := Lib.hid hr
   clear hr
   obtain ⟨num, hnum⟩ : ∃ z, ba (aft 32 (aft 32 (tl s))) = z := ⟨_, rfl⟩
   have HNUM := Lib.hid hnum
   rw [hnum] at HPI HL3
   clear hnum
   go_enter Tryz.func54, Tryz.ntmps54
   go_wp2_with fail
   refine (cut_any s 32 _ HS.out).mono ?_
   rintro e w1 ⟨q, rfl, rfl⟩
   rw [HWD.out]
   go_wp2_with fail
   refine (cut_word (l := aft 32 (tl s)) HL1.out rfl).mono ?_
   rintro e w2 ⟨q2, rfl, rfl⟩
   rw [HNUM.out]
   go_wp2_with fail
   refine (read_word (l := bef 32 (aft 32 (tl s))) HL2.out rfl).mono ?_
   rintro e w3 ⟨rfl, rfl⟩
   rw [HR.out]
   go_wp2_with fail
   refine (iDeedText_any 2 n num _ HL3.out).mono ?_
   rintro e w4 ⟨rfl, hb4⟩
   have hD0 := Blk.new (w := (w.alloc (.cells #[.int .i64 0, .int .i64 0, .string ByteArray.empty] 55)).drewN q) (cs := #[.int .i64 2, .int .i64 0, .string ByteArray.empty]) (T := 55) (b := w.heap.size + 1) (by simp)
   have hD4 := (((hD0.drewN q2).set (i := 1) (u := .int .i64 n) rfl).set (i := 2) (u := .string num) rfl).belowAll hb4
   have hR4 := (((((hR.drewN q).alloc (.cells #[.int .i64 2, .int .i64 0, .string ByteArray.empty] 55)).drewN q2).other (a := ⟨w.heap.size + 1, 1, none⟩) (u := .int .i64 n) (by simp)).other (a := ⟨w.heap.size + 1, 2, none⟩) (u := .string num) (by simp)).belowAll hb4
   have hbel4 : Below w.heap.size w w4 := by (exact grownA)
   clear hD0 hb4 p0 p1 p2 f0 f1 f2 plt
   obtain ⟨d0, d1, d2, _, _, _, dlt⟩ := hD4.three
   obtain ⟨p0, p1, p2, f0, f1, f2, plt⟩ := hR4.three
   obtain ⟨tx, htx⟩ : ∃ z, dtxt 2 n num = z := ⟨_, rfl⟩
   rw [htx]
   have HTX := Lib.hid htx
   clear htx
   by_cases hts : tx = s
   ·
    have hq := str_eq hts
    have hq2 : (tx.toList != s.toList) = false := by simp [bne, hq]
    have HF := Lib.hid (rdeed_some (d := (2, n, num)) HNE.out (by show dtxt 2 n num = s; rw [HTX.out, hts]))
    clear hts
    go_wp2
    refine bodyPost_ret (v := .tuple #[.agg #[.int .i64 2, .int .i64 n, .string num], .bool true]) (by simp [results, Tryz.results54, go_sem, p0, p1, p2, d0, d1, d2]) rfl ?_
    exact rd_some HF.out (by (exact grownA))
   ·
    have hq := str_ne hts
    have hq2 : (tx.toList != s.toList) = true := by simp [bne, hq]
    have HF := Lib.hid (rdeed_pI_ne HPI.out (by show ¬ dtxt 2 n num = s; rw [HTX.out]; exact hts))
    clear hts
    go_wp2
    refine bodyPost_ret (v := .tuple #[.agg #[.int .i64 0, .int .i64 0, .string ByteArray.empty], .bool false]) (by simp [results, Tryz.results54, go_sem, p0, p1, p2]; rfl) rfl ?_
    exact rd_none HF.out (by (exact grownA))
 have hpi : pI (tl s) = none := by unfold pI; rw [show wordK (bef 32 (tl s)) = none by unfold wordK; rw [if_neg hw0, if_neg hw1, if_neg hw2]]
 have HF := Lib.hid (rdeed_pI hpi)
 clear hpi
 have hn0 := word_ne (m := [99, 97, 108, 108]) hw0
 have hn1 := word_ne (m := [100, 114, 111, 112]) hw1
 have hn2 := word_ne (m := [110, 117, 109, 98, 101, 114]) hw2
 obtain ⟨wd, hwd⟩ : ∃ z, ba (bef 32 (tl s)) = z := ⟨_, rfl⟩
 rw [hwd] at hn0 hn1 hn2
 have HWD := Lib.hid hwd
 clear hwd hw0 hw1 hw2
 go_enter Tryz.func54, Tryz.ntmps54
 go_wp2_with fail
 refine (cut_any s 32 _ HS.out).mono ?_
 rintro e w1 ⟨q, rfl, rfl⟩
 rw [HWD.out]
 go_wp2
 refine bodyPost_ret (v := .tuple #[.agg #[.int .i64 0, .int .i64 0, .string ByteArray.empty], .bool false]) (by simp [results, Tryz.results54, go_sem, p0, p1, p2]; rfl) rfl ?_
 exact rd_none HF.out (by (exact grownA))

end Go.Proofs.YtedadhoneebfnaaGreatDoor

/- The calls of a network of three stages: moving them (Clos). Plain lists and numbers; no program in sight. -/
namespace Go.Proofs.YtedadhoneebfnaaGreatDoor

/-! The chain of calls that are moved: plain, over places 0 .. n-1. 'sw true k' is the outer switch to which the call k goes, 'sw false k' that from which. -/
section
variable (n : Nat) (via : Nat → Int) (sw : Bool → Nat → Int) (a b : Int)
def nextK (s : Bool) (outer want : Int) (ch : List Nat) : Option Nat :=
 (List.range n).find? fun k => (!ch.contains k && decide (sw s k = outer)) && decide (via k = want)
def chainK : Nat → Bool → Int → Int → List Nat → List Nat
 | 0, _, _, _, ch => ch
 | f + 1, s, outer, want, ch =>
  match nextK n via sw s outer want ch with
  | none => ch
  | some k => chainK f (!s) (sw (!s) k) (a + b - want) (ch ++ [k])
end
variable {n : Nat} {via : Nat → Int} {sw : Bool → Nat → Int} {a b : Int}
theorem nextK_some {s : Bool} {outer want : Int} {ch : List Nat} {k : Nat} (h : nextK n via sw s outer want ch = some k) : k < n ∧ k ∉ ch ∧ sw s k = outer ∧ via k = want := by
 have h1 := List.find?_some h
 have h2 := List.mem_of_find?_eq_some h
 simp at h1 h2
 exact ⟨h2, h1.1.1, h1.1.2, h1.2⟩
theorem nextK_none {s : Bool} {outer want : Int} {ch : List Nat} (h : nextK n via sw s outer want ch = none) : ∀ k, k < n → sw s k = outer → via k = want → k ∈ ch := by
 intro k hk h1 h2
 unfold nextK at h
 rw [List.find?_eq_none] at h
 have := h k (by simpa using hk)
 simp [h1, h2] at this
 exact this
/-- No two calls at one switch go through the same middle switch. -/
def Uniq (n : Nat) (via : Nat → Int) (sw : Bool → Nat → Int) : Prop := ∀ s j k, j < n → k < n → sw s j = sw s k → via j = via k → j = k
structure Inv (n : Nat) (via : Nat → Int) (sw : Bool → Nat → Int) (a b I O : Int) (s : Bool) (outer want : Int) (ch : List Nat) : Prop where
 nd : ch.Nodup
 col : ∀ k ∈ ch, k < n ∧ (via k = a ∨ via k = b)
 nb : ∀ k ∈ ch, ∀ t, (∀ j, j < n → sw t j = sw t k → via j = a + b - via k → j ∈ ch) ∨ (t = s ∧ sw t k = outer ∧ a + b - via k = want)
 prev : ∀ j, j < n → sw s j = outer → via j = a + b - want → j ∈ ch
 inI : ∀ k ∈ ch, sw false k = I → via k ≠ b
 st : (s = true ∧ want = a) ∨ (s = false ∧ want = b ∧ outer ≠ I)
 fst : (∀ j, j < n → sw true j = O → via j = a → j ∈ ch) ∨ (s = true ∧ outer = O ∧ want = a)
theorem Inv.step {I O : Int} (hU : Uniq n via sw) (hI : ∀ j, j < n → sw false j = I → via j ≠ a) {s : Bool} {outer want : Int} {ch : List Nat} (h : Inv n via sw a b I O s outer want ch) {k : Nat} (hk : nextK n via sw s outer want ch = some k) : Inv n via sw a b I O (!s) (sw (!s) k) (a + b - want) (ch ++ [k]) := by
 obtain ⟨h1, h2, h3, h4⟩ := nextK_some hk
 have hab : want = a ∨ want = b := by rcases h.st with h | h <;> simp [h]
 refine ⟨?_, ?_, ?_, ?_, ?_, ?_, ?_⟩
 ·
  rw [List.nodup_append]
  refine ⟨h.nd, by simp, ?_⟩
  intro x hx y hy
  simp at hy; subst hy
  intro e; subst e; exact h2 hx
 ·
  intro j hj
  rcases List.mem_append.1 hj with hj | hj
  ·
   exact h.col j hj
  ·
   simp at hj; subst hj; exact ⟨h1, by rw [h4]; exact hab⟩
 ·
  intro j hj t
  rcases List.mem_append.1 hj with hj | hj
  ·
   rcases h.nb j hj t with h5 | ⟨h5, h6, h7⟩
   ·
    exact .inl fun i hi e1 e2 => List.mem_append.2 (.inl (h5 i hi e1 e2))
   ·
    refine .inl fun i hi e1 e2 => List.mem_append.2 (.inr ?_)
    have : i = k := hU s i k hi h1 (by rw [h3, ← h6, ← h5]; exact e1) (by rw [h4, e2, h7])
    simp [this]
  ·
   simp at hj; subst hj
   by_cases ht : t = s
   ·
    subst ht
    refine .inl fun i hi e1 e2 => List.mem_append.2 (.inl (h.prev i hi (by rw [e1, h3]) (by rw [e2, h4])))
   ·
    have ht' : t = !s := by cases t <;> cases s <;> simp_all
    subst ht'
    exact .inr ⟨rfl, rfl, by rw [h4]⟩
 ·
  intro j hj e1 e2
  have : j = k := hU (!s) j k hj h1 e1 (by rw [h4]; omega)
  simp [this]
 ·
  intro j hj e
  rcases List.mem_append.1 hj with hj | hj
  ·
   exact h.inI j hj e
  ·
   simp at hj; subst hj
   rcases h.st with ⟨hs, hw⟩ | ⟨hs, hw, ho⟩
   ·
    exact absurd (by rw [h4, hw]) (hI _ h1 e)
   ·
    subst hs; exact absurd (by rw [← h3, e]) ho
 ·
  rcases h.st with ⟨hs, hw⟩ | ⟨hs, hw, ho⟩
  ·
   subst hs
   exact .inr ⟨rfl, by omega, fun e => hI k h1 e (by rw [h4, hw])⟩
  ·
   subst hs
   exact .inl ⟨rfl, by omega⟩
 ·
  rcases h.fst with h5 | ⟨h5, h6, h7⟩
  ·
   exact .inl fun j hj e1 e2 => List.mem_append.2 (.inl (h5 j hj e1 e2))
  ·
   refine .inl fun j hj e1 e2 => List.mem_append.2 (.inr ?_)
   have : j = k := hU true j k hj h1 (by rw [e1, ← h5, h3, h6]; ) (by rw [e2, h4, h7])
   simp [this]
/-- What the whole chain is. -/
structure Whole (n : Nat) (via : Nat → Int) (sw : Bool → Nat → Int) (a b I O : Int) (ch : List Nat) : Prop where
 nd : ch.Nodup
 col : ∀ k ∈ ch, k < n ∧ (via k = a ∨ via k = b)
 nb : ∀ k ∈ ch, ∀ t j, j < n → sw t j = sw t k → via j = a + b - via k → j ∈ ch
 inI : ∀ k ∈ ch, sw false k = I → via k ≠ b
 fst : ∀ j, j < n → sw true j = O → via j = a → j ∈ ch
theorem nodup_len : ∀ {n : Nat} {ch : List Nat}, ch.Nodup → (∀ k ∈ ch, k < n) → ch.length ≤ n := by
 intro n
 induction n with
 | zero =>
  intro ch _ hl
  cases ch with
  | nil => simp
  | cons x xs => exact absurd (hl x (by simp)) (by omega)
 | succ n ih =>
  intro ch h hl
  have h1 : (ch.erase n).length ≤ n := ih (h.erase n) (fun k hk => by
   have h2 := (List.Nodup.mem_erase_iff h).1 hk
   have := hl k h2.2
   have := h2.1
   omega)
  rw [List.length_erase] at h1
  split at h1 <;> omega
theorem chainK_whole {I O : Int} (hU : Uniq n via sw) (hI : ∀ j, j < n → sw false j = I → via j ≠ a) : ∀ (f : Nat) (s : Bool) (outer want : Int) (ch : List Nat), n < f + ch.length → Inv n via sw a b I O s outer want ch → Whole n via sw a b I O (chainK n via sw a b f s outer want ch) := by
 intro f
 induction f with
 | zero =>
  intro s outer want ch hf h
  have := nodup_len h.nd (fun k hk => (h.col k hk).1)
  omega
 | succ f ih =>
  intro s outer want ch hf h
  simp only [chainK]
  cases hk : nextK n via sw s outer want ch with
  | none =>
   have hn := nextK_none hk
   refine ⟨h.nd, h.col, fun k hk t j hj e1 e2 => ?_, h.inI, fun j hj e1 e2 => ?_⟩
   ·
    rcases h.nb k hk t with h5 | ⟨h5, h6, h7⟩
    ·
     exact h5 j hj e1 e2
    ·
     exact hn j hj (by rw [← h6, ← h5]; exact e1) (by rw [e2, h7])
   ·
    rcases h.fst with h5 | ⟨h5, h6, h7⟩
    ·
     exact h5 j hj e1 e2
    ·
     exact hn j hj (by rw [h5, e1, h6]) (by rw [e2, h7])
  | some k => exact ih _ _ _ _ (by simp; omega) (h.step hU hI hk)
theorem chainK_first {I O : Int} (hO : ∀ j, j < n → sw true j = O → via j ≠ b) : Inv n via sw a b I O true O a [] :=
 ⟨List.nodup_nil, fun k hk => by simp at hk, fun k hk => by simp at hk, fun j hj e1 e2 => absurd (by omega) (hO j hj e1), fun k hk => by simp at hk, .inl ⟨rfl, rfl⟩, .inr ⟨rfl, rfl, rfl⟩⟩
/-- The middle switches after the moves. -/
def flipK (via : Nat → Int) (a b : Int) (ch : List Nat) (k : Nat) : Int := if k ∈ ch then a + b - via k else via k
theorem Whole.uniq {I O : Int} (hU : Uniq n via sw) {ch : List Nat} (h : Whole n via sw a b I O ch) : Uniq n (flipK via a b ch) sw := by
 intro s j k hj hk hs hv
 unfold flipK at hv
 by_cases h1 : j ∈ ch <;> by_cases h2 : k ∈ ch
 ·
  rw [if_pos h1, if_pos h2] at hv; exact hU s j k hj hk hs (by omega)
 ·
  rw [if_pos h1, if_neg h2] at hv; exact absurd (h.nb j h1 s k hk hs.symm hv.symm) h2
 ·
  rw [if_neg h1, if_pos h2] at hv; exact absurd (h.nb k h2 s j hj hs hv) h1
 ·
  rw [if_neg h1, if_neg h2] at hv; exact hU s j k hj hk hs hv
theorem Whole.fromI {I O : Int} (hI : ∀ j, j < n → sw false j = I → via j ≠ a) {ch : List Nat} (h : Whole n via sw a b I O ch) : ∀ j, j < n → sw false j = I → flipK via a b ch j ≠ a := by
 intro j hj e
 unfold flipK
 by_cases h1 : j ∈ ch
 ·
  rcases (h.col j h1).2 with h2 | h2
  ·
   exact absurd h2 (hI j hj e)
  ·
   exact absurd h2 (h.inI j h1 e)
 ·
  rw [if_neg h1]; exact hI j hj e
theorem Whole.toO {I O : Int} (hab : a ≠ b) (hO : ∀ j, j < n → sw true j = O → via j ≠ b) {ch : List Nat} (h : Whole n via sw a b I O ch) : ∀ j, j < n → sw true j = O → flipK via a b ch j ≠ a := by
 intro j hj e
 unfold flipK
 by_cases h1 : j ∈ ch
 ·
  rw [if_pos h1]
  rcases (h.col j h1).2 with h2 | h2
  ·
   omega
  ·
   exact absurd h2 (hO j hj e)
 ·
  rw [if_neg h1]; intro h2; exact h1 (h.fst j hj e h2)

/-! Lists of calls: input, output, middle switch. -/
abbrev Cl := Int × Int × Int
def swC (E : Int) (s : Bool) (c : Cl) : Int := if s then c.2.1 / E else c.1 / E
def swL (E : Int) (cs : List Cl) (s : Bool) (k : Nat) : Int := match cs[k]? with
 | some c => swC E s c
 | none => 0
def viaL (cs : List Cl) (k : Nat) : Int := match cs[k]? with
 | some c => c.2.2
 | none => 0
theorem swL_at {E : Int} {cs : List Cl} {s : Bool} {k : Nat} {c : Cl} (h : cs[k]? = some c) : swL E cs s k = swC E s c := by simp [swL, h]
theorem viaL_at {cs : List Cl} {k : Nat} {c : Cl} (h : cs[k]? = some c) : viaL cs k = c.2.2 := by simp [viaL, h]
structure ShapeOk (O E M : Int) : Prop where
 o : 1 ≤ O ∧ O ≤ 4
 e : 1 ≤ E ∧ E ≤ 3
 m : 1 ≤ M ∧ M ≤ 5
structure CallsOk (O E M : Int) (cs : List Cl) : Prop where
 sh : ShapeOk O E M
 at' : ∀ (k : Nat) (c : Cl), cs[k]? = some c → (0 ≤ c.1 ∧ c.1 < O * E) ∧ (0 ≤ c.2.1 ∧ c.2.1 < O * E) ∧ 0 ≤ c.2.2 ∧ c.2.2 < M
 apart : ∀ (j k : Nat) (d c : Cl), j < k → cs[j]? = some d → cs[k]? = some c → d.1 ≠ c.1 ∧ d.2.1 ≠ c.2.1 ∧ ∀ s, swC E s d = swC E s c → d.2.2 ≠ c.2.2
theorem CallsOk.uniq {O E M : Int} {cs : List Cl} (h : CallsOk O E M cs) : Uniq cs.length (viaL cs) (swL E cs) := by
 intro s j k hj hk hs hv
 obtain ⟨d, hd⟩ : ∃ d, cs[j]? = some d := ⟨_, List.getElem?_eq_getElem hj⟩
 obtain ⟨c, hc⟩ : ∃ c, cs[k]? = some c := ⟨_, List.getElem?_eq_getElem hk⟩
 rw [swL_at hd, swL_at hc] at hs
 rw [viaL_at hd, viaL_at hc] at hv
 rcases Nat.lt_trichotomy j k with e | e | e
 ·
  exact absurd hv ((h.apart j k d c e hd hc).2.2 s hs)
 ·
  exact e
 ·
  exact absurd hv.symm ((h.apart k j c d e hc hd).2.2 s hs.symm)
/-- Whether a call at an outer switch goes through m. -/
def usedB (E : Int) (cs : List Cl) (s : Bool) (o m : Int) : Bool := cs.any fun c => decide (swC E s c = o) && decide (c.2.2 = m)
theorem usedB_iff {E : Int} {cs : List Cl} {s : Bool} {o m : Int} : usedB E cs s o m = true ↔ ∃ c ∈ cs, swC E s c = o ∧ c.2.2 = m := by simp [usedB]
def mids (M : Int) : List Int := (List.range M.toNat).map Int.ofNat
theorem mids_mem {M m : Int} (hM : 0 ≤ M) : m ∈ mids M ↔ 0 ≤ m ∧ m < M := by
 unfold mids
 rw [List.mem_map]
 constructor
 ·
  rintro ⟨a, ha, rfl⟩
  have := List.mem_range.1 ha
  have e : Int.ofNat a = (a : Int) := rfl
  omega
 ·
  intro h
  refine ⟨m.toNat, List.mem_range.2 (by omega), ?_⟩
  have e : Int.ofNat m.toNat = (m.toNat : Int) := rfl
  omega
def freeL (E M : Int) (cs : List Cl) (x y : Int) : List Int := (mids M).filter fun m => !usedB E cs false (x / E) m && !usedB E cs true (y / E) m
def firstL (E M : Int) (cs : List Cl) (s : Bool) (o : Int) : Int := ((mids M).find? fun m => !usedB E cs s o m).getD (-1)
def flipL (a b : Int) (ch : List Nat) (cs : List Cl) : List Cl := cs.mapIdx fun k c => (c.1, c.2.1, if k ∈ ch then a + b - c.2.2 else c.2.2)
def chainL (E a b : Int) (cs : List Cl) (y : Int) : List Nat := chainK cs.length (viaL cs) (swL E cs) a b (cs.length + 1) true (y / E) a []
def moveL (E M : Int) (cs : List Cl) (x y : Int) : List Cl := match freeL E M cs x y with
 | m :: _ => cs ++ [(x, y, m)]
 | [] =>
  let a := firstL E M cs false (x / E)
  let b := firstL E M cs true (y / E)
  flipL a b (chainL E a b cs y) cs ++ [(x, y, a)]
def freeB (cs : List Cl) (x y : Int) : Prop := ∀ c ∈ cs, c.1 ≠ x ∧ c.2.1 ≠ y
/-- One call more. -/
theorem CallsOk.push {O E M : Int} {cs : List Cl} (h : CallsOk O E M cs) {x y m : Int} (hx : 0 ≤ x ∧ x < O * E) (hy : 0 ≤ y ∧ y < O * E) (hm : 0 ≤ m ∧ m < M) (hf : freeB cs x y) (h1 : ∀ c ∈ cs, swC E false c = x / E → c.2.2 ≠ m) (h2 : ∀ c ∈ cs, swC E true c = y / E → c.2.2 ≠ m) : CallsOk O E M (cs ++ [(x, y, m)]) := by
 refine ⟨h.sh, fun k c hc => ?_, fun j k d c hjk hd hc => ?_⟩
 ·
  by_cases hk : k < cs.length
  ·
   rw [List.getElem?_append_left hk] at hc; exact h.at' k c hc
  ·
   rw [List.getElem?_append_right (by omega)] at hc
   have := (List.getElem?_eq_some_iff.1 hc).1
   have e : k - cs.length = 0 := by simp at this; omega
   rw [e] at hc; simp at hc; subst hc
   exact ⟨hx, hy, hm⟩
 ·
  by_cases hk : k < cs.length
  ·
   rw [List.getElem?_append_left hk] at hc
   rw [List.getElem?_append_left (by omega)] at hd
   exact h.apart j k d c hjk hd hc
  ·
   rw [List.getElem?_append_right (by omega)] at hc
   have := (List.getElem?_eq_some_iff.1 hc).1
   have e : k - cs.length = 0 := by simp at this; omega
   rw [e] at hc; simp at hc; subst hc
   have hj : j < cs.length := by simp at this; omega
   rw [List.getElem?_append_left hj] at hd
   have hmem := List.mem_of_getElem? hd
   refine ⟨(hf d hmem).1, (hf d hmem).2, fun s hs => ?_⟩
   cases s
   ·
    exact h1 d hmem (by rw [hs]; simp [swC])
   ·
    exact h2 d hmem (by rw [hs]; simp [swC])
theorem flipL_at {a b : Int} {ch : List Nat} {cs : List Cl} {k : Nat} {c : Cl} (h : cs[k]? = some c) : (flipL a b ch cs)[k]? = some (c.1, c.2.1, flipK (viaL cs) a b ch k) := by
 unfold flipL flipK
 rw [List.getElem?_mapIdx, h, viaL_at h]; rfl
theorem flipL_of {a b : Int} {ch : List Nat} {cs : List Cl} {k : Nat} {e : Cl} (h : (flipL a b ch cs)[k]? = some e) : ∃ c, cs[k]? = some c ∧ e = (c.1, c.2.1, flipK (viaL cs) a b ch k) := by
 have hl : k < cs.length := by have := (List.getElem?_eq_some_iff.1 h).1; simpa [flipL] using this
 obtain ⟨c, hc⟩ : ∃ c, cs[k]? = some c := ⟨_, List.getElem?_eq_getElem hl⟩
 rw [flipL_at hc] at h
 exact ⟨c, hc, (Option.some.inj h).symm⟩
/-- A middle switch is left at the outer switch of a line that has no call. -/
theorem some_left {O E M : Int} {cs : List Cl} (h : CallsOk O E M cs) (hEM : E ≤ M) (s : Bool) {x : Int} (hx : 0 ≤ x) (hf : ∀ c ∈ cs, (if s then c.2.1 else c.1) ≠ x) : ∃ m, 0 ≤ m ∧ m < M ∧ usedB E cs s (x / E) m = false := by
 refine Classical.byContradiction fun hno => ?_
 have hall : ∀ m : Nat, m < M.toNat → ∃ (k : Nat) (c : Cl), cs[k]? = some c ∧ swC E s c = x / E ∧ c.2.2 = m := by
  intro m hm
  have h1 : usedB E cs s (x / E) m = true := by
   cases hu : usedB E cs s (x / E) m with
   | true => rfl
   | false => exact absurd ⟨(m : Int), by omega, by omega, hu⟩ hno
  obtain ⟨c, hc, e1, e2⟩ := usedB_iff.1 h1
  obtain ⟨k, hk⟩ := List.mem_iff_getElem?.1 hc
  exact ⟨k, c, hk, e1, e2⟩
 have hE := h.sh.e
 let ln : Cl → Int := fun c => if s then c.2.1 else c.1
 have hln : ∀ c, swC E s c = ln c / E := by intro c; cases s <;> rfl
 have hdiff : ∀ (k1 k2 : Nat) (c1 c2 : Cl), cs[k1]? = some c1 → cs[k2]? = some c2 → ln c1 = ln c2 → k1 = k2 := by
  intro k1 k2 c1 c2 e1 e2 e3
  rcases Nat.lt_trichotomy k1 k2 with e | e | e
  ·
   have := h.apart k1 k2 c1 c2 e e1 e2
   cases s
   ·
    exact absurd e3 this.1
   ·
    exact absurd e3 this.2.1
  ·
   exact e
  ·
   have := h.apart k2 k1 c2 c1 e e2 e1
   cases s
   ·
    exact absurd e3.symm this.1
   ·
    exact absurd e3.symm this.2.1
 have hpos : ∀ (k : Nat) (c : Cl), cs[k]? = some c → 0 ≤ ln c := by
  intro k c hc
  have := h.at' k c hc
  cases s
  ·
   exact this.1.1
  ·
   exact this.2.1.1
 -- the lines of the calls through 0, 1, ..: as many as M, and x besides
 have hmain : ∀ n : Nat, n ≤ M.toNat → ∃ ls : List Nat, ls.length = n ∧ ls.Nodup ∧ ∀ l ∈ ls, l < E.toNat ∧ ∃ (k : Nat) (c : Cl), cs[k]? = some c ∧ swC E s c = x / E ∧ c.2.2 < n ∧ (l : Int) = ln c % E := by
  intro n
  induction n with
  | zero => intro _; exact ⟨[], rfl, List.nodup_nil, fun l hl => by simp at hl⟩
  | succ n ih =>
   intro hn
   obtain ⟨ls, h1, h2, h3⟩ := ih (by omega)
   obtain ⟨k, c, hc, e1, e2⟩ := hall n (by omega)
   have hm0 := Int.emod_nonneg (ln c) (show E ≠ 0 by omega)
   have hm1 := Int.emod_lt_of_pos (ln c) (show 0 < E by omega)
   refine ⟨(ln c % E).toNat :: ls, by simp [h1], ?_, ?_⟩
   ·
    rw [List.nodup_cons]
    refine ⟨fun hin => ?_, h2⟩
    obtain ⟨_, k2, c2, g1, g2, g3, g4⟩ := h3 _ hin
    have e3 : ln c = ln c2 := by
     have a1 := Int.mul_ediv_add_emod (ln c) E
     have a2 := Int.mul_ediv_add_emod (ln c2) E
     rw [← hln, e1] at a1
     rw [← hln, g2] at a2
     have g5 : ln c % E = ln c2 % E := by omega
     rw [← a1, ← a2, g5]
    have := hdiff k k2 c c2 hc g1 e3
    subst this
    rw [hc] at g1; cases g1
    omega
   ·
    intro l hl
    rcases List.mem_cons.1 hl with rfl | hl
    ·
     exact ⟨by omega, k, c, hc, e1, by omega, by omega⟩
    ·
     obtain ⟨g0, k2, c2, g1, g2, g3, g4⟩ := h3 l hl
     exact ⟨g0, k2, c2, g1, g2, by omega, g4⟩
 obtain ⟨ls, h1, h2, h3⟩ := hmain M.toNat (Nat.le_refl _)
 have hm0 := Int.emod_nonneg x (show E ≠ 0 by omega)
 have hm1 := Int.emod_lt_of_pos x (show 0 < E by omega)
 have h4 : ((x % E).toNat :: ls).Nodup := by
  rw [List.nodup_cons]
  refine ⟨fun hin => ?_, h2⟩
  obtain ⟨_, k2, c2, g1, g2, g3, g4⟩ := h3 _ hin
  have a1 := Int.mul_ediv_add_emod x E
  have a2 := Int.mul_ediv_add_emod (ln c2) E
  rw [← hln, g2] at a2
  have g5 : x % E = ln c2 % E := by omega
  have : ln c2 = x := by rw [← a1, ← a2, g5]
  exact hf c2 (List.mem_of_getElem? g1) this
 have h5 := nodup_len (n := E.toNat) h4 (fun k hk => by
  rcases List.mem_cons.1 hk with rfl | hk
  ·
   omega
  ·
   exact (h3 k hk).1)
 simp at h5
 omega
theorem firstL_some {O E M : Int} {cs : List Cl} (h : CallsOk O E M cs) (hEM : E ≤ M) (s : Bool) {x : Int} (hx : 0 ≤ x) (hf : ∀ c ∈ cs, (if s then c.2.1 else c.1) ≠ x) : 0 ≤ firstL E M cs s (x / E) ∧ firstL E M cs s (x / E) < M ∧ usedB E cs s (x / E) (firstL E M cs s (x / E)) = false := by
 obtain ⟨m, h1, h2, h3⟩ := some_left h hEM s hx hf
 have hM := h.sh.m
 unfold firstL
 cases hf : (mids M).find? fun m => !usedB E cs s (x / E) m with
 | none =>
  rw [List.find?_eq_none] at hf
  have := hf m ((mids_mem (by omega)).2 ⟨h1, h2⟩)
  simp [h3] at this
 | some k =>
  have g1 := List.find?_some hf
  have g2 := (mids_mem (by omega)).1 (List.mem_of_find?_eq_some hf)
  simp at g1 ⊢
  exact ⟨g2.1, g2.2, g1⟩
/-- Nobody who is free is refused. -/
theorem moveL_ok {O E M : Int} {cs : List Cl} (h : CallsOk O E M cs) (hEM : E ≤ M) {x y : Int} (hx : 0 ≤ x ∧ x < O * E) (hy : 0 ≤ y ∧ y < O * E) (hf : freeB cs x y) : CallsOk O E M (moveL E M cs x y) := by
 have hM := h.sh.m
 unfold moveL
 cases hfr : freeL E M cs x y with
 | cons m r =>
  have hm : m ∈ freeL E M cs x y := by rw [hfr]; simp
  unfold freeL at hm
  obtain ⟨m1, m2⟩ := List.mem_filter.1 hm
  simp only [Bool.and_eq_true, Bool.not_eq_true'] at m2
  have m3 := (mids_mem (by omega)).1 m1
  refine h.push hx hy m3 hf (fun c hc e e2 => ?_) (fun c hc e e2 => ?_)
  ·
   have := usedB_iff.2 ⟨c, hc, e, e2⟩
   rw [m2.1] at this; cases this
  ·
   have := usedB_iff.2 ⟨c, hc, e, e2⟩
   rw [m2.2] at this; cases this
 | nil =>
  simp only
  obtain ⟨a0, a1, a2⟩ := firstL_some h hEM false hx.1 (fun c hc => by simpa using (hf c hc).1)
  obtain ⟨b0, b1, b2⟩ := firstL_some h hEM true hy.1 (fun c hc => by simpa using (hf c hc).2)
  obtain ⟨a, ha⟩ : ∃ a, firstL E M cs false (x / E) = a := ⟨_, rfl⟩
  obtain ⟨b, hb⟩ : ∃ b, firstL E M cs true (y / E) = b := ⟨_, rfl⟩
  rw [ha] at a0 a1 a2
  rw [hb] at b0 b1 b2
  rw [ha, hb]
  have hab : a ≠ b := by
   intro e
   subst e
   have : a ∈ freeL E M cs x y := by
    unfold freeL
    rw [List.mem_filter]
    exact ⟨(mids_mem (by omega)).2 ⟨a0, a1⟩, by simp [a2, b2]⟩
   rw [hfr] at this; cases this
  have hU := h.uniq
  have hI : ∀ j, j < cs.length → swL E cs false j = x / E → viaL cs j ≠ a := by
   intro j hj e e2
   obtain ⟨c, hc⟩ : ∃ c, cs[j]? = some c := ⟨_, List.getElem?_eq_getElem hj⟩
   rw [swL_at hc] at e; rw [viaL_at hc] at e2
   have := usedB_iff.2 ⟨c, List.mem_of_getElem? hc, e, e2⟩
   rw [a2] at this; cases this
  have hO : ∀ j, j < cs.length → swL E cs true j = y / E → viaL cs j ≠ b := by
   intro j hj e e2
   obtain ⟨c, hc⟩ : ∃ c, cs[j]? = some c := ⟨_, List.getElem?_eq_getElem hj⟩
   rw [swL_at hc] at e; rw [viaL_at hc] at e2
   have := usedB_iff.2 ⟨c, List.mem_of_getElem? hc, e, e2⟩
   rw [b2] at this; cases this
  have hW : Whole cs.length (viaL cs) (swL E cs) a b (x / E) (y / E) (chainL E a b cs y) := chainK_whole hU hI _ _ _ _ _ (by simp) (chainK_first hO)
  obtain ⟨ch, hch⟩ : ∃ ch, chainL E a b cs y = ch := ⟨_, rfl⟩
  rw [hch] at hW ⊢
  have hU2 := hW.uniq hU
  have hI2 := hW.fromI hI
  have hO2 := hW.toO hab hO
  have hflip : CallsOk O E M (flipL a b ch cs) := by
   refine ⟨h.sh, fun k e he => ?_, fun j k d e hjk hd he => ?_⟩
   ·
    obtain ⟨c, hc, rfl⟩ := flipL_of he
    have h3 := h.at' k c hc
    refine ⟨h3.1, h3.2.1, ?_⟩
    show 0 ≤ flipK (viaL cs) a b ch k ∧ flipK (viaL cs) a b ch k < M
    unfold flipK
    split
    ·
     rename_i hk
     rcases (hW.col k hk).2 with e | e <;> rw [e] <;> omega
    ·
     rw [viaL_at hc]; exact h3.2.2
   ·
    obtain ⟨d', hd', rfl⟩ := flipL_of hd
    obtain ⟨c', hc', rfl⟩ := flipL_of he
    have h3 := h.apart j k d' c' hjk hd' hc'
    refine ⟨h3.1, h3.2.1, fun s hs e2 => ?_⟩
    have hs' : swL E cs s j = swL E cs s k := by rw [swL_at hd', swL_at hc']; exact hs
    have := hU2 s j k (List.getElem?_eq_some_iff.1 hd').1 (List.getElem?_eq_some_iff.1 hc').1 hs' e2
    omega
  refine hflip.push hx hy ⟨a0, a1⟩ (fun e he => ?_) (fun e he e1 => ?_) (fun e he e1 => ?_)
  ·
   obtain ⟨k, hk⟩ := List.mem_iff_getElem?.1 he
   obtain ⟨c, hc, rfl⟩ := flipL_of hk
   exact hf c (List.mem_of_getElem? hc)
  ·
   obtain ⟨k, hk⟩ := List.mem_iff_getElem?.1 he
   obtain ⟨c, hc, rfl⟩ := flipL_of hk
   exact hI2 k (List.getElem?_eq_some_iff.1 hc).1 (by rw [swL_at hc]; exact e1)
  ·
   obtain ⟨k, hk⟩ := List.mem_iff_getElem?.1 he
   obtain ⟨c, hc, rfl⟩ := flipL_of hk
   exact hO2 k (List.getElem?_eq_some_iff.1 hc).1 (by rw [swL_at hc]; exact e1)

end Go.Proofs.YtedadhoneebfnaaGreatDoor

/- Contracts of strings.HasPrefix and the reference's l6Begins. -/
namespace Go.Proofs.YtedadhoneebfnaaGreatDoor
open Go.RowKit

/-- Whether s begins with p. -/
def preB (s p : ByteArray) : Bool := p.data.toList.isPrefixOf s.data.toList
theorem preB_long {s p : ByteArray} (h : s.size < p.size) : preB s p = false := by
 rw [Bool.eq_false_iff]
 intro e
 have := (List.isPrefixOf_iff_prefix.1 e).length_le
 simp at this
 omega
theorem preB_cut {s p : ByteArray} (h : p.size ≤ s.size) : ((s.extract 0 p.size).toList == p.toList) = preB s p := by
 rw [Bool.eq_iff_iff, beq_iff_eq, ByteArray.toList_eq, ByteArray.toList_eq]
 unfold preB
 rw [List.isPrefixOf_iff_prefix, List.prefix_iff_eq_take]
 have e1 : (s.extract 0 p.size).data.toList = s.data.toList.take p.data.toList.length := by simp [ByteArray.data_extract]
 rw [e1]
 exact eq_comm

set_option maxHeartbeats 400000 in
theorem hasPrefix_any (s p : ByteArray) (w : World) (hs : s.size ≤ maxLen) (hp : p.size ≤ maxLen) :
  Calls Tryz.prog 115 #[.string s, .string p] w fun e w' => e = .returned (.bool (preB s p)) ∧ w = w' := by
 unfold maxLen at hs hp
 by_cases h : p.size ≤ s.size
 ·
  have hc := preB_cut h
  obtain ⟨b, hb⟩ : ∃ b, preB s p = b := ⟨_, rfl⟩
  rw [hb] at hc
  have HB := Lib.hid hb
  clear hb
  go_enter Tryz.func115, Tryz.ntmps115
  go_wp2
  go_returns
  rw [HB.out]
  exact ⟨rfl, rfl⟩
 ·
  rw [preB_long (by omega)]
  go_enter Tryz.func115, Tryz.ntmps115
  go_wp2
  go_returns
  exact ⟨rfl, rfl⟩
set_option maxHeartbeats 400000 in
theorem l6Begins_any (s p : ByteArray) (w : World) (hs : s.size ≤ maxLen) (hp : p.size ≤ maxLen) :
  Calls Tryz.prog 101 #[.string s, .string p] w fun e w' => e = .returned (.bool (preB s p)) ∧ w = w' := by
 unfold maxLen at hs hp
 by_cases h : p.size ≤ s.size
 ·
  have hc := preB_cut h
  obtain ⟨b, hb⟩ : ∃ b, preB s p = b := ⟨_, rfl⟩
  rw [hb] at hc
  have HB := Lib.hid hb
  clear hb
  go_enter Tryz.func101, Tryz.ntmps101
  go_wp2
  go_returns
  rw [HB.out]
  exact ⟨rfl, rfl⟩
 ·
  rw [preB_long (by omega)]
  go_enter Tryz.func101, Tryz.ntmps101
  go_wp2
  go_returns
  exact ⟨rfl, rfl⟩

end Go.Proofs.YtedadhoneebfnaaGreatDoor
