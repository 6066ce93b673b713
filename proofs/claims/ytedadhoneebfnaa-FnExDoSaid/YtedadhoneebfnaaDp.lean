/- The draw of a permutation: l20Perm. Of what is drawn only the length and the range are said. -/
import Derived.Test.YtedadhoneebfnaaPs
import Derived.Test.YtedadhoneebfnaaRd
import Derived.Test.YtedadhoneebfnaaJ7
set_option linter.unusedSimpArgs false
set_option linter.unusedVariables false
namespace Go.Proofs.Ytedadhoneebfnaa
open Go.RowKit

theorem infoIz : (Try.prog.info? 3).map (fun i => (i.zero, i.size, i.bytes)) = some (some (.int .i64 0), 1, 8) := by kernel_rfl
theorem ints_one (zs : List Int) : ∀ u ∈ ints zs, u.oneCell' = true := by
 intro u hu
 obtain ⟨s, _, rfl⟩ := List.mem_map.1 hu
 rfl
/-- The first n of an owned row, with all the room. -/
theorem Own.first {w : World} {g n cap m : Nat} {E : TypeId} {xs : List Value} (h : Own w g n cap E 1 xs) (hm : m ≤ n) : Own w g m cap E 1 (xs.take m) := by
 obtain ⟨cur, hb, h1, h2, h3, h4⟩ := h.blk
 have hl := h.len
 refine Own.ofBlk (by rw [List.length_take]; omega) hb (by omega) h2 h3 ?_
 rw [← h4, List.take_take]; congr 1; omega
theorem keep_newz {w : World} {cs : Array Value} {T : TypeId} {b i : Nat} {u : Value} (hb : b = w.heap.size) (hu : cs[i]? = some u) : (w.alloc (.cells cs T)).cell? ⟨b, 0 + i, none⟩ = some u := by
 rw [Nat.zero_add, (Blk.new hb).at i]; exact hu
theorem gb_low {w w1 w2 : World} {rb : Nat} {r : Option Nat} (h : w.grownBy w1 (some rb)) (hg : w1.grownBy w2 r) (hr : ∀ b, r = some b → w.heap.size ≤ b) : w.grownBy w2 (some rb) :=
 ⟨hg.os.trans h.os, hg.tape.trans h.tape, hg.output.trans h.output, Nat.le_trans h.size hg.size, fun k hk hk2 => (hg.block k (Nat.lt_of_lt_of_le hk h.size) (fun e => by have := hr k e.symm; omega)).trans (h.block k hk hk2)⟩
theorem Rdr.kept {w w' : World} {rb p : Nat} {r : Option Nat} (h : Rdr w rb p) (hg : w.grownBy w' r) (hr : ∀ b, r = some b → rb < b) : Rdr w' rb p :=
 h.below (B := rb + 1) ((Below.refl _ _).grown hg h.lt (fun k hk => hr k hk)) (Nat.lt_succ_self _)
/-- What l20Perm leaves. -/
def PermPost (rb p m : Nat) (w : World) (e : Ending) (w' : World) : Prop :=
 ∃ (g cap : Nat) (zs : List Int), e = .returned (.slice (some ⟨g, 0, none⟩) m cap) ∧ zs.length = m ∧ (∀ z ∈ zs, 0 ≤ z ∧ z < m) ∧ w.heap.size ≤ g ∧ Own w' g m cap 3 1 (ints zs) ∧ Rdr w' rb (p + m) ∧ w.grownBy w' (some rb)

set_option maxRecDepth 100000 in
set_option maxHeartbeats 2000000 in
theorem l20Perm_any (rb p m : Nat) (w : World) (h : Rdr w rb p) (hp : p ≤ 1000000) (hm : m ≤ 100) :
  Calls Try.prog 109 #[.pointer (some ⟨rb, 0, none⟩), .int .i64 m] w (PermPost rb p m w) := by
 obtain ⟨i0, hi, hz0, hz1, hz2⟩ := info_parts infoIz
 have hlt := h.lt
 have hO0 : Own (w.alloc (.cells #[] 3)) w.heap.size 0 0 3 1 (ints []) := (Own.of (World.ownsRow_lit (base := w.heap.size) (e := 3) (size := 1) w #[] 0 (Nat.le_refl _) (by unfold maxLen; omega) rfl)).1
 go_enter Try.func109, Try.ntmps109
 go_wp2_with fail
 go_loopw [5, 6] (fun v i wr => ∃ (k g cap : Nat) (zs : List Int), i = .int .i64 k ∧ k ≤ m ∧ v = .slice (some ⟨g, 0, none⟩) k cap ∧ Hid (zs.length = k) ∧ Hid (∀ z ∈ zs, 0 ≤ z ∧ z < m) ∧ w.heap.size ≤ g ∧ Own wr g k cap 3 1 (ints zs) ∧ Rdr wr rb (p + k) ∧ w.grownBy wr (some rb)) (fun _ i _ => m - (intOf i).toNat)
 case atStart => exact ⟨0, w.heap.size, 0, [], rfl, Nat.zero_le _, rfl, rfl, (fun z hz => by cases hz), Nat.le_refl _, hO0, h.alloc, by (exact gbA)⟩
 case round =>
  clear hO0 h
  obtain ⟨k, g, cap, zs, rfl, hk, rfl, HZ, HZB, hg, hO, hr, hgb⟩ := hrel
  have hrlt := hr.lt
  by_cases hkm : k < m
  ·
   go_wp2_with fail
   refine (pick_any rb (p + k) _ _ hr (by omega) (by omega)).mono ?_
   rintro e w1 ⟨y, rfl, hy0, hy1, hr1, hgb1⟩
   have hO1 := hO.gb hgb1 (by omega)
   have hgA := gb_trans hgb hgb1
   have hyk : y ≤ k := by omega
   obtain ⟨t, rfl⟩ := Int.eq_ofNat_of_zero_le hy0
   have htk : t ≤ k := by omega
   have hcaps := hO1.caps
   have hcl := hcaps.2
   unfold maxLen at hcl
   have hO1lt := hO1.lt
   have hsz1 := hgA.size
   have hO2 : (w1.alloc (.cells #[] 3)).ownsRow w1.heap.size 3 1 (.slice (some ⟨w1.heap.size, 0, none⟩) 0 0) 0 [] := World.ownsRow_lit (base := w1.heap.size) (e := 3) (size := 1) w1 #[] 0 (Nat.le_refl _) (by unfold maxLen; omega) rfl
   have hOa := hO1.alloc (o := .cells #[] 3)
   have HRD : ∀ a', (t < k → a' = some ⟨g, t, none⟩) → Rds (w1.alloc (.cells #[] 3)) (.slice a' (k - t) (cap - t)) (k - t) 1 ((ints zs).drop t) := fun a' ha => by
    have := Rds.drop (Rds.ofOwn hOa) htk (show k - t ≤ cap - t by omega) (a' := a') (by intro h; rw [ha h]; simp)
    simpa using this
   have HRDH := Lib.hid HRD
   clear HRD hy1 hyk hO hr hgb hgb1 hy0
   have hn1 : ∀ u ∈ (ints zs).drop t, u.oneCell' = true := fun u hu => ints_one zs u (List.mem_of_mem_drop hu)
   have HN1 := Lib.hid hn1
   clear hn1
   have i1 : (0 : Int) ≤ (t : Int) := by omega
   have i2 : (t : Int) ≤ (k : Int) := by omega
   obtain ⟨o2, hoo, hot⟩ : ∃ o2, (if cap = t then some (⟨g, 0, none⟩ : Addr) else some ⟨g, t, none⟩) = some ⟨g, o2, none⟩ ∧ (t < k → o2 = t) := by
    by_cases hct : cap = t
    ·
     exact ⟨0, by rw [if_pos hct], fun h => by omega⟩
    ·
     exact ⟨t, by rw [if_neg hct], fun _ => rfl⟩
   have HOT := Lib.hid hot
   clear hot
   ·
    go_wp2_with (first
     | (at_builtin; refine wpList_append_rds _ rfl _ _ 54 rfl w1.heap.size 3 i0 _ 1 8 Try.underlying54 hi hz0 hz1 hz2 rfl (by decide) (.slice (some ⟨w1.heap.size, 0, none⟩) 0 0) 0 [] rfl hO2 _ (k - t) ((ints zs).drop t) rfl (HRDH.out (some ⟨g, o2, none⟩) (by intro h; rw [HOT.out h])) HN1.out (by unfold maxLen; omega) (by omega) (by simp) ?_; intro v2 w2 ho2 hgr2 hv2; (have hgr2' : World.grownBy _ w2 (some w1.heap.size) := hgr2); (have h21 := Own.gb hgr2' (by omega) hOa); (have hT := ((h21.first htk).alloc (o := .cells #[.int .i64 (k : Nat)] 3)).back hg); (have hsz2 := hgr2'.size); (rw [World.size_alloc] at hsz2); (have HV2 : Hid (∀ b, v2.ownBlock = some b → w1.heap.size ≤ b) := own_ge ho2); (have ho2a := World.ownsRow.alloc ho2 (.cells #[.int .i64 (k : Nat)] 3)); clear hgr2 h21)
     | (at_builtin; refine wpList_append_own _ rfl _ _ 54 rfl w.heap.size 3 i0 _ 1 8 Try.underlying54 hi hz0 hz1 hz2 rfl (by decide) (.slice (some ⟨g, 0, none⟩) t cap) t ((ints zs).take t) rfl hT ⟨w2.heap.size, 0, none⟩ 1 1 [.int .i64 (k : Nat)] rfl rfl (by intro j u hj; rw [Addr.add_spot]; exact keep_newz (by simp) (by simpa using hj)) (by intro u hu; simp at hu; subst hu; rfl) (by unfold maxLen; omega) (by omega) (by simp; omega) ?_; intro v3 w3 ho3 hgr3 _; (have hgr3' : World.grownBy _ w3 (some g) := hgr3); (have ho23 := ho2a.kept hgr3' (Or.inr (fun e => by have := HV2.out _ e; omega) : v2.ownBlock = none ∨ v2.ownBlock ≠ some g)); (have hsz3 := hgr3'.size); (rw [World.size_alloc] at hsz3); clear hgr3 hT ho2a)
     | (at_builtin; refine wpList_append_rds _ rfl _ _ 54 rfl w.heap.size 3 i0 _ 1 8 Try.underlying54 hi hz0 hz1 hz2 rfl (by decide) v3 (t + 1) _ rfl ho3 v2 (0 + (k - t)) _ rfl (Rds.ofOwns ho23) (by simpa using HN1.out) (by unfold maxLen; omega) (by omega) (by omega) ?_; intro v4 w4 ho4 hgr4 _))
    have hge3 : ∀ b, v3.ownBlock = some b → w.heap.size ≤ b := own_ge ho3
    have hG2 := gb_low (gb_alloc hgA) hgr2' (fun b e => by cases e; exact hsz1)
    have hG3 := gb_low (gb_alloc hG2) hgr3' (fun b e => by cases e; exact hg)
    have hG4 := gb_low hG3 hgr4 hge3
    have hR2 := (hr1.alloc).kept hgr2' (fun b e => by cases e; exact hr1.lt)
    have hR3 := (hR2.alloc).kept hgr3' (fun b e => by cases e; omega)
    have hR4 := hR3.kept hgr4 (fun b e => by have := hge3 b e; omega)
    rw [show t + 1 + (0 + (k - t)) = k + 1 by omega] at ho4
    obtain ⟨g4, c4, rfl, hg4, hO4⟩ := own_head ho4 (Nat.succ_pos k)
    clear hG2 hG3 hR2 hR3 ho4 ho3 ho23 hgr2' hgr3' hgr4 hge3 hOa hO1 hO2 hr1 hgA
    go_roundw
    case rel =>
     refine ⟨k + 1, g4, c4, zs.take t ++ [(k : Int)] ++ zs.drop t, by go_num, by omega, by first | rfl | (rw [show t + 1 + (0 + (k - t)) = k + 1 by omega]), ?_, ?_, hg4, ?_, hR4, hG4⟩
     ·
      unfold Hid; have := HZ.out; simp; omega
     ·
      intro z hz
      simp only [List.mem_append, List.mem_singleton] at hz
      rcases hz with (hz | rfl) | hz
      ·
       exact HZB.out z (List.mem_of_mem_take hz)
      ·
       omega
      ·
       exact HZB.out z (List.mem_of_mem_drop hz)
     ·
      have e : ints (zs.take t ++ [(k : Int)] ++ zs.drop t) = (ints zs).take t ++ [.int .i64 (k : Nat)] ++ ([] ++ (ints zs).drop t) := by simp [ints, List.map_take, List.map_drop]
      rw [e]; exact hO4
    case measure => simp [intOf]; omega
  ·
   obtain rfl : k = m := by omega
   go_wp2
   go_returns
   exact ⟨g, cap, zs, rfl, HZ.out, HZB.out, hg, hO, hr, hgb⟩

end Go.Proofs.Ytedadhoneebfnaa
