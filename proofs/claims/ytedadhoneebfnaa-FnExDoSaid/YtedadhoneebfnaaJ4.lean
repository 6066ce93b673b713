/- Joined texts: Sh8, Dh, DoP, Nd. -/
import Derived.Test.YtedadhoneebfnaaJ3
import Derived.Test.YtedadhoneebfnaaJ1
import Derived.Deep.QuietTactic
import Derived.BigQuiet
import Derived.Deep.RegionHeld3
import Derived.StillTailTactics
import Derived.Test.YtedadhoneebfnaaJ2
set_option linter.unusedSimpArgs false
set_option linter.unusedVariables false
/- Contracts of the laws' helpers on lists of strings, and toIntS. -/
namespace Go.Proofs.Ytedadhoneebfnaa
open Go.RowKit

/-- Lists that agree up to k, and whose next elements agree or not. -/
theorem agree_step {α : Type} {zs ys : List α} {k : Nat} {z y : α} (hz : zs[k]? = some z) (hy : ys[k]? = some y) (h : zs.take k = ys.take k) : zs.take (k + 1) = ys.take (k + 1) ↔ z = y := by
 rw [List.take_add_one, List.take_add_one, hz, hy, h]; simp
theorem infoS : (Try.prog.info? 9).map (fun i => (i.zero, i.size, i.bytes)) = some (some (.string ByteArray.empty), 1, 16) := by kernel_rfl
theorem strs_set (ps : List ByteArray) (j : Nat) (s : ByteArray) : (strs ps).set j (.string s) = strs (ps.set j s) := by simp [strs, List.map_set]
theorem strs_zero (n : Nat) : (madeCells (Value.string ByteArray.empty).cells (n * 1)).toList = strs (List.replicate n ByteArray.empty) := by
 apply List.ext_getElem?
 intro i
 by_cases hi : i < n
 ·
  simp [madeCells, Value.cells, strs, hi, List.getElem?_replicate, Nat.mod_one]
 ·
  rw [List.getElem?_eq_none (by simp [madeCells]; omega), List.getElem?_eq_none (by simp [strs]; omega)]

/-- The first k are taken over. -/
def ovTo {α : Type} (z : α) (xs : List α) (k : Nat) : List α := xs.take k ++ List.replicate (xs.length - k) z
theorem ovTo_len {α : Type} (z : α) (xs : List α) (k : Nat) (h : k ≤ xs.length) : (ovTo z xs k).length = xs.length := by simp [ovTo]; omega
theorem ovTo_zero {α : Type} (z : α) (xs : List α) : ovTo z xs 0 = List.replicate xs.length z := by simp [ovTo]
theorem ovTo_all {α : Type} (z : α) (xs : List α) : ovTo z xs xs.length = xs := by simp [ovTo]
theorem ovTo_set {α : Type} (z : α) (xs : List α) (k : Nat) (x : α) (h : xs[k]? = some x) : (ovTo z xs k).set k x = ovTo z xs (k + 1) := by
 have hk : k < xs.length := (List.getElem?_eq_some_iff.1 h).1
 have hr : xs[k] = x := (List.getElem?_eq_some_iff.1 h).2
 apply List.ext_getElem
 ·
  simp [ovTo]; omega
 ·
  intro i h1 h2
  simp only [ovTo, List.getElem_set, List.getElem_append, List.length_take, List.getElem_take, List.getElem_replicate]
  split
  ·
   subst_vars; rw [dif_pos (by omega)]
  ·
   split
   ·
    rw [dif_pos (by omega)]
   ·
    rw [dif_neg (by omega)]

/-- A list made anew, at a block's head. -/
def MadeL (E : TypeId) (cells : List Value) (n : Nat) (w : World) (e : Ending) (w' : World) : Prop :=
 ∃ g, e = .returned (.slice (some ⟨g, 0, none⟩) n n) ∧ w.heap.size ≤ g ∧ Own w' g n n E 1 cells ∧ Below w.heap.size w w'

set_option maxHeartbeats 1000000 in
theorem toStringS_any (v : Value) (ps : List ByteArray) (w : World) (hv : Rds w v ps.length 1 (strs ps)) (hlen : ps.length ≤ 1048576) :
  Calls Try.prog 29 #[v] w (MadeL 9 (strs ps) ps.length w) := by
 obtain ⟨i0, hi, hz0, hz1, hz2⟩ := info_parts infoS
 obtain ⟨a, ca, rfl, hl1, hm1, hn1, hc1⟩ := hv.open1
 unfold maxLen at hm1
 unfold MadeL
 obtain ⟨n, hn⟩ : ∃ n, ps.length = n := ⟨_, rfl⟩
 rw [hn] at hm1 hn1 hc1 hlen ⊢
 have HN := Lib.hid hn
 clear hn hl1 hv
 go_enter Try.func29, Try.ntmps29
 go_wp2_with (refine wpList_make_full _ rfl _ _ 24 rfl w.heap.size 9 i0 _ 1 Try.underlying24 hi hz0 hz1 .i64 .i64 _ _ n rfl rfl rfl rfl (by rw [hz2]; omega) (by unfold maxLen; omega) (Nat.le_refl _) ?_; intro w1 hown hgr)
 rw [strs_zero] at hown
 obtain ⟨hO, -⟩ := Own.of hown
 have hB : Below w.heap.size w w1 := (Below.refl w.heap.size w).grown hgr (Nat.le_refl _) (by intro k hk; cases hk)
 clear hown hgr
 go_wp2_with fail
 go_loopw [4] (fun i wr => ∃ (k : Nat), k ≤ n ∧ i = .int .i64 k ∧ Own wr w.heap.size n n 9 1 (strs (ovTo ByteArray.empty ps k)) ∧ Below w.heap.size w wr) (fun i _ => n - (intOf i).toNat)
 case atStart => exact ⟨0, by omega, rfl, by rw [ovTo_zero, HN.out]; exact hO, hB⟩
 case round =>
  obtain ⟨k, hk, rfl, hown, hbel⟩ := hrel
  by_cases hkn : k < n
  ·
   rcases hc1 with hc1 | ⟨b, off, rfl, hb, hc1⟩
   ·
    omega
   obtain ⟨r, hr⟩ : ∃ r, ps[k]? = some r := ⟨_, List.getElem?_eq_getElem (by rw [HN.out]; omega)⟩
   have c1 : wr.cell? ⟨b, off + k, none⟩ = some (.string r) := by rw [hbel.cell (p := ⟨b, off + k, none⟩) hb, hc1 _ (by omega), strs_at _ _ _ hr]
   have HR := Lib.hid hr
   clear hc1 hr
   have hlt := hown.lt
   obtain ⟨y, hy⟩ : ∃ y, (ovTo ByteArray.empty ps k)[k]? = some y := ⟨_, List.getElem?_eq_getElem (by rw [ovTo_len _ _ _ (by rw [HN.out]; omega), HN.out]; omega)⟩
   have d1 := hown.cell k (by omega)
   rw [strs_at _ _ _ hy] at d1
   have f1 := hown.free k
   clear hy
   go_wp2_with fail
   go_roundw
   case rel =>
    refine ⟨k + 1, by omega, by go_num, ?_, by (exact grownA)⟩
    rw [← ovTo_set _ _ _ _ HR.out, ← strs_set]
    (exact ownA)
   case measure => simp [intOf]; omega
  ·
   obtain rfl : k = n := by omega
   go_wp2
   go_returns
   have := ovTo_all ByteArray.empty ps
   rw [HN.out] at this
   rw [this] at hown
   exact ⟨_, rfl, Nat.le_refl _, hown, hbel⟩

/-- What szStringS leaves. -/
def SzsPost (ps : List ByteArray) (w : World) (e : Ending) (w' : World) : Prop :=
 ∃ x : Int, e = .returned (.int .i64 x) ∧ -1 ≤ x ∧ x ≤ 1048576 ∧ (0 ≤ x → ps.length ≤ 1048576 ∧ ∀ (k : Nat) (s : ByteArray), ps[k]? = some s → s.size ≤ 1048576) ∧ w = w'
set_option maxHeartbeats 400000 in
theorem szStringS_any (v : Value) (ps : List ByteArray) (w : World) (hv : Rds w v ps.length 1 (strs ps)) (hL : StLen ps) :
  Calls Try.prog 26 #[v, .int .i64 1048576] w (SzsPost ps w) := by
 obtain ⟨a, ca, rfl, hl1, hm1, hn1, hc1⟩ := hv.open1
 unfold maxLen at hm1
 obtain ⟨n, hn⟩ : ∃ n, ps.length = n := ⟨_, rfl⟩
 rw [hn] at hm1 hn1 hc1 ⊢
 have HN := Lib.hid hn
 have HL := Lib.hid hL
 clear hn hl1 hL hv
 by_cases hbig : 1048576 < n
 ·
  go_enter Try.func26, Try.ntmps26
  go_wp2
  go_returns
  exact ⟨-1, rfl, by omega, by omega, fun h => absurd h (by omega), rfl⟩
 ·
  go_enter Try.func26, Try.ntmps26
  go_wp2_with fail
  go_loop [1, 5] (fun l i => ∃ (k : Nat) (x : Int), k ≤ n ∧ i = .int .i64 k ∧ l = .int .i64 x ∧ 0 ≤ x ∧ x ≤ 1048576 ∧ Hid (∀ (j : Nat) (s : ByteArray), j < k → ps[j]? = some s → s.size ≤ 1048576)) (fun _ i => n - (intOf i).toNat)
  case atStart => exact ⟨0, _, by omega, rfl, rfl, by omega, by omega, fun j r h => absurd h (by omega)⟩
  case round =>
   obtain ⟨k, x, hk, rfl, rfl, hx0, hx1, hall⟩ := hrel
   by_cases hkn : k < n
   ·
    rcases hc1 with hc1 | ⟨b, off, rfl, hb, hc1⟩
    ·
     omega
    obtain ⟨s, hr⟩ : ∃ r, ps[k]? = some r := ⟨_, List.getElem?_eq_getElem (by rw [HN.out]; omega)⟩
    have c1 := hc1 k hkn
    rw [strs_at ps k s hr] at c1
    have hrl := HL.out k s hr
    unfold maxLen at hrl
    have HR := Lib.hid hr
    clear hc1 hr
    by_cases hs : x < (s.size : Int)
    ·
     have hs2 : x - s.size < 0 := by omega
     go_wp2
     go_returns
     exact ⟨-1, rfl, by omega, by omega, fun h => absurd h (by omega), rfl⟩
    ·
     have hs2 : ¬ x - s.size < 0 := by omega
     go_wp2_with fail
     go_round
     case rel =>
      refine ⟨k + 1, x - s.size, by omega, by go_num, rfl, by omega, by omega, ?_⟩
      intro j r hj hr
      by_cases e : j = k
      ·
       subst e; have := HR.out; rw [hr] at this; cases this; omega
      ·
       exact hall.out j r (by omega) hr
     case measure => simp [intOf]; omega
   ·
    obtain rfl : k = n := by omega
    go_wp2
    go_returns
    exact ⟨x, rfl, by omega, by omega, fun _ => ⟨by rw [HN.out]; omega, fun j r hr => hall.out j r (by have := (List.getElem?_eq_some_iff.1 hr).1; rw [HN.out] at this; exact this) hr⟩, rfl⟩

set_option maxHeartbeats 400000 in
theorem eqStringS_any (v u : Value) (zs ys : List ByteArray) (w : World) (hv : Rds w v zs.length 1 (strs zs)) (hu : Rds w u ys.length 1 (strs ys)) :
  Calls Try.prog 31 #[v, u] w fun e w' => e = .returned (.bool (decide (zs = ys))) ∧ Below w.heap.size w w' := by
 obtain ⟨a, ca, rfl, hl1, hm1, hn1, hc1⟩ := hv.open1
 obtain ⟨b, cb, rfl, hl2, hm2, hn2, hc2⟩ := hu.open1
 unfold maxLen at hm1 hm2
 by_cases hlen : zs.length = ys.length
 ·
  have hne : ((zs.length : Int) != (ys.length : Int)) = false := by simp; omega
  obtain ⟨m, hm⟩ : ∃ m, ys.length = m := ⟨_, rfl⟩
  rw [hm] at hne hm2 hn2 hc2 ⊢
  obtain ⟨n, hn⟩ : ∃ n, zs.length = n := ⟨_, rfl⟩
  rw [hn] at hne hm1 hn1 hc1 ⊢
  have hnm : n = m := by omega
  subst hnm
  have HM := Lib.hid hm
  have HN := Lib.hid hn
  clear hm hn hl1 hl2 hlen hv hu
  go_enter Try.func31, Try.ntmps31
  go_wp2_with fail
  go_loopw [5] (fun i wr => ∃ k q : Nat, k ≤ n ∧ i = .int .i64 k ∧ Hid (zs.take k = ys.take k) ∧ wr = w.drewN q) (fun i _ => n - (intOf i).toNat)
  case atStart => exact ⟨0, 0, by omega, rfl, rfl, rfl⟩
  case round =>
   obtain ⟨k, q, hk, rfl, hag, rfl⟩ := hrel
   by_cases hkn : k < n
   ·
    rcases hc1 with hc1 | ⟨b1, o1, rfl, hb1, hc1⟩
    ·
     omega
    rcases hc2 with hc2 | ⟨b2, o2, rfl, hb2, hc2⟩
    ·
     omega
    obtain ⟨z, hz⟩ : ∃ z, zs[k]? = some z := ⟨_, List.getElem?_eq_getElem (by rw [HN.out]; omega)⟩
    obtain ⟨y, hy⟩ : ∃ y, ys[k]? = some y := ⟨_, List.getElem?_eq_getElem (by rw [HM.out]; omega)⟩
    have g1 := hc1 k hkn
    have g2 := hc2 k hkn
    rw [strs_at _ _ _ hz] at g1
    rw [strs_at _ _ _ hy] at g2
    have hst := agree_step hz hy hag.out
    clear hz hy hc1 hc2
    by_cases hzy : z = y
    ·
     have HST := Lib.hid (hst.2 hzy)
     clear hst
     have hsb := str_eq hzy
     subst hzy
     go_wp2_with fail
     go_quiet (fail)
     go_wp2
     go_roundw
     case rel => exact ⟨k + 1, _, by omega, by go_num, HST.out, rfl⟩
     case measure => simp [intOf]; omega
    ·
     have hsb := str_ne hzy
     have HST := Lib.hid (fun h => hzy (hst.1 h))
     clear hst hzy
     go_wp2_with fail
     go_quiet (fail)
     go_wp2
     go_returns
     refine ⟨?_, by (exact grownA)⟩
     have : zs ≠ ys := fun h => HST.out (by rw [h])
     simp [this]
   ·
    obtain rfl : k = n := by omega
    go_wp2
    go_returns
    refine ⟨?_, by (exact grownA)⟩
    have h1 := hag.out
    rw [List.take_of_length_le (by rw [HN.out]; omega), List.take_of_length_le (by rw [HM.out]; omega)] at h1
    simp [h1]
 ·
  have hne : ((zs.length : Int) != (ys.length : Int)) = true := by simp; omega
  have hno : zs ≠ ys := fun h => hlen (by rw [h])
  have hdec : decide (zs = ys) = false := by simpa using hno
  rw [hdec]
  clear hdec hno hlen
  go_enter Try.func31, Try.ntmps31
  go_wp2
  go_returns
  exact ⟨rfl, Below.refl _ _⟩
set_option maxHeartbeats 400000 in
theorem sameTexts_any (v u : Value) (zs ys : List ByteArray) (w : World) (hv : Rds w v zs.length 1 (strs zs)) (hu : Rds w u ys.length 1 (strs ys)) :
  Calls Try.prog 57 #[v, u] w fun e w' => e = .returned (.bool (decide (zs = ys))) ∧ Below w.heap.size w w' := by
 obtain ⟨a, ca, rfl, hl1, hm1, hn1, hc1⟩ := hv.open1
 obtain ⟨b, cb, rfl, hl2, hm2, hn2, hc2⟩ := hu.open1
 unfold maxLen at hm1 hm2
 by_cases hlen : zs.length = ys.length
 ·
  have hne : ((zs.length : Int) != (ys.length : Int)) = false := by simp; omega
  obtain ⟨m, hm⟩ : ∃ m, ys.length = m := ⟨_, rfl⟩
  rw [hm] at hne hm2 hn2 hc2 ⊢
  obtain ⟨n, hn⟩ : ∃ n, zs.length = n := ⟨_, rfl⟩
  rw [hn] at hne hm1 hn1 hc1 ⊢
  have hnm : n = m := by omega
  subst hnm
  have HM := Lib.hid hm
  have HN := Lib.hid hn
  clear hm hn hl1 hl2 hlen hv hu
  go_enter Try.func57, Try.ntmps57
  go_wp2_with fail
  go_loopw [5] (fun i wr => ∃ k q : Nat, k ≤ n ∧ i = .int .i64 k ∧ Hid (zs.take k = ys.take k) ∧ wr = w.drewN q) (fun i _ => n - (intOf i).toNat)
  case atStart => exact ⟨0, 0, by omega, rfl, rfl, rfl⟩
  case round =>
   obtain ⟨k, q, hk, rfl, hag, rfl⟩ := hrel
   by_cases hkn : k < n
   ·
    rcases hc1 with hc1 | ⟨b1, o1, rfl, hb1, hc1⟩
    ·
     omega
    rcases hc2 with hc2 | ⟨b2, o2, rfl, hb2, hc2⟩
    ·
     omega
    obtain ⟨z, hz⟩ : ∃ z, zs[k]? = some z := ⟨_, List.getElem?_eq_getElem (by rw [HN.out]; omega)⟩
    obtain ⟨y, hy⟩ : ∃ y, ys[k]? = some y := ⟨_, List.getElem?_eq_getElem (by rw [HM.out]; omega)⟩
    have g1 := hc1 k hkn
    have g2 := hc2 k hkn
    rw [strs_at _ _ _ hz] at g1
    rw [strs_at _ _ _ hy] at g2
    have hst := agree_step hz hy hag.out
    clear hz hy hc1 hc2
    by_cases hzy : z = y
    ·
     have HST := Lib.hid (hst.2 hzy)
     clear hst
     have hsb := str_eq hzy
     subst hzy
     go_wp2_with fail
     go_quiet (fail)
     go_wp2
     go_roundw
     case rel => exact ⟨k + 1, _, by omega, by go_num, HST.out, rfl⟩
     case measure => simp [intOf]; omega
    ·
     have hsb := str_ne hzy
     have HST := Lib.hid (fun h => hzy (hst.1 h))
     clear hst hzy
     go_wp2_with fail
     go_quiet (fail)
     go_wp2
     go_returns
     refine ⟨?_, by (exact grownA)⟩
     have : zs ≠ ys := fun h => HST.out (by rw [h])
     simp [this]
   ·
    obtain rfl : k = n := by omega
    go_wp2
    go_returns
    refine ⟨?_, by (exact grownA)⟩
    have h1 := hag.out
    rw [List.take_of_length_le (by rw [HN.out]; omega), List.take_of_length_le (by rw [HM.out]; omega)] at h1
    simp [h1]
 ·
  have hne : ((zs.length : Int) != (ys.length : Int)) = true := by simp; omega
  have hno : zs ≠ ys := fun h => hlen (by rw [h])
  have hdec : decide (zs = ys) = false := by simpa using hno
  rw [hdec]
  clear hdec hno hlen
  go_enter Try.func57, Try.ntmps57
  go_wp2
  go_returns
  exact ⟨rfl, Below.refl _ _⟩

/-- What the marks write. -/
def smarks (k n : Nat) : List ByteArray := (List.range n).map fun i => mt (k + i)
theorem smarks_len (k n : Nat) : (smarks k n).length = n := by simp [smarks]
theorem smarks_at (k n i : Nat) (h : i < n) : (smarks k n)[i]? = some (mt (k + i)) := by simp [smarks, h]
def smarkTo (ps : List ByteArray) (k j : Nat) : List ByteArray := smarks k j ++ ps.drop j
theorem smarkTo_zero (ps : List ByteArray) (k : Nat) : smarkTo ps k 0 = ps := by simp [smarkTo, smarks]
theorem smarkTo_all (ps : List ByteArray) (k : Nat) : smarkTo ps k ps.length = smarks k ps.length := by simp [smarkTo]
theorem smarkTo_len (ps : List ByteArray) (k j : Nat) (h : j ≤ ps.length) : (smarkTo ps k j).length = ps.length := by simp [smarkTo, smarks]; omega
theorem smarkTo_set (ps : List ByteArray) (k j : Nat) (h : j < ps.length) : (smarkTo ps k j).set j (mt (k + j)) = smarkTo ps k (j + 1) := by
 apply List.ext_getElem
 ·
  simp [smarkTo, smarks]; omega
 ·
  intro i h1 h2
  simp only [List.getElem_set, smarkTo, smarks, List.getElem_append, List.length_map, List.length_range, List.getElem_map, List.getElem_range, List.getElem_drop]
  split
  ·
   subst_vars; rw [dif_pos (by omega)]
  ·
   split
   ·
    rw [dif_pos (by omega)]
   ·
    rw [dif_neg (by omega)]; congr 1; omega

set_option maxHeartbeats 400000 in
theorem markStrs (g n cap : Nat) (ps : List ByteArray) (k : Nat) (w : World) (hv : Own w g n cap 9 1 (strs ps)) (hk0 : 0 < k) (hk : k ≤ 1000000) (hn : n ≤ 10000000) :
  Calls Try.prog 32 #[.slice (some ⟨g, 0, none⟩) n cap, .int .i64 k] w fun e w' => e = .returned (.int .i64 (k + n : Nat)) ∧ Own w' g n cap 9 1 (strs (smarks k n)) ∧ w.grownBy w' (some g) := by
 have hlen := hv.len
 rw [strs_len] at hlen
 have hlen' : ps.length = n := by omega
 have HLEN := Lib.hid hlen'
 clear hlen hlen'
 go_enter Try.func32, Try.ntmps32
 go_wp2_with fail
 go_loopw [1, 5] (fun kk i wr => ∃ j : Nat, j ≤ n ∧ i = .int .i64 j ∧ kk = .int .i64 (k + j : Nat) ∧ Own wr g n cap 9 1 (strs (smarkTo ps k j)) ∧ w.grownBy wr (some g)) (fun _ i _ => n - (intOf i).toNat)
 case atStart => exact ⟨0, by omega, rfl, by simp, by rw [smarkTo_zero]; exact hv, World.grownBy.refl _ _⟩
 case round =>
  obtain ⟨j, hj, rfl, rfl, hown, hgr⟩ := hrel
  by_cases hjn : j < n
  ·
   have hlt := hown.lt
   go_wp2_with fail
   refine (markText_any (k + j) _ (by omega) (by omega)).mono ?_
   rintro e w2 ⟨rfl, hb2⟩
   have hown2 := hown.below hb2 hlt
   have hgr2 : w.grownBy w2 (some g) := gb_below hb2 hgr.size hgr
   have hlt2 := hown2.lt
   obtain ⟨y, hy⟩ : ∃ y, (smarkTo ps k j)[j]? = some y := ⟨_, List.getElem?_eq_getElem (by rw [smarkTo_len _ _ _ (by rw [HLEN.out]; omega), HLEN.out]; omega)⟩
   have d1 := hown2.cell j (by omega)
   rw [strs_at _ _ _ hy] at d1
   have f1 := hown2.free j
   clear hown hy hb2
   go_wp2_with fail
   go_roundw
   case rel =>
    refine ⟨j + 1, by omega, by go_num, by go_num, ?_, ?_⟩
    ·
     rw [← smarkTo_set _ _ _ (by rw [HLEN.out]; omega), ← strs_set]
     (exact ownA)
    ·
     (exact gbA)
   case measure => simp [intOf]; omega
  ·
   obtain rfl : j = n := by omega
   go_wp2
   go_returns
   refine ⟨rfl, ?_, hgr⟩
   have := smarkTo_all ps k
   rw [HLEN.out] at this
   rw [← this]
   exact hown

set_option maxHeartbeats 400000 in
theorem markStrs_any (base : Nat) (v : Value) (n : Nat) (ps : List ByteArray) (k : Nat) (w : World) (hv : w.ownsRow base 9 1 v n (strs ps)) (hk0 : 0 < k) (hk : k ≤ 1000000) (hn : n ≤ 10000000) :
  Calls Try.prog 32 #[v, .int .i64 k] w fun e w' => e = .returned (.int .i64 (k + n : Nat)) ∧ w'.ownsRow base 9 1 v n (strs (smarks k n)) ∧ w.grownBy w' v.ownBlock := by
 rcases hv.2 with ⟨rfl, rfl⟩ | ⟨g, cap, cur, rfl, hb, _⟩
 ·
  clear hv
  go_enter Try.func32, Try.ntmps32
  go_wp2_with fail
  refine wp_loop_rounds 1 ?_
  rw [rounds_succ]
  go_wp2
  go_returns
  exact ⟨by simp, World.ownsRow_nil _ _ _ _, World.grownBy.refl _ _⟩
 ·
  refine (markStrs g n cap ps k w (Own.of hv).1 hk0 hk hn).mono ?_
  rintro e w' ⟨rfl, h1, h2⟩
  exact ⟨rfl, h1.back hb, h2⟩

set_option maxRecDepth 100000 in
set_option maxHeartbeats 400000 in
theorem heldStrs_any (v : Value) (n k : Nat) (w : World) (hv : Rds w v n 1 (strs (smarks k n))) (hk0 : 0 < k) (hk : k ≤ 1000000) (hn : n ≤ 10000000) :
  Calls Try.prog 78 #[v, .int .i64 k] w fun e w' => e = .returned (.int .i64 (k + n : Nat)) ∧ Below w.heap.size w w' := by
 obtain ⟨a, ca, rfl, hl1, hm1, hn1, hc1⟩ := hv.open1
 unfold maxLen at hm1
 clear hl1 hv
 go_enter Try.func78, Try.ntmps78
 go_wp2_with fail
 go_loopw [1, 5] (fun kk i wr => ∃ j : Nat, j ≤ n ∧ i = .int .i64 j ∧ kk = .int .i64 (k + j : Nat) ∧ Below w.heap.size w wr) (fun _ i _ => n - (intOf i).toNat)
 case atStart => exact ⟨0, by omega, rfl, by simp, Below.refl _ _⟩
 case round =>
  obtain ⟨j, hj, rfl, rfl, hbel⟩ := hrel
  have hz := hbel.size
  by_cases hjn : j < n
  ·
   rcases hc1 with hc1 | ⟨b, off, rfl, hb, hc1⟩
   ·
    omega
   have c1 : wr.cell? ⟨b, off + j, none⟩ = some (.string (mt (k + j))) := by rw [hbel.cell (p := ⟨b, off + j, none⟩) hb, hc1 _ (by omega), strs_at _ _ _ (smarks_at k n j hjn)]
   have hsb := str_eq (rfl : mt (k + j) = mt (k + j))
   have hblt : b < wr.heap.size := by omega
   clear hc1
   go_wp2_with fail
   go_region_held3 (fun w' => w'.cell? ⟨b, off + j, none⟩ = some (.string (mt (k + j)))) (exact keepA)
    (first | (go_at_call 76; refine (markText_any (k + j) _ (by omega) (by omega)).mono ?_; rintro e w2 ⟨rfl, hb2⟩))
   have hz2 := hb2.size
   have hbel2 : Below w.heap.size w w2 := by (exact grownA)
   clear hb2 c1
   go_wp2_with fail
   go_roundw
   case rel => exact ⟨j + 1, by omega, by go_num, by go_num, by (exact grownA)⟩
   case measure => simp [intOf]; omega
  ·
   obtain rfl : j = n := by omega
   go_wp2
   go_returns
   exact ⟨rfl, hbel⟩

end Go.Proofs.Ytedadhoneebfnaa

/- Contracts of the laws' helpers on deeds. -/
namespace Go.Proofs.Ytedadhoneebfnaa
open Go.RowKit

theorem infoD : (Try.prog.info? 68).map (fun i => (i.zero, i.size, i.bytes)) = some (some (.agg #[.int .i64 0, .int .i64 0, .string ByteArray.empty]), 3, 32) := by kernel_rfl

set_option maxHeartbeats 400000 in
theorem eqExDeed_any (a b x y : Int) (s t : ByteArray) (w : World) :
  Calls Try.prog 80 #[.agg #[.int .i64 a, .int .i64 b, .string s], .agg #[.int .i64 x, .int .i64 y, .string t]] w fun e w' => e = .returned (.bool (decide ((a, b, s) = (x, y, t)))) ∧ Below w.heap.size w w' := by
 by_cases h1 : a = x
 ·
  subst h1
  by_cases h2 : b = y
  ·
   subst h2
   by_cases h3 : s = t
   ·
    have hsb := str_eq h3
    subst h3
    go_enter Try.func80, Try.ntmps80
    go_wp2
    go_returns
    exact ⟨by simp, by (exact grownA)⟩
   ·
    have hsb := str_ne h3
    have hd : decide ((a, b, s) = (a, b, t)) = false := by simpa using h3
    rw [hd]
    clear hd h3
    go_enter Try.func80, Try.ntmps80
    go_wp2
    go_returns
    exact ⟨rfl, by (exact grownA)⟩
  ·
   have hob : (b != y) = true := by simpa using h2
   have hd : decide ((a, b, s) = (a, y, t)) = false := by simp [h2]
   rw [hd]
   clear hd
   go_enter Try.func80, Try.ntmps80
   go_wp2
   go_returns
   exact ⟨rfl, by (exact grownA)⟩
 ·
  have hob : (a != x) = true := by simpa using h1
  have hd : decide ((a, b, s) = (x, y, t)) = false := by simp [h1]
  rw [hd]
  clear hd
  go_enter Try.func80, Try.ntmps80
  go_wp2
  go_returns
  exact ⟨rfl, by (exact grownA)⟩

set_option maxRecDepth 100000 in
set_option maxHeartbeats 1000000 in
theorem eqExDeedS_any (v u : Value) (zs ys : List Ded) (w : World) (hv : Rds w v zs.length 3 (dcells zs)) (hu : Rds w u ys.length 3 (dcells ys)) :
  Calls Try.prog 37 #[v, u] w fun e w' => e = .returned (.bool (decide (zs = ys))) ∧ Below w.heap.size w w' := by
 obtain ⟨hl1, hm1, a, ca, rfl, hn1, hc1⟩ := hv
 obtain ⟨hl2, hm2, b, cb, rfl, hn2, hc2⟩ := hu
 unfold maxLen at hm1 hm2
 by_cases hlen : zs.length = ys.length
 ·
  have hne : ((zs.length : Int) != (ys.length : Int)) = false := by simp; omega
  obtain ⟨m, hm⟩ : ∃ m, ys.length = m := ⟨_, rfl⟩
  rw [hm] at hne hm2 hn2 hc2 ⊢
  obtain ⟨n, hn⟩ : ∃ n, zs.length = n := ⟨_, rfl⟩
  rw [hn] at hne hm1 hn1 hc1 ⊢
  have hnm : n = m := by omega
  subst hnm
  have HM := Lib.hid hm
  have HN := Lib.hid hn
  clear hm hn hl1 hl2 hlen
  go_enter Try.func37, Try.ntmps37
  go_wp2_with fail
  go_loopw [5] (fun i wr => ∃ k : Nat, k ≤ n ∧ i = .int .i64 k ∧ Hid (zs.take k = ys.take k) ∧ Below w.heap.size w wr) (fun i _ => n - (intOf i).toNat)
  case atStart => exact ⟨0, by omega, rfl, rfl, Below.refl _ _⟩
  case round =>
   obtain ⟨k, hk, rfl, hag, hbel⟩ := hrel
   have hz := hbel.size
   by_cases hkn : k < n
   ·
    rcases hc1 with hc1 | ⟨b1, o1, rfl, hb1, hc1⟩
    ·
     omega
    rcases hc2 with hc2 | ⟨b2, o2, rfl, hb2, hc2⟩
    ·
     omega
    obtain ⟨z, hz⟩ : ∃ z, zs[k]? = some z := ⟨_, List.getElem?_eq_getElem (by rw [HN.out]; omega)⟩
    obtain ⟨y, hy⟩ : ∃ y, ys[k]? = some y := ⟨_, List.getElem?_eq_getElem (by rw [HM.out]; omega)⟩
    obtain ⟨g1, g2, g3⟩ := dcells_at zs k z hz
    obtain ⟨g4, g5, g6⟩ := dcells_at ys k y hy
    have c1 : wr.cell? ⟨b1, o1 + k * 3, none⟩ = some (.int .i64 z.1) := by rw [hbel.cell (p := ⟨b1, o1 + k * 3, none⟩) hb1, hc1 _ (by omega), g1]
    have c2 : wr.cell? ⟨b1, o1 + k * 3 + 1, none⟩ = some (.int .i64 z.2.1) := by rw [Nat.add_assoc, hbel.cell (p := ⟨b1, o1 + (k * 3 + 1), none⟩) hb1, hc1 _ (by omega), g2]
    have c3 : wr.cell? ⟨b1, o1 + k * 3 + 2, none⟩ = some (.string z.2.2) := by rw [Nat.add_assoc, hbel.cell (p := ⟨b1, o1 + (k * 3 + 2), none⟩) hb1, hc1 _ (by omega), g3]
    have c4 : wr.cell? ⟨b2, o2 + k * 3, none⟩ = some (.int .i64 y.1) := by rw [hbel.cell (p := ⟨b2, o2 + k * 3, none⟩) hb2, hc2 _ (by omega), g4]
    have c5 : wr.cell? ⟨b2, o2 + k * 3 + 1, none⟩ = some (.int .i64 y.2.1) := by rw [Nat.add_assoc, hbel.cell (p := ⟨b2, o2 + (k * 3 + 1), none⟩) hb2, hc2 _ (by omega), g5]
    have c6 : wr.cell? ⟨b2, o2 + k * 3 + 2, none⟩ = some (.string y.2.2) := by rw [Nat.add_assoc, hbel.cell (p := ⟨b2, o2 + (k * 3 + 2), none⟩) hb2, hc2 _ (by omega), g6]
    have HST := Lib.hid (agree_step hz hy hag.out)
    clear hz hy hc1 hc2 g1 g2 g3 g4 g5 g6 hag
    go_wp2_with fail
    go_still_tail 8, (by kernel_rfl)
    change wpList _ _ _ _ _ wr.drew
    go_wp2_with fail
    refine (eqExDeed_any z.1 z.2.1 y.1 y.2.1 z.2.2 y.2.2 _).mono ?_
    rintro e w1 ⟨rfl, hb1'⟩
    by_cases hzy : z = y
    ·
     have hd : decide ((z.1, z.2.1, z.2.2) = (y.1, y.2.1, y.2.2)) = true := by simp [hzy]
     rw [hd]
     clear hd
     go_wp2_with fail
     go_roundw
     case rel => exact ⟨k + 1, by omega, by go_num, HST.out.2 hzy, by (exact grownA)⟩
     case measure => simp [intOf]; omega
    ·
     have hd : decide ((z.1, z.2.1, z.2.2) = (y.1, y.2.1, y.2.2)) = false := by simp only [decide_eq_false_iff_not]; exact fun e => hzy e
     rw [hd]
     clear hd
     have HZ : Hid (zs ≠ ys) := fun h => hzy (HST.out.1 (by rw [h]))
     clear hzy
     go_wp2
     go_returns
     exact ⟨by simp [HZ.out], by (exact grownA)⟩
   ·
    obtain rfl : k = n := by omega
    go_wp2
    go_returns
    refine ⟨?_, hbel⟩
    have h1 := hag.out
    rw [List.take_of_length_le (by rw [HN.out]; omega), List.take_of_length_le (by rw [HM.out]; omega)] at h1
    simp [h1]
 ·
  have hne : ((zs.length : Int) != (ys.length : Int)) = true := by simp; omega
  have hno : zs ≠ ys := fun h => hlen (by rw [h])
  have hdec : decide (zs = ys) = false := by simpa using hno
  rw [hdec]
  clear hdec hno hlen hc1 hc2 hl1 hl2
  go_enter Try.func37, Try.ntmps37
  go_wp2
  go_returns
  exact ⟨rfl, Below.refl _ _⟩

/-- What the marks write. -/
def dmarks (k n : Nat) : List Ded := (List.range n).map fun i => (((k + 3 * i : Nat) : Int), ((k + 3 * i + 1 : Nat) : Int), mt (k + 3 * i + 2))
theorem dmarks_len (k n : Nat) : (dmarks k n).length = n := by simp [dmarks]
theorem dmarks_at (k n i : Nat) (h : i < n) : (dmarks k n)[i]? = some (((k + 3 * i : Nat) : Int), ((k + 3 * i + 1 : Nat) : Int), mt (k + 3 * i + 2)) := by simp [dmarks, h]
def dmarkTo (cs : List Ded) (k j : Nat) : List Ded := dmarks k j ++ cs.drop j
theorem dmarkTo_zero (cs : List Ded) (k : Nat) : dmarkTo cs k 0 = cs := by simp [dmarkTo, dmarks]
theorem dmarkTo_all (cs : List Ded) (k : Nat) : dmarkTo cs k cs.length = dmarks k cs.length := by simp [dmarkTo]
theorem dmarkTo_len (cs : List Ded) (k j : Nat) (h : j ≤ cs.length) : (dmarkTo cs k j).length = cs.length := by simp [dmarkTo, dmarks]; omega
theorem dmarkTo_set (cs : List Ded) (k j : Nat) (h : j < cs.length) : (dmarkTo cs k j).set j (((k + 3 * j : Nat) : Int), ((k + 3 * j + 1 : Nat) : Int), mt (k + 3 * j + 2)) = dmarkTo cs k (j + 1) := by
 apply List.ext_getElem
 ·
  simp [dmarkTo, dmarks]; omega
 ·
  intro i h1 h2
  simp only [List.getElem_set, dmarkTo, dmarks, List.getElem_append, List.length_map, List.length_range, List.getElem_map, List.getElem_range, List.getElem_drop]
  split
  ·
   subst_vars; rw [dif_pos (by omega)]
  ·
   split
   ·
    rw [dif_pos (by omega)]
   ·
    rw [dif_neg (by omega)]; congr 1; omega

set_option maxRecDepth 100000 in
set_option maxHeartbeats 1000000 in
theorem markDeeds (g n cap : Nat) (ds : List Ded) (k : Nat) (w : World) (hv : Own w g n cap 68 3 (dcells ds)) (hk0 : 0 < k) (hk : k ≤ 100000000) (hn : n ≤ 10000000) :
  Calls Try.prog 38 #[.slice (some ⟨g, 0, none⟩) n cap, .int .i64 k] w fun e w' => e = .returned (.int .i64 (k + 3 * n : Nat)) ∧ Own w' g n cap 68 3 (dcells (dmarks k n)) ∧ w.grownBy w' (some g) := by
 have hlen := hv.len
 rw [dcells_len] at hlen
 have hlen' : ds.length = n := by omega
 have HLEN := Lib.hid hlen'
 clear hlen hlen'
 go_enter Try.func38, Try.ntmps38
 go_wp2_with fail
 go_loopw [1, 5] (fun kk i wr => ∃ j : Nat, j ≤ n ∧ i = .int .i64 j ∧ kk = .int .i64 (k + 3 * j : Nat) ∧ Own wr g n cap 68 3 (dcells (dmarkTo ds k j)) ∧ w.grownBy wr (some g)) (fun _ i _ => n - (intOf i).toNat)
 case atStart => exact ⟨0, by omega, rfl, by simp, by rw [dmarkTo_zero]; exact hv, World.grownBy.refl _ _⟩
 case round =>
  obtain ⟨j, hj, rfl, rfl, hown, hgr⟩ := hrel
  by_cases hjn : j < n
  ·
   have hlt := hown.lt
   obtain ⟨y, hy⟩ : ∃ y, (dmarkTo ds k j)[j]? = some y := ⟨_, List.getElem?_eq_getElem (by rw [dmarkTo_len _ _ _ (by rw [HLEN.out]; omega), HLEN.out]; omega)⟩
   obtain ⟨y1, y2, y3⟩ := dcells_at _ _ _ hy
   have d1 := hown.cell (j * 3) (by omega)
   rw [y1] at d1
   have d2 := hown.cell (j * 3 + 1) (by omega)
   rw [y2] at d2
   have f1 := hown.free (j * 3)
   have f2 := hown.free (j * 3 + 1)
   clear hy y1 y2
   have HY3 := Lib.hid y3
   clear y3
   go_wp2_with fail
   refine (markText_any (k + 3 * j + 2) _ (by omega) (by omega)).mono ?_
   rintro e w2 ⟨rfl, hb2⟩
   have hown2 : Own w2 g n cap 68 3 (((dcells (dmarkTo ds k j)).set (j * 3) (.int .i64 (k + 3 * j : Nat))).set (j * 3 + 1) (.int .i64 (k + 3 * j + 1 : Nat))) := by
    refine Own.below hb2 (by simpa using hlt) ?_
    (exact ownA)
   have hgr2 : w.grownBy w2 (some g) := by
    refine gb_below hb2 (by simpa using hgr.size) ?_
    (exact gbA)
   have hlt2 := hown2.lt
   have d3 := hown2.cell (j * 3 + 2) (by omega)
   rw [List.getElem?_set_ne (by omega), List.getElem?_set_ne (by omega), HY3.out] at d3
   have f3 := hown2.free (j * 3 + 2)
   clear hown hb2 d1 d2 f1 f2 hgr
   go_wp2_with fail
   go_roundw
   case rel =>
    refine ⟨j + 1, by omega, by go_num, by go_num, ?_, ?_⟩
    ·
     rw [← dmarkTo_set _ _ _ (by rw [HLEN.out]; omega), ← dcells_set _ _ _ (by rw [dmarkTo_len _ _ _ (by rw [HLEN.out]; omega), HLEN.out]; omega)]
     (exact ownA)
    ·
     (exact gbA)
   case measure => simp [intOf]; omega
  ·
   obtain rfl : j = n := by omega
   go_wp2
   go_returns
   refine ⟨rfl, ?_, hgr⟩
   have := dmarkTo_all ds k
   rw [HLEN.out] at this
   rw [← this]
   exact hown
set_option maxHeartbeats 400000 in
theorem markDeeds_any (base : Nat) (v : Value) (n : Nat) (cs : List Ded) (k : Nat) (w : World) (hv : w.ownsRow base 68 3 v n (dcells cs)) (hk0 : 0 < k) (hk : k ≤ 100000000) (hn : n ≤ 10000000) :
  Calls Try.prog 38 #[v, .int .i64 k] w fun e w' => e = .returned (.int .i64 (k + 3 * n : Nat)) ∧ w'.ownsRow base 68 3 v n (dcells (dmarks k n)) ∧ w.grownBy w' v.ownBlock := by
 rcases hv.2 with ⟨rfl, rfl⟩ | ⟨g, cap, cur, rfl, hb, _⟩
 ·
  clear hv
  go_enter Try.func38, Try.ntmps38
  go_wp2_with fail
  refine wp_loop_rounds 1 ?_
  rw [rounds_succ]
  go_wp2
  go_returns
  exact ⟨by simp, World.ownsRow_nil _ _ _ _, World.grownBy.refl _ _⟩
 ·
  refine (markDeeds g n cap cs k w (Own.of hv).1 hk0 hk hn).mono ?_
  rintro e w' ⟨rfl, h1, h2⟩
  exact ⟨rfl, h1.back hb, h2⟩

set_option maxRecDepth 100000 in
set_option maxHeartbeats 400000 in
theorem heldDeeds_any (v : Value) (n k : Nat) (w : World) (hv : Rds w v n 3 (dcells (dmarks k n))) (hk0 : 0 < k) (hk : k ≤ 100000000) (hn : n ≤ 10000000) :
  Calls Try.prog 39 #[v, .int .i64 k] w fun e w' => e = .returned (.int .i64 (k + 3 * n : Nat)) ∧ Below w.heap.size w w' := by
 obtain ⟨hl1, hm1, a, ca, rfl, hn1, hc1⟩ := hv
 unfold maxLen at hm1
 clear hl1
 go_enter Try.func39, Try.ntmps39
 go_wp2_with fail
 go_loopw [1, 5] (fun kk i wr => ∃ j : Nat, j ≤ n ∧ i = .int .i64 j ∧ kk = .int .i64 (k + 3 * j : Nat) ∧ Below w.heap.size w wr) (fun _ i _ => n - (intOf i).toNat)
 case atStart => exact ⟨0, by omega, rfl, by simp, Below.refl _ _⟩
 case round =>
  obtain ⟨j, hj, rfl, rfl, hbel⟩ := hrel
  by_cases hjn : j < n
  ·
   rcases hc1 with hc1 | ⟨b, off, rfl, hb, hc1⟩
   ·
    omega
   obtain ⟨g1, g2, g3⟩ := dcells_at _ _ _ (dmarks_at k n j hjn)
   have c1 : wr.cell? ⟨b, off + j * 3, none⟩ = some (.int .i64 (k + 3 * j : Nat)) := by rw [hbel.cell (p := ⟨b, off + j * 3, none⟩) hb, hc1 _ (by omega), g1]
   have c2 : wr.cell? ⟨b, off + j * 3 + 1, none⟩ = some (.int .i64 (k + 3 * j + 1 : Nat)) := by rw [Nat.add_assoc, hbel.cell (p := ⟨b, off + (j * 3 + 1), none⟩) hb, hc1 _ (by omega), g2]
   have c3 : wr.cell? ⟨b, off + j * 3 + 2, none⟩ = some (.string (mt (k + 3 * j + 2))) := by rw [Nat.add_assoc, hbel.cell (p := ⟨b, off + (j * 3 + 2), none⟩) hb, hc1 _ (by omega), g3]
   have hsb := str_eq (rfl : mt (k + 3 * j + 2) = mt (k + 3 * j + 2))
   have hz := hbel.size
   have hblt : b < wr.heap.size := by omega
   clear hc1 g1 g2 g3
   go_wp2_with fail
   go_region_held3 (fun w' => w'.cell? ⟨b, off + j * 3 + 2, none⟩ = some (.string (mt (k + 3 * j + 2)))) (exact keepA)
    (first | (go_at_call 76; refine (markText_any (k + 3 * j + 2) _ (by omega) (by omega)).mono ?_; rintro e w2 ⟨rfl, hb2⟩))
   have hz2 := hb2.size
   have hbel2 : Below w.heap.size w w2 := by (exact grownA)
   clear hb2 c1 c2 c3
   go_wp2_with fail
   go_roundw
   case rel => exact ⟨j + 1, by omega, by go_num, by go_num, by (exact grownA)⟩
   case measure => simp [intOf]; omega
  ·
   obtain rfl : j = n := by omega
   go_wp2
   go_returns
   exact ⟨rfl, hbel⟩

end Go.Proofs.Ytedadhoneebfnaa

/- Deeds of an exchange, plain: what they do, and that they keep it valid. No program in sight. -/
namespace Go.Proofs.Ytedadhoneebfnaa

/-- All ends of calls are different lines. -/
theorem ExOk.only {O E M : Int} {ps : List ByteArray} {cs : List Cl} (h : ExOk O E M ps cs) {c d : Cl} {x : Int} (hc : c ∈ cs) (hd : d ∈ cs) (h1 : hasE x c = true) (h2 : hasE x d = true) : c = d := by
 simp only [hasE, Bool.or_eq_true, decide_eq_true_eq] at h1 h2
 rcases h1 with h1 | h1 <;> rcases h2 with h2 | h2
 ·
  exact h.calls.one hc hd (.inl (by omega))
 ·
  exact absurd (show c.1 = d.2.1 by omega) (h.part c hc d hd)
 ·
  exact absurd (show d.1 = c.2.1 by omega) (h.part d hd c hc)
 ·
  exact h.calls.one hc hd (.inr (by omega))
theorem ExOk.apart {O E M : Int} {ps : List ByteArray} {cs : List Cl} (h : ExOk O E M ps cs) {c : Cl} (hc : c ∈ cs) : c.1 ≠ c.2.1 := h.part c hc c hc
theorem ExOk.bare {O E M : Int} {ps : List ByteArray} {cs : List Cl} (h : ExOk O E M ps cs) : ExOk O E M ps [] :=
 ⟨⟨h.calls.sh, fun k c hc => by simp at hc, fun j k d c _ hd => by simp at hd⟩, h.en, h.plan, h.len, fun c hc => by simp at hc⟩
/-- A call found is the call that there is. -/
theorem ExOk.find {O E M : Int} {ps : List ByteArray} {cs : List Cl} (h : ExOk O E M ps cs) {c : Cl} {x : Int} (hc : c ∈ cs) (h1 : hasE x c = true) : cs.find? (hasE x) = some c := by
 cases hf : cs.find? (hasE x) with
 | none =>
  rw [List.find?_eq_none] at hf
  exact absurd h1 (hf c hc)
 | some d => rw [h.only hc (List.mem_of_find?_eq_some hf) h1 (List.find?_some hf)]
theorem hasE_in (c : Cl) : hasE c.1 c = true := by simp [hasE]
theorem hasE_out (c : Cl) : hasE c.2.1 c = true := by simp [hasE]
theorem ExOk.peer_peer {O E M : Int} {ps : List ByteArray} {cs : List Cl} (h : ExOk O E M ps cs) {x : Int} (hx : 0 ≤ peerL cs x) : peerL cs (peerL cs x) = x ∧ peerL cs x ≠ x ∧ peerL cs x < ps.length := by
 rcases peer_neg h.calls x with ⟨h1, _⟩ | ⟨c, hf, hc, h2, h3, h4⟩
 ·
  omega
 ·
  have hl := h.len
  have ha := h.apart hc
  rcases h2 with ⟨e1, e2⟩ | ⟨e1, e2⟩
  ·
   rw [e2, peer_some (h.find hc (hasE_out c))]
   exact ⟨by omega, by omega, by omega⟩
  ·
   rw [e2, peer_some (h.find hc (hasE_in c))]
   exact ⟨by omega, by omega, by omega⟩

/-! The ends alone. -/
def ends (c : Cl) : Int × Int := (c.1, c.2.1)
def hasP (x : Int) (p : Int × Int) : Bool := decide (p.1 = x) || decide (p.2 = x)
theorem flip_ends (a b : Int) (ch : List Nat) (cs : List Cl) : (flipL a b ch cs).map ends = cs.map ends := by
 apply List.ext_getElem?
 intro k
 cases hk : cs[k]? with
 | none =>
  have : cs.length ≤ k := by rw [List.getElem?_eq_none_iff] at hk; exact hk
  rw [List.getElem?_eq_none (by simp [flipL]; omega), List.getElem?_eq_none (by simp; omega)]
 | some c => rw [List.getElem?_map, List.getElem?_map, flipL_at hk, hk]; rfl
theorem move_ends (E M : Int) (cs : List Cl) (x y : Int) : (moveL E M cs x y).map ends = cs.map ends ++ [(x, y)] := by
 unfold moveL
 split
 ·
  simp [ends]
 ·
  simp only [List.map_append, flip_ends]; simp [ends]
theorem peer_ends (cs : List Cl) (x : Int) : peerL cs x = match (cs.map ends).find? (hasP x) with
  | some p => p.1 + p.2 - x
  | none => -1 := by
 unfold peerL
 rw [List.find?_map]
 have : (hasP x ∘ ends) = hasE x := rfl
 rw [this]
 cases cs.find? (hasE x) <;> rfl
theorem mem_ends {cs : List Cl} {p : Int × Int} : p ∈ cs.map ends ↔ ∃ c ∈ cs, ends c = p := by simp [List.mem_map]
theorem part_ends {cs : List Cl} : PartOk cs ↔ ∀ p ∈ cs.map ends, ∀ q ∈ cs.map ends, p.1 ≠ q.2 := by
 constructor
 ·
  intro h p hp q hq
  obtain ⟨c, hc, rfl⟩ := mem_ends.1 hp
  obtain ⟨d, hd, rfl⟩ := mem_ends.1 hq
  exact h c hc d hd
 ·
  intro h c hc d hd
  exact h (ends c) (mem_ends.2 ⟨c, hc, rfl⟩) (ends d) (mem_ends.2 ⟨d, hd, rfl⟩)
theorem find_free {cs : List Cl} {x : Int} (h : cs.find? (hasE x) = none) : ∀ c ∈ cs, c.1 ≠ x ∧ c.2.1 ≠ x := by
 intro c hc
 rw [List.find?_eq_none] at h
 have := h c hc
 simp [hasE] at this
 exact this

/-! Deeds. -/
def dropL (cs : List Cl) (x : Int) : List Cl := cs.filter fun c => !decide (c.1 = x)
noncomputable def doL (E M : Int) (ps : List ByteArray) (cs : List Cl) (kind line : Int) (num : ByteArray) : Option (List ByteArray × List Cl) :=
 if line < 0 ∨ (ps.length : Int) ≤ line then none
 else if kind = 0 then
  (if lineL ps num < 0 ∨ lineL ps num = line ∨ 0 ≤ peerL cs line ∨ 0 ≤ peerL cs (lineL ps num) then none else some (ps, moveL E M cs line (lineL ps num)))
 else if kind = 1 then
  (if num ≠ ByteArray.empty then none else match cs.find? (hasE line) with
   | none => none
   | some c => some (ps, dropL cs c.1))
 else if kind = 2 then
  (if ps[line.toNat]? = some num ∨ planB (ps.set line.toNat num) = false then none else some (ps.set line.toNat num, cs))
 else none
theorem dropL_ok {O E M : Int} {cs : List Cl} (h : CallsOk O E M cs) (x : Int) : CallsOk O E M (dropL cs x) := by
 have hp : (dropL cs x).Pairwise fun d c => d.1 ≠ c.1 ∧ d.2.1 ≠ c.2.1 ∧ ∀ s, swC E s d = swC E s c → d.2.2 ≠ c.2.2 := by
  refine List.Pairwise.filter _ ?_
  rw [List.pairwise_iff_getElem]
  intro i j hi hj hij
  exact h.apart i j _ _ hij (List.getElem?_eq_getElem hi) (List.getElem?_eq_getElem hj)
 refine ⟨h.sh, fun k c hc => ?_, fun j k d c hjk hd hc => ?_⟩
 ·
  exact h.mem (List.mem_filter.1 (List.mem_of_getElem? hc)).1
 ·
  obtain ⟨hj, rfl⟩ := List.getElem?_eq_some_iff.1 hd
  obtain ⟨hk, rfl⟩ := List.getElem?_eq_some_iff.1 hc
  exact List.pairwise_iff_getElem.1 hp j k hj hk hjk
theorem dropL_mem {cs : List Cl} {x : Int} {c : Cl} : c ∈ dropL cs x ↔ c ∈ cs ∧ c.1 ≠ x := by simp [dropL, List.mem_filter]
theorem dropL_len {cs : List Cl} {x : Int} : (dropL cs x).length ≤ cs.length := List.length_filter_le _ _
theorem dropL_lt {cs : List Cl} {c : Cl} (hc : c ∈ cs) : (dropL cs c.1).length < cs.length := by
 unfold dropL
 rw [List.length_filter_lt_length_iff_exists]
 exact ⟨c, hc, by simp⟩
theorem free_of {cs : List Cl} {x : Int} (hok : ∃ O E M, CallsOk O E M cs) (h : ¬ 0 ≤ peerL cs x) : cs.find? (hasE x) = none := by
 obtain ⟨O, E, M, hok⟩ := hok
 rcases peer_neg hok x with ⟨_, h2⟩ | ⟨c, _, _, _, h3, _⟩
 ·
  exact h2
 ·
  omega
theorem do_call {O E M : Int} {ps : List ByteArray} {cs : List Cl} (h : ExOk O E M ps cs) {x y : Int} (hx : 0 ≤ x ∧ x < ps.length) (hy : 0 ≤ y ∧ y < ps.length) (hxy : y ≠ x) (h1 : cs.find? (hasE x) = none) (h2 : cs.find? (hasE y) = none) : ExOk O E M ps (moveL E M cs x y) := by
 have f1 := find_free h1
 have f2 := find_free h2
 have hl := h.len
 refine ⟨moveL_ok h.calls h.en (by omega) (by omega) (fun c hc => ⟨(f1 c hc).1, (f2 c hc).2⟩), h.en, h.plan, h.len, ?_⟩
 rw [part_ends, move_ends]
 intro p hp q hq
 rcases List.mem_append.1 hp with hp | hp <;> rcases List.mem_append.1 hq with hq | hq
 ·
  exact part_ends.1 h.part p hp q hq
 ·
  obtain ⟨c, hc, rfl⟩ := mem_ends.1 hp
  simp at hq; subst hq
  exact (f2 c hc).1
 ·
  obtain ⟨c, hc, rfl⟩ := mem_ends.1 hq
  simp at hp; subst hp
  exact fun e => (f1 c hc).2 e.symm
 ·
  simp at hp hq; subst hp; subst hq
  exact fun e => hxy e.symm
theorem line_lt {ps : List ByteArray} {s : ByteArray} (h : 0 ≤ lineL ps s) : lineL ps s < ps.length := by
 rcases line_is (ps := ps) (s := s) with ⟨h1, _⟩ | ⟨k, h1, h2, _⟩
 ·
  omega
 ·
  have := (List.getElem?_eq_some_iff.1 h2).1; omega
theorem do_ok {O E M : Int} {ps : List ByteArray} {cs : List Cl} (h : ExOk O E M ps cs) {kind line : Int} {num : ByteArray} {ps' : List ByteArray} {cs' : List Cl} (hd : doL E M ps cs kind line num = some (ps', cs')) : ExOk O E M ps' cs' := by
 unfold doL at hd
 split at hd
 ·
  cases hd
 rename_i hl
 split at hd
 ·
  split at hd
  ·
   cases hd
  rename_i hc
  simp only [not_or] at hc hl
  cases hd
  exact do_call h (by omega) ⟨by omega, line_lt (by omega)⟩ hc.2.1 (free_of ⟨O, E, M, h.calls⟩ hc.2.2.1) (free_of ⟨O, E, M, h.calls⟩ hc.2.2.2)
 split at hd
 ·
  split at hd
  ·
   cases hd
  split at hd
  ·
   cases hd
  ·
   cases hd
   exact ⟨dropL_ok h.calls _, h.en, h.plan, h.len, fun c hc d hd => h.part c (dropL_mem.1 hc).1 d (dropL_mem.1 hd).1⟩
 split at hd
 ·
  split at hd
  ·
   cases hd
  rename_i hc
  cases hd
  simp only [not_or, Bool.not_eq_false] at hc
  exact ⟨h.calls, h.en, (planB_iff _).1 hc.2, by rw [List.length_set]; exact h.len, h.part⟩
 ·
  cases hd

/-! Deeds one after the other. -/
abbrev Dd := Int × Int × ByteArray
noncomputable def stepL (E M : Int) (x : (List ByteArray × List Cl) × Nat) (d : Dd) : (List ByteArray × List Cl) × Nat :=
 match doL E M x.1.1 x.1.2 d.1 d.2.1 d.2.2 with
 | some y => (y, x.2 + 1)
 | none => x
noncomputable def runL (E M : Int) (ps : List ByteArray) (cs : List Cl) (ds : List Dd) : (List ByteArray × List Cl) × Nat := ds.foldl (stepL E M) ((ps, cs), 0)
theorem run_snoc {E M : Int} {ps : List ByteArray} {cs : List Cl} {ds : List Dd} {k : Nat} {d : Dd} (h : ds[k]? = some d) : runL E M ps cs (ds.take (k + 1)) = stepL E M (runL E M ps cs (ds.take k)) d := by
 obtain ⟨hk, rfl⟩ := List.getElem?_eq_some_iff.1 h
 unfold runL
 rw [List.take_succ_eq_append_getElem hk, List.foldl_append]; rfl
theorem step_ok {O E M : Int} {x : (List ByteArray × List Cl) × Nat} {d : Dd} (h : ExOk O E M x.1.1 x.1.2) : ExOk O E M (stepL E M x d).1.1 (stepL E M x d).1.2 := by
 unfold stepL
 split
 ·
  rename_i y hy
  exact do_ok h hy
 ·
  exact h
theorem fold_ok {O E M : Int} (ds : List Dd) : ∀ (x : (List ByteArray × List Cl) × Nat), ExOk O E M x.1.1 x.1.2 → ExOk O E M (ds.foldl (stepL E M) x).1.1 (ds.foldl (stepL E M) x).1.2 := by
 induction ds with
 | nil => intro x h; exact h
 | cons d ds ih => intro x h; exact ih _ (step_ok h)
theorem run_ok {O E M : Int} {ps : List ByteArray} {cs : List Cl} (h : ExOk O E M ps cs) (ds : List Dd) : ExOk O E M (runL E M ps cs ds).1.1 (runL E M ps cs ds).1.2 := fold_ok ds _ h
theorem step_count {E M : Int} (x : (List ByteArray × List Cl)) (n : Nat) (d : Dd) : stepL E M (x, n) d = ((stepL E M (x, 0) d).1, n + (stepL E M (x, 0) d).2) := by
 unfold stepL
 simp only
 split <;> simp
theorem fold_count {E M : Int} (ds : List Dd) : ∀ (x : (List ByteArray × List Cl)) (n : Nat), ds.foldl (stepL E M) (x, n) = ((ds.foldl (stepL E M) (x, 0)).1, n + (ds.foldl (stepL E M) (x, 0)).2) := by
 induction ds with
 | nil => intro x n; simp
 | cons d ds ih =>
  intro x n
  simp only [List.foldl_cons]
  rw [step_count x n d]
  obtain ⟨y, m⟩ : ∃ y, stepL E M (x, 0) d = y := ⟨_, rfl⟩
  rw [m]
  obtain ⟨z, k⟩ := y
  rw [ih z (n + k), ih z k]
  simp [Nat.add_assoc]
theorem run_app {E M : Int} (ps : List ByteArray) (cs : List Cl) (ds es : List Dd) : runL E M ps cs (ds ++ es) = ((runL E M (runL E M ps cs ds).1.1 (runL E M ps cs ds).1.2 es).1, (runL E M ps cs ds).2 + (runL E M (runL E M ps cs ds).1.1 (runL E M ps cs ds).1.2 es).2) := by
 unfold runL
 rw [List.foldl_append]
 obtain ⟨y, hy⟩ : ∃ y, ds.foldl (stepL E M) ((ps, cs), 0) = y := ⟨_, rfl⟩
 rw [hy]
 obtain ⟨⟨p, c⟩, n⟩ := y
 exact fold_count es (p, c) n
theorem fold_le {E M : Int} (ds : List Dd) : ∀ (x : (List ByteArray × List Cl) × Nat), x.2 ≤ (ds.foldl (stepL E M) x).2 ∧ (ds.foldl (stepL E M) x).2 ≤ x.2 + ds.length := by
 induction ds with
 | nil => intro x; simp
 | cons d ds ih =>
  intro x
  have h1 := ih (stepL E M x d)
  have h2 : x.2 ≤ (stepL E M x d).2 ∧ (stepL E M x d).2 ≤ x.2 + 1 := by unfold stepL; split <;> simp
  simp only [List.foldl_cons, List.length_cons]
  omega
theorem run_le {E M : Int} (ps : List ByteArray) (cs : List Cl) (ds : List Dd) : (runL E M ps cs ds).2 ≤ ds.length := by
 have := (fold_le (E := E) (M := M) ds ((ps, cs), 0)).2
 simpa [runL] using this
theorem do_plan_len {E M : Int} {ps : List ByteArray} {cs : List Cl} {kind line : Int} {num : ByteArray} {ps' : List ByteArray} {cs' : List Cl} (hd : doL E M ps cs kind line num = some (ps', cs')) : ps'.length = ps.length := by
 unfold doL at hd
 split at hd
 ·
  cases hd
 split at hd
 ·
  split at hd
  ·
   cases hd
  ·
   cases hd; rfl
 split at hd
 ·
  split at hd
  ·
   cases hd
  split at hd
  ·
   cases hd
  ·
   cases hd; rfl
 split at hd
 ·
  split at hd
  ·
   cases hd
  ·
   cases hd; simp
 ·
  cases hd

/-! The night. -/
def nightL (cs : List Cl) : List Dd := cs.map fun c => (1, c.1, ByteArray.empty)
theorem night_fold {O E M : Int} {ps : List ByteArray} : ∀ (cs : List Cl) (n : Nat), ExOk O E M ps cs → (nightL cs).foldl (stepL E M) ((ps, cs), n) = ((ps, []), n + cs.length) := by
 intro cs
 induction cs with
 | nil => intro n _; rfl
 | cons c cs ih =>
  intro n h
  have hl := h.len
  have hm := h.calls.mem (c := c) (by simp)
  have hf : (c :: cs).find? (hasE c.1) = some c := by simp [List.find?_cons, hasE_in]
  have hdr : dropL (c :: cs) c.1 = cs := by
   unfold dropL
   rw [List.filter_cons_of_neg (by simp), List.filter_eq_self]
   intro d hd
   simp only [Bool.not_eq_eq_eq_not, Bool.not_true, decide_eq_false_iff_not]
   intro e
   have h1 := h.calls.ins.1
   simp only [List.map_cons, List.nodup_cons] at h1
   exact h1.1 (List.mem_map.2 ⟨d, hd, e⟩)
  have hdo : doL E M ps (c :: cs) 1 c.1 ByteArray.empty = some (ps, cs) := by
   unfold doL
   rw [if_neg (by omega), if_neg (by omega), if_pos rfl, if_neg (by simp), hf]
   simp only [hdr]
  have hst : stepL E M ((ps, c :: cs), n) (1, c.1, ByteArray.empty) = ((ps, cs), n + 1) := by
   unfold stepL; simp only [hdo]
  have hok : ExOk O E M ps cs := do_ok h hdo
  simp only [nightL, List.map_cons, List.foldl_cons] at ih ⊢
  rw [hst, ih (n + 1) hok]
  simp [Nat.add_assoc, Nat.add_comm 1]
theorem night_run {O E M : Int} {ps : List ByteArray} {cs : List Cl} (h : ExOk O E M ps cs) : runL E M ps cs (nightL cs) = ((ps, []), cs.length) := by
 unfold runL
 rw [night_fold cs 0 h]; simp

end Go.Proofs.Ytedadhoneebfnaa

/- Contracts of NightDeeds (program and reference). -/
namespace Go.Proofs.Ytedadhoneebfnaa
open Go.RowKit

noncomputable def nightX (O E M : Int) (ps : List ByteArray) (cs : List Cl) : List Ded := if exB O E M ps cs = true then nightL cs else []
theorem nightL_at {cs : List Cl} {k : Nat} {c : Cl} (h : cs[k]? = some c) : nightL (cs.take (k + 1)) = nightL (cs.take k) ++ [(1, c.1, ByteArray.empty)] := by
 obtain ⟨hk, rfl⟩ := List.getElem?_eq_some_iff.1 h
 unfold nightL
 rw [List.take_succ_eq_append_getElem hk, List.map_append]; rfl
theorem nightL_len (cs : List Cl) : (nightL cs).length = cs.length := by simp [nightL]
theorem Blk.gbr {w1 w2 : World} {b : Nat} {cs : Array Value} {T : TypeId} {r : Option Nat} (hg : w1.grownBy w2 r) (hne : some b ≠ r) (h : Blk w1 b cs T) : Blk w2 b cs T := by
 have := h.lt; unfold Blk at h ⊢; rw [hg.block b this hne]; exact h
theorem news3 (w : World) (T : TypeId) (x0 x1 x2 : Value) (b : Nat) (hb : b = w.heap.size) : ∀ (j : Nat) (u : Value), [x0, x1, x2][j]? = some u → (w.alloc (.cells #[x0, x1, x2] T)).cell? ((⟨b, 0, none⟩ : Addr).add j) = some u := by
 intro j u hu
 rw [Addr.add_spot, Nat.zero_add, (Blk.new hb).at j]
 simpa using hu
theorem oneD (a b : Int) (s : ByteArray) : ∀ u ∈ [Value.int .i64 a, Value.int .i64 b, Value.string s], u.oneCell' = true := by
 intro u hu; simp at hu; rcases hu with rfl | rfl | rfl <;> rfl
theorem oneC (a b c : Int) : ∀ u ∈ [Value.int .i64 a, Value.int .i64 b, Value.int .i64 c], u.oneCell' = true := by
 intro u hu; simp at hu; rcases hu with rfl | rfl | rfl <;> rfl
/-- A list of deeds made anew. -/
def DdOut (ds : List Ded) (w : World) (e : Ending) (w' : World) : Prop := ∃ v, e = .returned v ∧ w'.ownsRow w.heap.size 68 3 v ds.length (dcells ds) ∧ Below w.heap.size w w'

set_option maxRecDepth 100000 in
set_option maxHeartbeats 1000000 in
theorem iNightDeeds_any (O E M : Int) (vp vc : Value) (ps : List ByteArray) (cs : List Cl) (w : World) (hR : ExRd w vp vc ps cs) (hL : StLen ps) :
  Calls Try.prog 36 #[.agg #[.int .i64 O, .int .i64 E, .int .i64 M, vp, vc]] w (DdOut (nightX O E M ps cs) w) := by
 obtain ⟨i0, hi, hz0, hz1, hz2⟩ := info_parts infoD
 have hB := Blk.new (w := w) (cs := #[.int .i64 O, .int .i64 E, .int .i64 M, vp, vc]) (T := 33) rfl
 have hbel0 : Below w.heap.size w (w.alloc (.cells #[.int .i64 O, .int .i64 E, .int .i64 M, vp, vc] 33)) := by (exact grownA)
 have HR := Lib.hid hR
 have HL := Lib.hid hL
 obtain ⟨a1, c1, rfl, _⟩ := hR.plan.open1
 obtain ⟨_, hm1, a2, c2, rfl, hn1, hc1⟩ := hR.calls
 unfold maxLen at hm1
 have HC1 := Lib.hid hc1
 clear hR hL hc1
 obtain ⟨p0, p1, p2, p3, p4, _, _, _, _, _, plt⟩ := hB.five
 go_enter Try.func36, Try.ntmps36
 go_wp2_with fail
 refine (iExchangeValid_any O E M _ _ ps cs _ (HR.out.below hbel0) HL.out).mono ?_
 rintro e w1 ⟨rfl, hb⟩
 have hbel1 : Below w.heap.size w w1 := by (exact grownA)
 have hB1 := hB.belowAll hb
 clear hB hb hbel0 p0 p1 p2 p3 p4 plt
 obtain ⟨p0, p1, p2, p3, p4, _, _, _, _, _, plt⟩ := hB1.five
 obtain ⟨d, hd⟩ : ∃ d, exB O E M ps cs = d := ⟨_, rfl⟩
 have HD := Lib.hid hd
 rw [hd]
 clear hd
 cases d
 ·
  have HF : Hid (nightX O E M ps cs = []) := by unfold Hid nightX; rw [HD.out]; rfl
  go_wp2
  go_returns
  exact ⟨_, rfl, by rw [HF.out]; exact World.ownsRow_nil _ _ _ _, hbel1⟩
 ·
  have HF : Hid (nightX O E M ps cs = nightL cs) := by unfold Hid nightX; rw [HD.out]; rfl
  have HOK := Lib.hid ((exB_iff _ _ _ _ _).1 HD.out)
  have hcnt := HOK.out.calls.count (lines_le HOK.out.calls.sh)
  obtain ⟨n, hn⟩ : ∃ n, cs.length = n := ⟨_, rfl⟩
  have HN := Lib.hid hn
  rw [hn] at HC1 hcnt hm1 hn1 p4 ⊢
  clear hn hB1
  go_wp2_with fail
  go_loopw [3, 12] (fun v i wr => ∃ k : Nat, k ≤ n ∧ i = .int .i64 k ∧ wr.ownsRow w.heap.size 68 3 v k (dcells (nightL (cs.take k))) ∧ Below w.heap.size w wr) (fun _ i _ => n - (intOf i).toNat)
  case atStart => exact ⟨0, by omega, rfl, World.ownsRow_nil _ _ _ _, hbel1⟩
  case round =>
   obtain ⟨k, hk, rfl, hown, hbel⟩ := hrel
   have hz := hbel.size
   by_cases hkn : k < n
   ·
    rcases HC1.out with hc1 | ⟨b, off, rfl, hb, hc1⟩
    ·
     omega
    obtain ⟨c, hc⟩ : ∃ c, cs[k]? = some c := ⟨_, List.getElem?_eq_getElem (by rw [HN.out]; omega)⟩
    obtain ⟨g1, g2, g3⟩ := ccells_at cs k c hc
    have k1 : wr.cell? ⟨b, off + k * 3, none⟩ = some (.int .i64 c.1) := by rw [hbel.cell (p := ⟨b, off + k * 3, none⟩) hb, hc1 _ (by omega), g1]
    have k2 : wr.cell? ⟨b, off + k * 3 + 1, none⟩ = some (.int .i64 c.2.1) := by rw [Nat.add_assoc, hbel.cell (p := ⟨b, off + (k * 3 + 1), none⟩) hb, hc1 _ (by omega), g2]
    have k3 : wr.cell? ⟨b, off + k * 3 + 2, none⟩ = some (.int .i64 c.2.2) := by rw [Nat.add_assoc, hbel.cell (p := ⟨b, off + (k * 3 + 2), none⟩) hb, hc1 _ (by omega), g3]
    have HST := Lib.hid (nightL_at hc)
    clear hc g1 g2 g3 hc1
    obtain ⟨x, y, m⟩ := c
    simp only at k1 k2 k3
    go_wp2_with (at_builtin; refine wpList_append_own _ rfl _ _ 47 rfl w.heap.size 68 i0 _ 3 32 Try.underlying47 hi hz0 hz1 hz2 rfl (by decide) _ _ _ rfl ((hown.alloc _).alloc _) ⟨wr.heap.size + 1, 0, none⟩ 1 1 [.int .i64 1, .int .i64 x, .string ByteArray.empty] rfl rfl (news3 _ _ _ _ _ _ (by simp)) (oneD _ _ _) (by unfold maxLen; omega) (by omega) (by simp; omega) ?_; intro v' w3 hown' hgrow _)
    have hbel3 : Below w.heap.size w w3 := Below.grown (by (exact grownA)) hgrow (by simp; omega) (own_ge hown)
    clear hgrow k1 k2 k3
    go_roundw
    case rel => exact ⟨k + 1, by omega, by go_num, by rw [HST.out, dcells_app]; exact hown', hbel3⟩
    case measure => simp [intOf]; omega
   ·
    obtain rfl : k = n := by omega
    go_wp2
    go_returns
    refine ⟨_, rfl, ?_, hbel⟩
    rw [HF.out, nightL_len, HN.out]
    rw [List.take_of_length_le (by rw [HN.out]; omega)] at hown
    exact hown

set_option maxRecDepth 100000 in
set_option maxHeartbeats 1000000 in
theorem sNightDeeds_any (O E M : Int) (vp vc : Value) (ps : List ByteArray) (cs : List Cl) (w : World) (hR : ExRd w vp vc ps cs) (hL : StLen ps) :
  Calls Try.prog 35 #[.agg #[.int .i64 O, .int .i64 E, .int .i64 M, vp, vc]] w (DdOut (nightX O E M ps cs) w) := by
 obtain ⟨i0, hi, hz0, hz1, hz2⟩ := info_parts infoD
 have hB := (Blk.new (w := w) (cs := #[.int .i64 O, .int .i64 E, .int .i64 M, vp, vc]) (T := 33) rfl).alloc (.cells #[] 68)
 have HR := Lib.hid hR
 have HL := Lib.hid hL
 obtain ⟨a1, c1, rfl, _⟩ := hR.plan.open1
 obtain ⟨_, hm1, a2, c2, rfl, hn1, hc1⟩ := hR.calls
 unfold maxLen at hm1
 have HC1 := Lib.hid hc1
 obtain ⟨n, hn⟩ : ∃ n, cs.length = n := ⟨_, rfl⟩
 have HN := Lib.hid hn
 rw [hn] at hB HR HC1 hm1 hn1 ⊢
 have hbel0 : Below w.heap.size w ((w.alloc (.cells #[.int .i64 O, .int .i64 E, .int .i64 M, .slice a1 ps.length c1, .slice a2 n c2] 33)).alloc (.cells #[] 68)) := by (exact grownA)
 clear hR hL hc1 hn
 obtain ⟨d, hd⟩ : ∃ d, exB O E M ps cs = d := ⟨_, rfl⟩
 have HD := Lib.hid hd
 clear hd
 go_enter Try.func35, Try.ntmps35
 go_wp2_with fail
 go_loopw [3, 4] (fun v i wr => ∃ k : Nat, k ≤ n ∧ i = .int .i64 k ∧ Hid (k = 0 ∨ d = true) ∧ wr.ownsRow (w.heap.size + 1) 68 3 v k (dcells (nightL (cs.take k))) ∧ Below w.heap.size w wr ∧ Blk wr w.heap.size #[.int .i64 O, .int .i64 E, .int .i64 M, .slice a1 ps.length c1, .slice a2 n c2] 33) (fun _ i _ => n - (intOf i).toNat)
 case atStart => exact ⟨0, by omega, rfl, .inl rfl, (by have := World.ownsRow_lit (base := w.heap.size + 1) (e := 68) (size := 3) (w.alloc (.cells #[.int .i64 O, .int .i64 E, .int .i64 M, .slice a1 ps.length c1, .slice a2 n c2] 33)) #[] 0 (by simp) (by unfold maxLen; omega) rfl; simpa [nightL, dcells] using this), hbel0, hB⟩
 case round =>
  obtain ⟨k, hk, rfl, hdk, hown, hbel, hBw⟩ := hrel
  have hz := hbel.size
  obtain ⟨p0, p1, p2, p3, p4, _, _, _, _, _, plt⟩ := hBw.five
  by_cases hkn : k < n
  ·
   rcases HC1.out with hc1 | ⟨b, off, rfl, hb, hc1⟩
   ·
    omega
   obtain ⟨c, hc⟩ : ∃ c, cs[k]? = some c := ⟨_, List.getElem?_eq_getElem (by rw [HN.out]; omega)⟩
   obtain ⟨g1, g2, g3⟩ := ccells_at cs k c hc
   have HK1 := Lib.hid ((hc1 (k * 3) (by omega)).trans g1)
   have HST := Lib.hid (nightL_at hc)
   clear hc g1 g2 g3 hc1
   go_wp2_with fail
   refine (sExchangeValid_any O E M _ _ ps cs _ (HR.out.below hbel) HL.out).mono ?_
   rintro e w1 ⟨rfl, hb1⟩
   rw [HD.out]
   have hbel1 : Below w.heap.size w w1 := by (exact grownA)
   have hB1 := hBw.belowAll hb1
   have hown1 := owns_below hb1 hown
   have hzb := hbel1.size
   clear hb1 hBw p0 p1 p2 p3 p4 plt
   obtain ⟨p0, p1, p2, p3, p4, _, _, _, _, _, plt⟩ := hB1.five
   have k1 : w1.cell? ⟨b, off + k * 3, none⟩ = some (.int .i64 c.1) := by rw [hbel1.cell (p := ⟨b, off + k * 3, none⟩) hb]; exact HK1.out
   cases d
   ·
    have HF : Hid (nightX O E M ps cs = []) := by unfold Hid nightX; rw [HD.out]; rfl
    have hk0 : Hid (k = 0) := by rcases hdk.out with h | h; exact h; cases h
    go_wp2
    go_returns
    refine ⟨_, rfl, ?_, hbel1⟩
    rw [HF.out]
    have e := hk0.out
    subst e
    exact owns_base (Nat.le_succ _) hown1
   ·
    have HOK := Lib.hid ((exB_iff _ _ _ _ _).1 HD.out)
    have hcnt := HOK.out.calls.count (lines_le HOK.out.calls.sh)
    rw [HN.out] at hcnt
    obtain ⟨x, y, m⟩ := c
    simp only at k1
    go_wp2_with (at_builtin; refine wpList_append_own _ rfl _ _ 47 rfl (w.heap.size + 1) 68 i0 _ 3 32 Try.underlying47 hi hz0 hz1 hz2 rfl (by decide) _ _ _ rfl (hown1.alloc _) ⟨w1.heap.size, 0, none⟩ 1 1 [.int .i64 1, .int .i64 x, .string ByteArray.empty] rfl rfl (news3 _ _ _ _ _ _ (by rfl)) (oneD _ _ _) (by unfold maxLen; omega) (by omega) (by simp; omega) ?_; intro v' w3 hown' hgrow hnew)
    have hge := own_ge hown1
    have hbel3 : Below w.heap.size w w3 := Below.grown (by (exact grownA)) hgrow (by simp; omega) (fun k hk => by have := hge k hk; omega)
    have hB3 : Blk w3 w.heap.size #[.int .i64 O, .int .i64 E, .int .i64 M, .slice a1 ps.length c1, .slice (some ⟨b, off, none⟩) n c2] 33 := Blk.gbr hgrow (fun e => by have := hge _ e.symm; omega) (hB1.alloc _)
    clear hgrow hge k1 p0 p1 p2 p3 p4 plt hown hown1 hB1
    go_wp2_with fail
    go_roundw
    case rel => exact ⟨k + 1, by omega, by go_num, Or.inr (by first | rfl | trivial), by rw [HST.out, dcells_app]; exact hown', hbel3, hB3⟩
    case measure => simp [intOf]; omega
  ·
   obtain rfl : k = n := by omega
   go_wp2
   go_returns
   refine ⟨_, rfl, ?_, hbel⟩
   have hF : nightX O E M ps cs = nightL cs := by
    unfold nightX
    rcases hdk.out with h | h
    ·
     have : cs = [] := List.length_eq_zero_iff.1 (by rw [HN.out, h])
     subst this; split <;> rfl
    ·
     rw [HD.out, h]; rfl
   rw [hF, nightL_len, HN.out]
   rw [List.take_of_length_le (by rw [HN.out]; omega)] at hown
   exact owns_base (Nat.le_succ _) hown

end Go.Proofs.Ytedadhoneebfnaa
