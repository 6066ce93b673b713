/- slices.Sort at at most twelve numbers: the insertion sort. -/
import Derived.Test.YtcacedcbboidoaaInts
import Derived.Test.YtcacedcbboidoaaStep
import Derived.Deep.QuietTactic
import Derived.BigQuiet
import Derived.BigRegion
import Derived.IntWalk
set_option linter.unusedSimpArgs false
set_option linter.unusedVariables false
namespace Go.Proofs.Ytcacedcbboidoaa
open Go.RowKit

def SomeI (w : World) (e : Ending) (w' : World) : Prop := ∃ k : Int, e = .returned (.int .i64 k) ∧ w = w'
set_option maxRecDepth 100000 in
set_option maxHeartbeats 2000000 in
theorem len64_any (x : Nat) (w : World) (h : x ≤ 12) : Calls Try.prog 119 #[.int .u64 x] w (SomeI w) := by
  have hx : x = 0 ∨ x = 1 ∨ x = 2 ∨ x = 3 ∨ x = 4 ∨ x = 5 ∨ x = 6 ∨ x = 7 ∨ x = 8 ∨ x = 9 ∨ x = 10 ∨ x = 11 ∨ x = 12 := by omega
  rcases hx with rfl | rfl | rfl | rfl | rfl | rfl | rfl | rfl | rfl | rfl | rfl | rfl | rfl
  all_goals
    go_enter Try.func119, Try.ntmps119
    go_wp2
    go_returns
    exact ⟨_, rfl, rfl⟩
set_option maxHeartbeats 400000 in
theorem len_any (x : Nat) (w : World) (h : x ≤ 12) : Calls Try.prog 108 #[.int .u64 x] w (SomeI w) := by
  go_enter Try.func108, Try.ntmps108
  go_wp2_with fail
  refine (len64_any x _ h).mono ?_
  rintro e w1 ⟨k, rfl, rfl⟩
  go_wp2
  go_returns
  exact ⟨_, rfl, rfl⟩
theorem less_any (x y : Int) (w : World) : Calls Try.prog 115 #[.int .i64 x, .int .i64 y] w fun e w' => e = .returned (.bool (decide (x < y))) ∧ w = w' := by
  go_enter Try.func115, Try.ntmps115
  go_wp2
  all_goals
    go_returns
    exact ⟨by simp, rfl⟩

/-- In block g, from off on, lie the numbers zs; the block has N cells. -/
def Seg (w : World) (g off N : Nat) (zs : List Int) : Prop := ∃ cur, Blk w g cur 3 ∧ cur.size = N ∧ off + zs.length ≤ N ∧ ∀ (i : Nat) (z : Int), zs[i]? = some z → cur[off + i]? = some (.int .i64 z)
theorem Seg.at {w : World} {g off N : Nat} {zs : List Int} (h : Seg w g off N zs) {i : Nat} {z : Int} (hz : zs[i]? = some z) : w.cell? ⟨g, off + i, none⟩ = some (.int .i64 z) := by
  obtain ⟨cur, hb, _, _, hc⟩ := h; rw [hb.at]; exact hc i z hz
theorem Seg.free {w : World} {g off N : Nat} {zs : List Int} (h : Seg w g off N zs) (i : Nat) : w.frozen? ⟨g, i, none⟩ = false := by
  obtain ⟨cur, hb, _⟩ := h; exact hb.free i
theorem Seg.lt {w : World} {g off N : Nat} {zs : List Int} (h : Seg w g off N zs) : g < w.heap.size := by
  obtain ⟨cur, hb, _⟩ := h; exact hb.lt
theorem Seg.set {w : World} {g off N : Nat} {zs ys : List Int} (h : Seg w g off N zs) {i : Nat} {z : Int} (hi : i < zs.length) (hy : zs.set i z = ys) : Seg (w.setCell ⟨g, off + i, none⟩ (.int .i64 z)) g off N ys := by
  subst hy
  obtain ⟨cur, hb, h1, h2, h3⟩ := h
  refine ⟨cur.setIfInBounds (off + i) (.int .i64 z), hb.set rfl, by simpa using h1, by simpa using h2, fun j y hj => ?_⟩
  by_cases e : j = i
  · subst e
    rw [List.getElem?_set_self hi] at hj
    cases hj
    rw [Array.getElem?_setIfInBounds_self_of_lt (by omega)]
  · rw [List.getElem?_set_ne (fun h => e h.symm)] at hj
    rw [Array.getElem?_setIfInBounds_ne (by omega)]
    exact h3 j y hj
theorem Seg.drewN {w : World} {g off N : Nat} {zs : List Int} (n : Nat) (h : Seg w g off N zs) : Seg (w.drewN n) g off N zs := h

/-! The insertion sort on plain lists. -/
def SoTo (ys : List Int) (i : Nat) : Prop := ∀ a b, a < b → b < i → ys.getD a 0 ≤ ys.getD b 0
def SoIn (ys : List Int) (i j : Nat) : Prop := (∀ a b, a < b → b ≤ i → a ≠ j → b ≠ j → ys.getD a 0 ≤ ys.getD b 0) ∧ ∀ b, j < b → b ≤ i → ys.getD j 0 ≤ ys.getD b 0
def swp (ys : List Int) (j : Nat) : List Int := (ys.set (j + 1) (ys.getD j 0)).set j (ys.getD (j + 1) 0)
theorem swp_len (ys : List Int) (j : Nat) : (swp ys j).length = ys.length := by simp [swp]
theorem getD_set (ys : List Int) (i k : Nat) (z : Int) (h : i < ys.length) : (ys.set i z).getD k 0 = if k = i then z else ys.getD k 0 := by
  simp only [List.getD_eq_getElem?_getD, List.getElem?_set]
  by_cases e : i = k
  · subst e; simp [h]
  · rw [if_neg e, if_neg (fun h => e h.symm)]
theorem swp_getD (ys : List Int) (j k : Nat) (h : j + 1 < ys.length) : (swp ys j).getD k 0 = if k = j then ys.getD (j + 1) 0 else if k = j + 1 then ys.getD j 0 else ys.getD k 0 := by
  unfold swp
  rw [getD_set _ _ _ _ (by simp; omega), getD_set _ _ _ _ (by omega)]
theorem swp_perm (ys : List Int) (j : Nat) (h : j + 1 < ys.length) : (swp ys j).Perm ys := by
  have e1 : ys = ys.take j ++ (ys.getD j 0 :: ys.getD (j + 1) 0 :: ys.drop (j + 2)) := by
    apply List.ext_getElem?
    intro i
    by_cases h1 : i < j
    · rw [List.getElem?_append_left (by rw [List.length_take]; omega), List.getElem?_take_of_lt h1]
    · rw [List.getElem?_append_right (by rw [List.length_take]; omega)]
      have e : (ys.take j).length = j := by rw [List.length_take]; omega
      rw [e]
      by_cases h2 : i = j
      · subst h2; simp [List.getD_eq_getElem?_getD]; rw [List.getElem?_eq_getElem (by omega)]; simp
      · by_cases h3 : i = j + 1
        · subst h3; simp [List.getD_eq_getElem?_getD, show j + 1 - j = 1 by omega]; rw [List.getElem?_eq_getElem h]; simp
        · rw [show i - j = (i - (j + 2)) + 2 by omega]; simp; congr 1; omega
  have e2 : swp ys j = ys.take j ++ (ys.getD (j + 1) 0 :: ys.getD j 0 :: ys.drop (j + 2)) := by
    apply List.ext_getElem?
    intro i
    have hsw : ∀ k, (swp ys j)[k]? = if k < ys.length then some ((swp ys j).getD k 0) else none := by
      intro k
      by_cases hk : k < ys.length
      · rw [if_pos hk, List.getD_eq_getElem?_getD, List.getElem?_eq_getElem (by rw [swp_len]; exact hk)]; rfl
      · rw [if_neg hk, List.getElem?_eq_none (by rw [swp_len]; omega)]
    by_cases h1 : i < j
    · rw [hsw, if_pos (by omega), swp_getD _ _ _ h, if_neg (by omega), if_neg (by omega), List.getElem?_append_left (by rw [List.length_take]; omega), List.getElem?_take_of_lt h1, List.getD_eq_getElem?_getD, List.getElem?_eq_getElem (by omega)]; rfl
    · rw [List.getElem?_append_right (by rw [List.length_take]; omega)]
      have e : (ys.take j).length = j := by rw [List.length_take]; omega
      rw [e]
      by_cases h2 : i = j
      · subst h2; rw [hsw, if_pos (by omega), swp_getD _ _ _ h, if_pos rfl]; simp
      · by_cases h3 : i = j + 1
        · subst h3; rw [hsw, if_pos (by omega), swp_getD _ _ _ h, if_neg (by omega), if_pos rfl, show j + 1 - j = 1 by omega]; simp
        · rw [show i - j = (i - (j + 2)) + 2 by omega]
          simp only [List.getElem?_cons_succ, List.getElem?_drop]
          rw [show j + 2 + (i - (j + 2)) = i by omega, hsw]
          by_cases h4 : i < ys.length
          · rw [if_pos h4, swp_getD _ _ _ h, if_neg h2, if_neg h3, List.getD_eq_getElem?_getD, List.getElem?_eq_getElem h4]; rfl
          · rw [if_neg h4, List.getElem?_eq_none (by omega)]
  rw [e2]
  conv => rhs; rw [e1]
  exact List.Perm.append_left _ (List.Perm.swap _ _ _)
theorem SoIn.start {ys : List Int} {i : Nat} (h : SoTo ys i) : SoIn ys i i := ⟨fun a b hab hb _ hbi => h a b hab (by omega), fun b hb hbi => absurd hbi (by omega)⟩
theorem SoIn.done {ys : List Int} {i j : Nat} (h : SoIn ys i j) (hj : j = 0 ∨ ys.getD (j - 1) 0 ≤ ys.getD j 0) : SoTo ys (i + 1) := by
  intro a b hab hb
  by_cases ha : a = j
  · subst ha; exact h.2 b hab (by omega)
  · by_cases hbj : b = j
    · subst hbj
      rcases hj with hj | hj
      · omega
      · by_cases e : a = b - 1
        · subst e; exact hj
        · have := h.1 a (b - 1) (by omega) (by omega) ha (by omega); omega
    · exact h.1 a b hab (by omega) ha hbj
theorem SoIn.swp {ys : List Int} {i j : Nat} (h : SoIn ys i (j + 1)) (hi : i < ys.length) (hj : j + 1 ≤ i) (hl : ys.getD (j + 1) 0 < ys.getD j 0) : SoIn (swp ys j) i j := by
  have hg := fun k => swp_getD ys j k (by omega)
  refine ⟨fun a b hab hb haj hbj => ?_, fun b hbj hbi => ?_⟩
  · rw [hg a, hg b, if_neg haj, if_neg hbj]
    by_cases ha : a = j + 1
    · rw [if_pos ha, if_neg (by omega)]
      exact h.1 j b (by omega) hb (by omega) (by omega)
    · rw [if_neg ha]
      by_cases hb1 : b = j + 1
      · rw [if_pos hb1]; exact h.1 a j (by omega) (by omega) ha (by omega)
      · rw [if_neg hb1]; exact h.1 a b hab hb ha hb1
  · rw [hg j, hg b, if_pos rfl, if_neg (by omega)]
    by_cases hb1 : b = j + 1
    · rw [if_pos hb1]; omega
    · rw [if_neg hb1]; exact h.2 b (by omega) hbi

/-- What a sort leaves. -/
def SortPost (g off N : Nat) (zs : List Int) (w : World) (e : Ending) (w' : World) : Prop :=
  ∃ ys : List Int, e = .returned (.tuple #[]) ∧ ys.Perm zs ∧ SoTo ys zs.length ∧ Seg w' g off N ys ∧ w.grownBy w' (some g)

set_option maxRecDepth 100000 in
set_option maxHeartbeats 2000000 in
theorem insertion_any (g off N cap : Nat) (zs : List Int) (w : World) (h : Seg w g off N zs) (hn : zs.length ≤ 12) (hcap : zs.length ≤ cap) (hN : N ≤ 9223372036854775807) :
    Calls Try.prog 109 #[.slice (some ⟨g, off, none⟩) zs.length cap, .int .i64 0, .int .i64 zs.length] w (SortPost g off N zs w) := by
  unfold SortPost
  obtain ⟨n, hnn⟩ : ∃ n, zs.length = n := ⟨_, rfl⟩
  have HN := Lib.hid hnn
  rw [hnn] at hn hcap ⊢
  clear hnn
  go_enter Try.func109, Try.ntmps109
  go_wp2_with fail
  go_loopw [6] (fun iv wr => ∃ (i : Nat) (ys : List Int), (i ≤ n ∨ i = 1) ∧ 1 ≤ i ∧ iv = .int .i64 i ∧ Hid (ys.Perm zs) ∧ Hid (SoTo ys i) ∧ Seg wr g off N ys ∧ w.grownBy wr (some g)) (fun iv _ => n - (intOf iv).toNat)
  case atStart => exact ⟨1, zs, .inr rfl, by omega, rfl, List.Perm.refl _, fun a b hab hb => absurd hab (by omega), h, World.grownBy.refl _ _⟩
  case round =>
    obtain ⟨i, ys, hi, hi1, rfl, hp, hso, hseg, hg⟩ := hrel
    obtain ⟨wo, rfl⟩ : ∃ wo : World, wo = wr := ⟨_, rfl⟩
    by_cases hin : i < n
    · go_wp2_with fail
      go_loopw [7] (fun jv wi => ∃ (j : Nat) (ys : List Int), j ≤ i ∧ jv = .int .i64 j ∧ Hid (ys.Perm zs) ∧ Hid (SoIn ys i j) ∧ Seg wi g off N ys ∧ w.grownBy wi (some g)) (fun jv _ => (intOf jv).toNat)
      case atStart => exact ⟨i, ys, by omega, rfl, hp, SoIn.start hso.out, hseg, hg⟩
      case round =>
        clear hp hso hseg hg
        obtain ⟨j, ys, hj, rfl, hp, hso, hseg, hg⟩ := hrel
        have HLN : Hid (ys.length = n) := by unfold Hid; rw [hp.out.length_eq, HN.out]
        by_cases hj0 : 0 < j
        · obtain ⟨k, rfl⟩ : ∃ k, j = k + 1 := ⟨j - 1, by omega⟩
          obtain ⟨x, hx⟩ : ∃ x, ys[k + 1]? = some x := ⟨_, List.getElem?_eq_getElem (by rw [HLN.out]; omega)⟩
          obtain ⟨y, hy⟩ : ∃ y, ys[k]? = some y := ⟨_, List.getElem?_eq_getElem (by rw [HLN.out]; omega)⟩
          have c1 := hseg.at hx
          have c2 := hseg.at hy
          have f1 := hseg.free (off + (k + 1))
          have f2 := hseg.free (off + k)
          have hlt := hseg.lt
          have hgx : Hid (ys.getD (k + 1) 0 = x) := by simp [Hid, List.getD_eq_getElem?_getD, hx]
          have hgy : Hid (ys.getD k 0 = y) := by simp [Hid, List.getD_eq_getElem?_getD, hy]
          have hs1 : IntKind.i64.wrap (((k + 1 : Nat) : Int) - 1) = (k : Int) := by rw [IntWalk.i64_in _ (by omega)]; omega
          have hs1' : ((k + 1 : Nat) : Int) - 1 = (k : Int) := by omega
          have hs2 : (0 : Int) ≤ (k : Int) := by omega
          have hs3 : (k : Int) < (n : Int) := by omega
          have hs4 : ((k + 1 : Nat) : Int) < (n : Int) := by omega
          have hs5 : (0 : Int) ≤ ((k + 1 : Nat) : Int) := by omega
          have hd1 : decide ((0 : Int) < ((k + 1 : Nat) : Int)) = true := by first | (simp; done) | (simp; omega)
          clear hx hy
          have kc : Hid (∀ w : World, Calls Try.prog 115 #[.int .i64 x, .int .i64 y] w fun e w' => e = .returned (.bool (decide (x < y))) ∧ w' = w) := fun w => (less_any x y w).mono (fun e w' h => ⟨h.1, h.2.symm⟩)
          go_wp2_with fail
          go_quiet ((go_at_call 115; exact Calls.quiet_of_same (kc.out _)))
          by_cases hxy : x < y
          · have HXY := Lib.hid hxy
            have hseg2 : Seg (wr.drewN nq) g off N ys := hseg.drewN nq
            have hg2 : w.grownBy (wr.drewN nq) (some g) := gb_drewN hg
            have p1 : (wr.drewN nq).cell? ⟨g, off + (k + 1), none⟩ = some (.int .i64 x) := c1
            have p2 : (wr.drewN nq).cell? ⟨g, off + k, none⟩ = some (.int .i64 y) := c2
            have p3 : (wr.drewN nq).frozen? ⟨g, off + (k + 1), none⟩ = false := f1
            have p4 : (wr.drewN nq).frozen? ⟨g, off + k, none⟩ = false := f2
            have p5 : g < (wr.drewN nq).heap.size := hlt
            have hsw : IntKind.i64.wrap (k : Int) = (k : Int) := IntWalk.i64_in _ (by omega)
            clear hseg hg c1 c2 f1 f2 hlt
            generalize wr.drewN nq = wq at *
            go_wp2_with fail
            go_region
            have hseg3 : Seg ((wq.setCell ⟨g, off + (k + 1), none⟩ (.int .i64 y)).setCell ⟨g, off + k, none⟩ (.int .i64 x)) g off N (swp ys k) := by
              refine Seg.set (Seg.set hseg2 (by rw [HLN.out]; omega) rfl) (by rw [List.length_set, HLN.out]; omega) ?_
              unfold swp; rw [hgx.out, hgy.out]
            have hg3 : w.grownBy ((wq.setCell ⟨g, off + (k + 1), none⟩ (.int .i64 y)).setCell ⟨g, off + k, none⟩ (.int .i64 x)) (some g) := gb_set (gb_set hg2)
            clear hseg2 hg2 p1 p2 p3 p4 p5 hs1 hs1' hsw
            go_wp2_with fail
            go_roundw
            case rel =>
              refine ⟨k, swp ys k, by omega, by go_num, (swp_perm ys k (by rw [HLN.out]; omega)).trans hp.out, ?_, hseg3, gb_drew hg3⟩
              exact hso.out.swp (by rw [HLN.out]; omega) (by omega) (by rw [hgx.out, hgy.out]; exact HXY.out)
            case measure => first | (simp [intOf]; done) | (simp [intOf]; omega)
          · have hdf : decide (x < y) = false := by simpa using hxy
            have HXY := Lib.hid hxy
            clear hxy
            go_wp2_with fail
            go_roundw
            case rel =>
              refine ⟨i + 1, ys, by omega, by omega, by go_num, hp, ?_, hseg, by (repeat' (first | (with_reducible assumption) | (with_reducible exact World.grownBy.refl _ _) | omega | (with_reducible apply gb_set) | (with_reducible apply gb_new (by first | omega | (simp; done) | (simp; omega))) | (with_reducible apply gb_alloc) | (with_reducible apply gb_drewN) | (with_reducible apply gb_drew) | (with_reducible apply gb_below (by assumption)) | (simp; omega)))⟩
              exact hso.out.done (.inr (by rw [show k + 1 - 1 = k by omega, hgx.out, hgy.out]; have := HXY.out; omega))
            case measure => simp [intOf]; omega
        · obtain rfl : j = 0 := by omega
          have hd1 : decide ((0 : Int) < ((0 : Nat) : Int)) = false := by simp
          go_wp2_with fail
          go_quiet (fail)
          go_wp2_with fail
          go_roundw
          case rel => exact ⟨i + 1, ys, by omega, by omega, by go_num, hp, hso.out.done (.inl rfl), hseg, by (repeat' (first | (with_reducible assumption) | (with_reducible exact World.grownBy.refl _ _) | omega | (with_reducible apply gb_set) | (with_reducible apply gb_new (by first | omega | (simp; done) | (simp; omega))) | (with_reducible apply gb_alloc) | (with_reducible apply gb_drewN) | (with_reducible apply gb_drew) | (with_reducible apply gb_below (by assumption)) | (simp; omega)))⟩
          case measure => simp [intOf]; omega
    · go_wp2
      go_returns
      exact ⟨ys, rfl, hp.out, fun a b hab hb => hso.out a b hab (by omega), hseg, hg⟩

set_option maxRecDepth 100000 in
set_option maxHeartbeats 2000000 in
theorem pdq_any (g off N cap : Nat) (zs : List Int) (lim : Int) (w : World) (h : Seg w g off N zs) (hn : zs.length ≤ 12) (hcap : zs.length ≤ cap) (hN : N ≤ 9223372036854775807) :
    Calls Try.prog 107 #[.slice (some ⟨g, off, none⟩) zs.length cap, .int .i64 0, .int .i64 zs.length, .int .i64 lim] w (SortPost g off N zs w) := by
  have H := Lib.hid h
  have HCAP := Lib.hid hcap
  clear h
  go_enter Try.func107, Try.ntmps107
  go_wp2_with fail
  refine wp_loop_rounds 1 ?_
  rw [rounds_succ]
  go_wp2_with fail
  refine (insertion_any g off N cap zs _ H.out hn HCAP.out hN).mono ?_
  rintro e w1 ⟨ys, rfl, h1, h2, h3, h4⟩
  go_wp2
  go_returns
  exact ⟨ys, rfl, h1, h2, h3, h4⟩

set_option maxRecDepth 100000 in
set_option maxHeartbeats 2000000 in
theorem sort_any (g off N cap : Nat) (zs : List Int) (w : World) (h : Seg w g off N zs) (hn : zs.length ≤ 12) (hcap : zs.length ≤ cap) (hN : N ≤ 9223372036854775807) :
    Calls Try.prog 101 #[.slice (some ⟨g, off, none⟩) zs.length cap] w (SortPost g off N zs w) := by
  have H := Lib.hid h
  have HCAP := Lib.hid hcap
  clear h
  go_enter Try.func101, Try.ntmps101
  go_wp2_with fail
  refine (len_any zs.length _ hn).mono ?_
  rintro e w1 ⟨k, rfl, rfl⟩
  go_wp2_with fail
  refine (pdq_any g off N cap zs k _ H.out hn HCAP.out hN).mono ?_
  rintro e w1 ⟨ys, rfl, h1, h2, h3, h4⟩
  go_wp2
  go_returns
  exact ⟨ys, rfl, h1, h2, h3, h4⟩

end Go.Proofs.Ytcacedcbboidoaa
