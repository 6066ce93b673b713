/- Contracts of the laws' helpers on deeds: marks. -/
import Derived.Test.YtedadhoneebfnaaDoorDk
import Derived.Test.YtedadhoneebfnaaDoorMt8
import Derived.StillTailTactics
set_option linter.unusedSimpArgs false
set_option linter.unusedVariables false
namespace Go.Proofs.YtedadhoneebfnaaDoor
open Go.RowKit

def dmarks (k n : Nat) : List Ded := (List.range n).map fun i => (((k + 3 * i : Nat) : Int), ((k + 3 * i + 1 : Nat) : Int), mt (k + 3 * i + 2))
theorem dmarks_len (k n : Nat) : (dmarks k n).length = n := by simp [dmarks]
theorem dmarks_at (k n i : Nat) (h : i < n) : (dmarks k n)[i]? = some (((k + 3 * i : Nat) : Int), ((k + 3 * i + 1 : Nat) : Int), mt (k + 3 * i + 2)) := by simp [dmarks, h]
def dmarkTo (cs : List Ded) (k j : Nat) : List Ded := dmarks k j ++ cs.drop j
theorem dmarkTo_zero (cs : List Ded) (k : Nat) : dmarkTo cs k 0 = cs := by simp [dmarkTo, dmarks]
theorem dmarkTo_all (cs : List Ded) (k : Nat) : dmarkTo cs k cs.length = dmarks k cs.length := by simp [dmarkTo]
theorem dmarkTo_len (cs : List Ded) (k j : Nat) (h : j ≤ cs.length) : (dmarkTo cs k j).length = cs.length := by simp [dmarkTo, dmarks]; omega
theorem dmarkTo_set (cs : List Ded) (k j : Nat) (h : j < cs.length) : (dmarkTo cs k j).set j (((k + 3 * j : Nat) : Int), ((k + 3 * j + 1 : Nat) : Int), mt (k + 3 * j + 2)) = dmarkTo cs k (j + 1) := by
  apply List.ext_getElem
  · simp [dmarkTo, dmarks]; omega
  · intro i h1 h2
    simp only [List.getElem_set, dmarkTo, dmarks, List.getElem_append, List.length_map, List.length_range, List.getElem_map, List.getElem_range, List.getElem_drop]
    split
    · subst_vars; rw [dif_pos (by omega)]
    · split
      · rw [dif_pos (by omega)]
      · rw [dif_neg (by omega)]; congr 1; omega

set_option maxRecDepth 100000 in
set_option maxHeartbeats 1000000 in
theorem markDeeds (g n cap : Nat) (ds : List Ded) (k : Nat) (w : World) (hv : Own w g n cap 26 3 (dcells ds)) (hk0 : 0 < k) (hk : k ≤ 100000000) (hn : n ≤ 10000000) :
    Calls Tryd.prog 24 #[.slice (some ⟨g, 0, none⟩) n cap, .int .i64 k] w fun e w' => e = .returned (.int .i64 (k + 3 * n : Nat)) ∧ Own w' g n cap 26 3 (dcells (dmarks k n)) ∧ w.grownBy w' (some g) := by
  have hlen := hv.len
  rw [dcells_len] at hlen
  have hlen' : ds.length = n := by omega
  have HLEN := Lib.hid hlen'
  clear hlen hlen'
  go_enter Tryd.func24, Tryd.ntmps24
  go_wp2_with fail
  go_loopw [1, 5] (fun kk i wr => ∃ j : Nat, j ≤ n ∧ i = .int .i64 j ∧ kk = .int .i64 (k + 3 * j : Nat) ∧ Own wr g n cap 26 3 (dcells (dmarkTo ds k j)) ∧ w.grownBy wr (some g)) (fun _ i _ => n - (intOf i).toNat)
  case atStart => exact ⟨0, by omega, rfl, by simp, by rw [dmarkTo_zero]; exact hv, World.grownBy.refl _ _⟩
  case round =>
    obtain ⟨j, hj, rfl, rfl, hown, hgr⟩ := hrel
    by_cases hjn : j < n
    · have hlt := hown.lt
      obtain ⟨y, hy⟩ : ∃ y, (dmarkTo ds k j)[j]? = some y := ⟨_, List.getElem?_eq_getElem (by rw [dmarkTo_len _ _ _ (by rw [HLEN.out]; omega), HLEN.out]; omega)⟩
      obtain ⟨y1, y2, y3⟩ := dcells_at _ _ _ hy
      have d1 := hown.cell (j * 3) (by omega)
      rw [y1] at d1
      have d2 := hown.cell (j * 3 + 1) (by omega)
      rw [y2] at d2
      have f1 := hown.free (j * 3)
      have f2 := hown.free (j * 3 + 1)
      clear hy y1 y2
      have HY3 := Lib.hid y3
      clear y3
      go_wp2_with fail
      refine (markText_any (k + 3 * j + 2) _ (by omega) (by omega)).mono ?_
      rintro e w2 ⟨rfl, hb2⟩
      have hown2 : Own w2 g n cap 26 3 (((dcells (dmarkTo ds k j)).set (j * 3) (.int .i64 (k + 3 * j : Nat))).set (j * 3 + 1) (.int .i64 (k + 3 * j + 1 : Nat))) := by
        refine Own.below hb2 (by simpa using hlt) ?_
        (repeat' (first | (with_reducible assumption) | rfl | omega | (with_reducible apply Own.set) | (with_reducible apply Own.other (by first | (simp; done) | (simp; omega) | omega)) | (with_reducible apply Own.alloc) | (with_reducible apply Own.drewN) | (with_reducible apply Own.drew) | (with_reducible apply Own.below) | (simp; omega)))
      have hgr2 : w.grownBy w2 (some g) := by
        refine gb_below hb2 (by simpa using hgr.size) ?_
        (repeat' (first | (with_reducible assumption) | (with_reducible exact World.grownBy.refl _ _) | omega | (with_reducible apply gb_set) | (with_reducible apply gb_new (by first | omega | (simp; done) | (simp; omega))) | (with_reducible apply gb_alloc) | (with_reducible apply gb_drewN) | (with_reducible apply gb_drew) | (with_reducible apply gb_below (by assumption)) | (simp; omega)))
      have hlt2 := hown2.lt
      have d3 := hown2.cell (j * 3 + 2) (by omega)
      rw [List.getElem?_set_ne (by omega), List.getElem?_set_ne (by omega), HY3.out] at d3
      have f3 := hown2.free (j * 3 + 2)
      clear hown hb2 d1 d2 f1 f2 hgr
      go_wp2_with fail
      go_roundw
      case rel =>
        refine ⟨j + 1, by omega, by go_num, by go_num, ?_, ?_⟩
        · rw [← dmarkTo_set _ _ _ (by rw [HLEN.out]; omega), ← dcells_set _ _ _ (by rw [dmarkTo_len _ _ _ (by rw [HLEN.out]; omega), HLEN.out]; omega)]
          (repeat' (first | (with_reducible assumption) | rfl | omega | (with_reducible apply Own.set) | (with_reducible apply Own.other (by first | (simp; done) | (simp; omega) | omega)) | (with_reducible apply Own.alloc) | (with_reducible apply Own.drewN) | (with_reducible apply Own.drew) | (with_reducible apply Own.below) | (simp; omega)))
        · (repeat' (first | (with_reducible assumption) | (with_reducible exact World.grownBy.refl _ _) | omega | (with_reducible apply gb_set) | (with_reducible apply gb_new (by first | omega | (simp; done) | (simp; omega))) | (with_reducible apply gb_alloc) | (with_reducible apply gb_drewN) | (with_reducible apply gb_drew) | (with_reducible apply gb_below (by assumption)) | (simp; omega)))
      case measure => simp [intOf]; omega
    · obtain rfl : j = n := by omega
      go_wp2
      go_returns
      refine ⟨rfl, ?_, hgr⟩
      have := dmarkTo_all ds k
      rw [HLEN.out] at this
      rw [← this]
      exact hown
set_option maxHeartbeats 400000 in
theorem markDeeds_any (base : Nat) (v : Value) (n : Nat) (cs : List Ded) (k : Nat) (w : World) (hv : w.ownsRow base 26 3 v n (dcells cs)) (hk0 : 0 < k) (hk : k ≤ 100000000) (hn : n ≤ 10000000) :
    Calls Tryd.prog 24 #[v, .int .i64 k] w fun e w' => e = .returned (.int .i64 (k + 3 * n : Nat)) ∧ w'.ownsRow base 26 3 v n (dcells (dmarks k n)) ∧ w.grownBy w' v.ownBlock := by
  rcases hv.2 with ⟨rfl, rfl⟩ | ⟨g, cap, cur, rfl, hb, _⟩
  · clear hv
    go_enter Tryd.func24, Tryd.ntmps24
    go_wp2_with fail
    refine wp_loop_rounds 1 ?_
    rw [rounds_succ]
    go_wp2
    go_returns
    exact ⟨by simp, World.ownsRow_nil _ _ _ _, World.grownBy.refl _ _⟩
  · refine (markDeeds g n cap cs k w (Own.of hv).1 hk0 hk hn).mono ?_
    rintro e w' ⟨rfl, h1, h2⟩
    exact ⟨rfl, h1.back hb, h2⟩

set_option maxRecDepth 100000 in
set_option maxHeartbeats 400000 in
theorem heldDeeds_any (v : Value) (n k : Nat) (w : World) (hv : Rds w v n 3 (dcells (dmarks k n))) (hk0 : 0 < k) (hk : k ≤ 100000000) (hn : n ≤ 10000000) :
    Calls Tryd.prog 25 #[v, .int .i64 k] w fun e w' => e = .returned (.int .i64 (k + 3 * n : Nat)) ∧ Below w.heap.size w w' := by
  obtain ⟨hl1, hm1, a, ca, rfl, hn1, hc1⟩ := hv
  unfold maxLen at hm1
  clear hl1
  go_enter Tryd.func25, Tryd.ntmps25
  go_wp2_with fail
  go_loopw [1, 5] (fun kk i wr => ∃ j : Nat, j ≤ n ∧ i = .int .i64 j ∧ kk = .int .i64 (k + 3 * j : Nat) ∧ Below w.heap.size w wr) (fun _ i _ => n - (intOf i).toNat)
  case atStart => exact ⟨0, by omega, rfl, by simp, Below.refl _ _⟩
  case round =>
    obtain ⟨j, hj, rfl, rfl, hbel⟩ := hrel
    by_cases hjn : j < n
    · rcases hc1 with hc1 | ⟨b, off, rfl, hb, hc1⟩
      · omega
      obtain ⟨g1, g2, g3⟩ := dcells_at _ _ _ (dmarks_at k n j hjn)
      have c1 : wr.cell? ⟨b, off + j * 3, none⟩ = some (.int .i64 (k + 3 * j : Nat)) := by rw [hbel.cell (p := ⟨b, off + j * 3, none⟩) hb, hc1 _ (by omega), g1]
      have c2 : wr.cell? ⟨b, off + j * 3 + 1, none⟩ = some (.int .i64 (k + 3 * j + 1 : Nat)) := by rw [Nat.add_assoc, hbel.cell (p := ⟨b, off + (j * 3 + 1), none⟩) hb, hc1 _ (by omega), g2]
      have c3 : wr.cell? ⟨b, off + j * 3 + 2, none⟩ = some (.string (mt (k + 3 * j + 2))) := by rw [Nat.add_assoc, hbel.cell (p := ⟨b, off + (j * 3 + 2), none⟩) hb, hc1 _ (by omega), g3]
      have hsb := str_eq (rfl : mt (k + 3 * j + 2) = mt (k + 3 * j + 2))
      have hz := hbel.size
      have hblt : b < wr.heap.size := by omega
      clear hc1 g1 g2 g3
      go_wp2_with fail
      go_region_held3 (fun w' => w'.cell? ⟨b, off + j * 3 + 2, none⟩ = some (.string (mt (k + 3 * j + 2)))) ((repeat' (first | (with_reducible assumption) | (with_reducible apply And.intro) | (with_reducible apply keep_drew) | (with_reducible apply keep_drewN) | (simp [go_sem, World.cell?_alloc_past]; done) | (simp [*]; done) | (with_reducible apply keep_other (by first | (simp; done) | (simp; omega) | omega)) | (with_reducible apply keep_below (by assumption)) | (with_reducible apply keep_alloc))))
        (first | (go_at_call 43; refine (markText_any (k + 3 * j + 2) _ (by omega) (by omega)).mono ?_; rintro e w2 ⟨rfl, hb2⟩))
      have hz2 := hb2.size
      have hbel2 : Below w.heap.size w w2 := by (repeat' (first | (with_reducible exact Below.refl _ _) | (with_reducible assumption) | (with_reducible refine Below.drew ?_) | (with_reducible refine below_drewN ?_ _) | (with_reducible refine Below.alloc ?_ ?_ _) | (with_reducible refine Below.setCell ?_ ?_ _) | (refine Below.trans ?_ (Below.mono (by assumption) (by first | omega | (with_reducible exact Below.size (by assumption)) | (simp; done) | (simp; omega)))) | (with_reducible exact Nat.le_refl _) | omega | (with_reducible exact Below.size (by assumption)) | (simp only [World.size_alloc, World.size_setCell, World.size_drew]; omega) | (simp; done) | (simp; omega)))
      clear hb2 c1 c2 c3
      go_wp2_with fail
      go_roundw
      case rel => exact ⟨j + 1, by omega, by go_num, by go_num, by (repeat' (first | (with_reducible exact Below.refl _ _) | (with_reducible assumption) | (with_reducible refine Below.drew ?_) | (with_reducible refine below_drewN ?_ _) | (with_reducible refine Below.alloc ?_ ?_ _) | (with_reducible refine Below.setCell ?_ ?_ _) | (refine Below.trans ?_ (Below.mono (by assumption) (by first | omega | (with_reducible exact Below.size (by assumption)) | (simp; done) | (simp; omega)))) | (with_reducible exact Nat.le_refl _) | omega | (with_reducible exact Below.size (by assumption)) | (simp only [World.size_alloc, World.size_setCell, World.size_drew]; omega) | (simp; done) | (simp; omega)))⟩
      case measure => simp [intOf]; omega
    · obtain rfl : j = n := by omega
      go_wp2
      go_returns
      exact ⟨rfl, hbel⟩

end Go.Proofs.YtedadhoneebfnaaDoor
