/- Contracts of markRouteS, heldRouteS. -/
import Derived.Test.YtcacedcbboidoaaMt
import Derived.Deep.RegionHeld3
set_option linter.unusedSimpArgs false
set_option linter.unusedVariables false
namespace Go.Proofs.Ytcacedcbboidoaa
open Go.RowKit

/-- What the marks write. -/
def rmarks (k n : Nat) : List Rt := (List.range n).map fun i => (mt (k + 2 * i), ((k + 2 * i + 1 : Nat) : Int))
theorem rmarks_len (k n : Nat) : (rmarks k n).length = n := by simp [rmarks]
theorem rmarks_at (k n i : Nat) (h : i < n) : (rmarks k n)[i]? = some (mt (k + 2 * i), ((k + 2 * i + 1 : Nat) : Int)) := by simp [rmarks, h]
def rmarkTo (rs : List Rt) (k j : Nat) : List Rt := rmarks k j ++ rs.drop j
theorem rmarkTo_zero (rs : List Rt) (k : Nat) : rmarkTo rs k 0 = rs := by simp [rmarkTo, rmarks]
theorem rmarkTo_all (rs : List Rt) (k : Nat) : rmarkTo rs k rs.length = rmarks k rs.length := by simp [rmarkTo]
theorem rmarkTo_len (rs : List Rt) (k j : Nat) (h : j ≤ rs.length) : (rmarkTo rs k j).length = rs.length := by simp [rmarkTo, rmarks]; omega
theorem rmarkTo_set (rs : List Rt) (k j : Nat) (h : j < rs.length) : (rmarkTo rs k j).set j (mt (k + 2 * j), ((k + 2 * j + 1 : Nat) : Int)) = rmarkTo rs k (j + 1) := by
  apply List.ext_getElem
  · simp [rmarkTo, rmarks]; omega
  · intro i h1 h2
    simp only [List.getElem_set, rmarkTo, rmarks, List.getElem_append, List.length_map, List.length_range, List.getElem_map, List.getElem_range, List.getElem_drop]
    split
    · subst_vars; rw [dif_pos (by omega)]
    · split
      · rw [dif_pos (by omega)]
      · rw [dif_neg (by omega)]; congr 1; omega

set_option maxRecDepth 100000 in
set_option maxHeartbeats 400000 in
theorem markRouteS_any (g n cap : Nat) (rs : List Rt) (k : Nat) (w : World) (hv : Own w g n cap 32 2 (rcells rs)) (hk0 : 0 < k) (hk : k ≤ 1000000) (hn : n ≤ 10000000) :
    Calls Try.prog 63 #[.slice (some ⟨g, 0, none⟩) n cap, .int .i64 k] w fun e w' => e = .returned (.int .i64 (k + 2 * n : Nat)) ∧ Own w' g n cap 32 2 (rcells (rmarks k n)) ∧ w.grownBy w' (some g) := by
  have hlen := hv.len
  rw [rcells_len] at hlen
  have hlen' : rs.length = n := by omega
  have HLEN := Lib.hid hlen'
  clear hlen hlen'
  go_enter Try.func63, Try.ntmps63
  go_wp2_with fail
  go_loopw [1, 5] (fun kk i wr => ∃ j : Nat, j ≤ n ∧ i = .int .i64 j ∧ kk = .int .i64 (k + 2 * j : Nat) ∧ Own wr g n cap 32 2 (rcells (rmarkTo rs k j)) ∧ w.grownBy wr (some g)) (fun _ i _ => n - (intOf i).toNat)
  case atStart => exact ⟨0, by omega, rfl, by simp, by rw [rmarkTo_zero]; exact hv, World.grownBy.refl _ _⟩
  case round =>
    obtain ⟨j, hj, rfl, rfl, hown, hgr⟩ := hrel
    by_cases hjn : j < n
    · have hlt := hown.lt
      go_wp2_with fail
      refine (markText_any (k + 2 * j) _ (by omega) (by omega)).mono ?_
      rintro e w2 ⟨rfl, hb2⟩
      have hown2 := hown.below hb2 hlt
      have hgr2 : w.grownBy w2 (some g) := gb_below hb2 hgr.size hgr
      have hlt2 := hown2.lt
      obtain ⟨y, hy⟩ : ∃ y, (rmarkTo rs k j)[j]? = some y := ⟨_, List.getElem?_eq_getElem (by rw [rmarkTo_len _ _ _ (by rw [HLEN.out]; omega), HLEN.out]; omega)⟩
      obtain ⟨y1, y2⟩ := rcells_at _ _ _ hy
      have d1 := hown2.cell (j * 2) (by omega)
      rw [y1] at d1
      have d2 := hown2.cell (j * 2 + 1) (by omega)
      rw [y2] at d2
      have f1 := hown2.free (j * 2)
      have f2 := hown2.free (j * 2 + 1)
      clear hown hy y1 y2 hb2
      go_wp2_with fail
      go_roundw
      case rel =>
        refine ⟨j + 1, by omega, by go_num, by go_num, ?_, ?_⟩
        · rw [← rmarkTo_set _ _ _ (by rw [HLEN.out]; omega), ← rcells_set _ _ _ (by rw [rmarkTo_len _ _ _ (by rw [HLEN.out]; omega), HLEN.out]; omega)]
          (repeat' (first | (with_reducible assumption) | rfl | omega | (with_reducible apply Own.set) | (with_reducible apply Own.other (by first | (simp; done) | (simp; omega) | omega)) | (with_reducible apply Own.alloc) | (with_reducible apply Own.drewN) | (with_reducible apply Own.drew) | (with_reducible apply Own.below) | (simp; omega)))
        · (repeat' (first | (with_reducible assumption) | (with_reducible exact World.grownBy.refl _ _) | omega | (with_reducible apply gb_set) | (with_reducible apply gb_new (by first | omega | (simp; done) | (simp; omega))) | (with_reducible apply gb_alloc) | (with_reducible apply gb_drewN) | (with_reducible apply gb_drew) | (with_reducible apply gb_below (by assumption)) | (simp; omega)))
      case measure => simp [intOf]; omega
    · obtain rfl : j = n := by omega
      go_wp2
      go_returns
      refine ⟨rfl, ?_, hgr⟩
      have := rmarkTo_all rs k
      rw [HLEN.out] at this
      rw [← this]
      exact hown

set_option maxRecDepth 100000 in
set_option maxHeartbeats 400000 in
theorem heldRouteS_any (v : Value) (n k : Nat) (w : World) (hv : Rds w v n 2 (rcells (rmarks k n))) (hk0 : 0 < k) (hk : k ≤ 1000000) (hn : n ≤ 10000000) :
    Calls Try.prog 64 #[v, .int .i64 k] w fun e w' => e = .returned (.int .i64 (k + 2 * n : Nat)) ∧ Below w.heap.size w w' := by
  obtain ⟨hl1, hm1, a, ca, rfl, hn1, hc1⟩ := hv
  unfold maxLen at hm1
  clear hl1
  go_enter Try.func64, Try.ntmps64
  go_wp2_with fail
  go_loopw [1, 5] (fun kk i wr => ∃ j : Nat, j ≤ n ∧ i = .int .i64 j ∧ kk = .int .i64 (k + 2 * j : Nat) ∧ Below w.heap.size w wr) (fun _ i _ => n - (intOf i).toNat)
  case atStart => exact ⟨0, by omega, rfl, by simp, Below.refl _ _⟩
  case round =>
    obtain ⟨j, hj, rfl, rfl, hbel⟩ := hrel
    have hz := hbel.size
    by_cases hjn : j < n
    · rcases hc1 with hc1 | ⟨b, off, rfl, hb, hc1⟩
      · omega
      obtain ⟨g1, g2⟩ := rcells_at _ _ _ (rmarks_at k n j hjn)
      have c1 : wr.cell? ⟨b, off + j * 2, none⟩ = some (.string (mt (k + 2 * j))) := by rw [hbel.cell (p := ⟨b, off + j * 2, none⟩) hb, hc1 _ (by omega), g1]
      have c2 : wr.cell? ⟨b, off + j * 2 + 1, none⟩ = some (.int .i64 (k + 2 * j + 1 : Nat)) := by rw [Nat.add_assoc, hbel.cell (p := ⟨b, off + (j * 2 + 1), none⟩) hb, hc1 _ (by omega), g2]
      have hsb := str_eq (rfl : mt (k + 2 * j) = mt (k + 2 * j))
      have hblt : b < wr.heap.size := by omega
      clear hc1 g1 g2
      go_wp2_with fail
      go_region_held3 (fun w' => w'.cell? ⟨b, off + j * 2, none⟩ = some (.string (mt (k + 2 * j)))) ((repeat' (first | (with_reducible assumption) | (with_reducible apply And.intro) | (with_reducible apply keep_drew) | (with_reducible apply keep_drewN) | (simp [go_sem, World.cell?_alloc_past]; done) | (simp [*]; done) | (with_reducible apply keep_other (by first | (simp; done) | (simp; omega) | omega)) | (with_reducible apply keep_below (by assumption)) | (with_reducible apply keep_alloc))))
        (first | (go_at_call 91; refine (markText_any (k + 2 * j) _ (by omega) (by omega)).mono ?_; rintro e w2 ⟨rfl, hb2⟩))
      have hz2 := hb2.size
      have hbel2 : Below w.heap.size w w2 := by (repeat' (first | (with_reducible exact Below.refl _ _) | (with_reducible assumption) | (with_reducible refine Below.drew ?_) | (with_reducible refine below_drewN ?_ _) | (with_reducible refine Below.alloc ?_ ?_ _) | (with_reducible refine Below.setCell ?_ ?_ _) | (refine Below.trans ?_ (Below.mono (by assumption) (by first | omega | (with_reducible exact Below.size (by assumption)) | (simp; done) | (simp; omega)))) | (with_reducible exact Nat.le_refl _) | omega | (with_reducible exact Below.size (by assumption)) | (simp only [World.size_alloc, World.size_setCell, World.size_drew]; omega) | (simp; done) | (simp; omega)))
      have c3 : w2.cell? ⟨b, off + j * 2 + 1, none⟩ = some (.int .i64 (k + 2 * j + 1 : Nat)) := keep_below hb2 c2
      clear hb2 c1 c2
      go_wp2_with fail
      go_roundw
      case rel => exact ⟨j + 1, by omega, by go_num, by go_num, by (repeat' (first | (with_reducible exact Below.refl _ _) | (with_reducible assumption) | (with_reducible refine Below.drew ?_) | (with_reducible refine below_drewN ?_ _) | (with_reducible refine Below.alloc ?_ ?_ _) | (with_reducible refine Below.setCell ?_ ?_ _) | (refine Below.trans ?_ (Below.mono (by assumption) (by first | omega | (with_reducible exact Below.size (by assumption)) | (simp; done) | (simp; omega)))) | (with_reducible exact Nat.le_refl _) | omega | (with_reducible exact Below.size (by assumption)) | (simp only [World.size_alloc, World.size_setCell, World.size_drew]; omega) | (simp; done) | (simp; omega)))⟩
      case measure => simp [intOf]; omega
    · obtain rfl : j = n := by omega
      go_wp2
      go_returns
      exact ⟨rfl, hbel⟩

end Go.Proofs.Ytcacedcbboidoaa
