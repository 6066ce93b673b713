/- Contracts of the laws' helpers on routes. -/
import Derived.Test.YtcacedcbboidoaaRo
import Derived.Test.YtcacedcbboidoaaInts
import Derived.Deep.QuietTactic
import Derived.BigQuiet
import Derived.StillTailTactics
set_option linter.unusedSimpArgs false
set_option linter.unusedVariables false
namespace Go.Proofs.Ytcacedcbboidoaa
open Go.RowKit

theorem infoRt : (Try.prog.info? 32).map (fun i => (i.zero, i.size, i.bytes)) = some (some (.agg #[.string ByteArray.empty, .int .i64 0]), 2, 24) := by kernel_rfl

theorem rcells_set (rs : List Rt) : ∀ (k : Nat) (r : Rt), k < rs.length → ((rcells rs).set (k * 2) (.string r.1)).set (k * 2 + 1) (.int .i64 r.2) = rcells (rs.set k r) := by
  induction rs with
  | nil => intro k r h; simp at h
  | cons x rs ih =>
    intro k r h
    cases k with
    | zero => simp [rcells]
    | succ k =>
      rw [show (k + 1) * 2 = k * 2 + 2 by omega]
      have := ih k r (by simpa using h)
      simpa [rcells, List.flatMap_cons] using this
theorem rcells_zero (n : Nat) : (madeCells (Value.agg #[.string ByteArray.empty, .int .i64 0]).cells (n * 2)).toList = rcells (List.replicate n (ByteArray.empty, 0)) := by
  apply List.ext_getElem?
  intro i
  by_cases hi : i < n * 2
  · obtain ⟨k, hk⟩ : ∃ k, i / 2 = k := ⟨_, rfl⟩
    have hkn : k < n := by omega
    have hr : (List.replicate n ((ByteArray.empty, 0) : Rt))[k]? = some (ByteArray.empty, 0) := by simp [hkn]
    obtain ⟨g1, g2⟩ := rcells_at _ k _ hr
    rcases Nat.mod_two_eq_zero_or_one i with h | h
    · obtain rfl : i = k * 2 := by omega
      rw [g1]; simp [madeCells, Value.cells, hi]
    · obtain rfl : i = k * 2 + 1 := by omega
      rw [g2]; simp [madeCells, Value.cells, hi]
  · rw [List.getElem?_eq_none (by simp [madeCells]; omega), List.getElem?_eq_none (by rw [rcells_len]; simp; omega)]

/-- The first k are taken over. -/
def overTo (rs : List Rt) (k : Nat) : List Rt := rs.take k ++ List.replicate (rs.length - k) (ByteArray.empty, 0)
theorem overTo_len (rs : List Rt) (k : Nat) (h : k ≤ rs.length) : (overTo rs k).length = rs.length := by simp [overTo]; omega
theorem overTo_all (rs : List Rt) : overTo rs rs.length = rs := by simp [overTo]
theorem overTo_set (rs : List Rt) (k : Nat) (r : Rt) (h : rs[k]? = some r) : (overTo rs k).set k r = overTo rs (k + 1) := by
  have hk : k < rs.length := (List.getElem?_eq_some_iff.1 h).1
  have hr : rs[k] = r := (List.getElem?_eq_some_iff.1 h).2
  apply List.ext_getElem
  · simp [overTo]; omega
  · intro i h1 h2
    simp only [overTo, List.getElem_set, List.getElem_append, List.length_take, List.getElem_take, List.getElem_replicate]
    split
    · subst_vars; rw [dif_pos (by omega)]
    · split
      · rw [dif_pos (by omega)]
      · rw [dif_neg (by omega)]

/-- What szRouteS leaves. -/
def SzPost (rs : List Rt) (w : World) (e : Ending) (w' : World) : Prop :=
  ∃ x : Int, e = .returned (.int .i64 x) ∧ -1 ≤ x ∧ x ≤ 1048576 ∧ (0 ≤ x → rs.length ≤ 1048576 ∧ ∀ (k : Nat) (r : Rt), rs[k]? = some r → r.1.size ≤ 1048576) ∧ Below w.heap.size w w'

set_option maxHeartbeats 400000 in
theorem szRoute_any (s : ByteArray) (o left : Int) (w : World) (hs : s.size ≤ maxLen) (h0 : 0 ≤ left) (h1 : left ≤ 1048576) :
    Calls Try.prog 84 #[.agg #[.string s, .int .i64 o], .int .i64 left] w fun e w' => e = .returned (.int .i64 (if left < (s.size : Int) then -1 else left - s.size)) ∧ Below w.heap.size w w' := by
  unfold maxLen at hs
  by_cases h : left < (s.size : Int)
  · rw [if_pos h]
    go_enter Try.func84, Try.ntmps84
    go_wp2
    go_returns
    exact ⟨rfl, by (repeat' (first | (with_reducible exact Below.refl _ _) | (with_reducible assumption) | (with_reducible refine Below.drew ?_) | (with_reducible refine below_drewN ?_ _) | (with_reducible refine Below.alloc ?_ ?_ _) | (with_reducible refine Below.setCell ?_ ?_ _) | (refine Below.trans ?_ (Below.mono (by assumption) (by first | omega | (with_reducible exact Below.size (by assumption)) | (simp; done) | (simp; omega)))) | (with_reducible exact Nat.le_refl _) | omega | (with_reducible exact Below.size (by assumption)) | (simp only [World.size_alloc, World.size_setCell, World.size_drew]; omega) | (simp; done) | (simp; omega)))⟩
  · rw [if_neg h]
    go_enter Try.func84, Try.ntmps84
    go_wp2
    go_returns
    exact ⟨rfl, by (repeat' (first | (with_reducible exact Below.refl _ _) | (with_reducible assumption) | (with_reducible refine Below.drew ?_) | (with_reducible refine below_drewN ?_ _) | (with_reducible refine Below.alloc ?_ ?_ _) | (with_reducible refine Below.setCell ?_ ?_ _) | (refine Below.trans ?_ (Below.mono (by assumption) (by first | omega | (with_reducible exact Below.size (by assumption)) | (simp; done) | (simp; omega)))) | (with_reducible exact Nat.le_refl _) | omega | (with_reducible exact Below.size (by assumption)) | (simp only [World.size_alloc, World.size_setCell, World.size_drew]; omega) | (simp; done) | (simp; omega)))⟩

set_option maxHeartbeats 400000 in
theorem szRouteS_any (v : Value) (rs : List Rt) (w : World) (hv : Rds w v rs.length 2 (rcells rs)) (hL : RtLen rs) :
    Calls Try.prog 27 #[v, .int .i64 1048576] w (SzPost rs w) := by
  obtain ⟨hl1, hm1, a, ca, rfl, hn1, hc1⟩ := hv
  unfold maxLen at hm1
  obtain ⟨n, hn⟩ : ∃ n, rs.length = n := ⟨_, rfl⟩
  rw [hn] at hm1 hn1 hc1 ⊢
  have HN := Lib.hid hn
  have HL := Lib.hid hL
  clear hn hl1 hL
  by_cases hbig : 1048576 < n
  · go_enter Try.func27, Try.ntmps27
    go_wp2
    go_returns
    exact ⟨-1, rfl, by omega, by omega, fun h => absurd h (by omega), Below.refl _ _⟩
  · go_enter Try.func27, Try.ntmps27
    go_wp2_with fail
    go_loopw [1, 5] (fun l i wr => ∃ (k : Nat) (x : Int), k ≤ n ∧ i = .int .i64 k ∧ l = .int .i64 x ∧ 0 ≤ x ∧ x ≤ 1048576 ∧ Hid (∀ (j : Nat) (r : Rt), j < k → rs[j]? = some r → r.1.size ≤ 1048576) ∧ Below w.heap.size w wr) (fun _ i _ => n - (intOf i).toNat)
    case atStart => exact ⟨0, _, by omega, rfl, rfl, by omega, by omega, fun j r h => absurd h (by omega), Below.refl _ _⟩
    case round =>
      obtain ⟨k, x, hk, rfl, rfl, hx0, hx1, hall, hbel⟩ := hrel
      by_cases hkn : k < n
      · rcases hc1 with hc1 | ⟨b, off, rfl, hb, hc1⟩
        · omega
        obtain ⟨r, hr⟩ : ∃ r, rs[k]? = some r := ⟨_, List.getElem?_eq_getElem (by rw [HN.out]; omega)⟩
        obtain ⟨g1, g2⟩ := rcells_at rs k r hr
        have c1 : wr.cell? ⟨b, off + k * 2, none⟩ = some (.string r.1) := by rw [hbel.cell (p := ⟨b, off + k * 2, none⟩) hb, hc1 _ (by omega), g1]
        have c2 : wr.cell? ⟨b, off + k * 2 + 1, none⟩ = some (.int .i64 r.2) := by rw [Nat.add_assoc, hbel.cell (p := ⟨b, off + (k * 2 + 1), none⟩) hb, hc1 _ (by omega), g2]
        have hrl := HL.out k r hr
        have HR := Lib.hid hr
        clear hc1 hr g1 g2
        obtain ⟨s, o⟩ := r
        simp only at c1 c2 hrl
        go_wp2_with fail
        refine (szRoute_any s o x _ hrl hx0 hx1).mono ?_
        rintro e w1 ⟨rfl, hb1⟩
        by_cases hs : x < (s.size : Int)
        · rw [if_pos hs]
          go_wp2
          go_returns
          exact ⟨-1, rfl, by omega, by omega, fun h => absurd h (by omega), by (repeat' (first | (with_reducible exact Below.refl _ _) | (with_reducible assumption) | (with_reducible refine Below.drew ?_) | (with_reducible refine below_drewN ?_ _) | (with_reducible refine Below.alloc ?_ ?_ _) | (with_reducible refine Below.setCell ?_ ?_ _) | (refine Below.trans ?_ (Below.mono (by assumption) (by first | omega | (with_reducible exact Below.size (by assumption)) | (simp; done) | (simp; omega)))) | (with_reducible exact Nat.le_refl _) | omega | (with_reducible exact Below.size (by assumption)) | (simp only [World.size_alloc, World.size_setCell, World.size_drew]; omega) | (simp; done) | (simp; omega)))⟩
        · rw [if_neg hs]
          go_wp2_with fail
          go_roundw
          case rel =>
            refine ⟨k + 1, x - s.size, by omega, by go_num, rfl, by omega, by omega, ?_, by (repeat' (first | (with_reducible exact Below.refl _ _) | (with_reducible assumption) | (with_reducible refine Below.drew ?_) | (with_reducible refine below_drewN ?_ _) | (with_reducible refine Below.alloc ?_ ?_ _) | (with_reducible refine Below.setCell ?_ ?_ _) | (refine Below.trans ?_ (Below.mono (by assumption) (by first | omega | (with_reducible exact Below.size (by assumption)) | (simp; done) | (simp; omega)))) | (with_reducible exact Nat.le_refl _) | omega | (with_reducible exact Below.size (by assumption)) | (simp only [World.size_alloc, World.size_setCell, World.size_drew]; omega) | (simp; done) | (simp; omega)))⟩
            intro j r hj hr
            by_cases e : j = k
            · subst e; have := HR.out; rw [hr] at this; cases this; simp only; omega
            · exact hall.out j r (by omega) hr
          case measure => simp [intOf]; omega
      · obtain rfl : k = n := by omega
        go_wp2
        go_returns
        exact ⟨x, rfl, by omega, by omega, fun _ => ⟨by rw [HN.out]; omega, fun j r hr => hall.out j r (by have := (List.getElem?_eq_some_iff.1 hr).1; rw [HN.out] at this; exact this) hr⟩, hbel⟩

set_option maxHeartbeats 400000 in
theorem toRoute_any (s : ByteArray) (o : Int) (w : World) :
    Calls Try.prog 86 #[.agg #[.string s, .int .i64 o]] w fun e w' => e = .returned (.agg #[.string s, .int .i64 o]) ∧ Below w.heap.size w w' := by
  go_enter Try.func86, Try.ntmps86
  go_wp2
  go_returns
  exact ⟨rfl, by (repeat' (first | (with_reducible exact Below.refl _ _) | (with_reducible assumption) | (with_reducible refine Below.drew ?_) | (with_reducible refine below_drewN ?_ _) | (with_reducible refine Below.alloc ?_ ?_ _) | (with_reducible refine Below.setCell ?_ ?_ _) | (refine Below.trans ?_ (Below.mono (by assumption) (by first | omega | (with_reducible exact Below.size (by assumption)) | (simp; done) | (simp; omega)))) | (with_reducible exact Nat.le_refl _) | omega | (with_reducible exact Below.size (by assumption)) | (simp only [World.size_alloc, World.size_setCell, World.size_drew]; omega) | (simp; done) | (simp; omega)))⟩

set_option maxHeartbeats 400000 in
theorem eqRoute_any (s t : ByteArray) (o q : Int) (w : World) :
    Calls Try.prog 88 #[.agg #[.string s, .int .i64 o], .agg #[.string t, .int .i64 q]] w fun e w' => e = .returned (.bool (decide ((s, o) = (t, q)))) ∧ Below w.heap.size w w' := by
  by_cases hs : s = t
  · have hsb := str_eq hs
    subst hs
    by_cases ho : o = q
    · subst ho
      go_enter Try.func88, Try.ntmps88
      go_wp2
      go_returns
      exact ⟨by simp, by (repeat' (first | (with_reducible exact Below.refl _ _) | (with_reducible assumption) | (with_reducible refine Below.drew ?_) | (with_reducible refine below_drewN ?_ _) | (with_reducible refine Below.alloc ?_ ?_ _) | (with_reducible refine Below.setCell ?_ ?_ _) | (refine Below.trans ?_ (Below.mono (by assumption) (by first | omega | (with_reducible exact Below.size (by assumption)) | (simp; done) | (simp; omega)))) | (with_reducible exact Nat.le_refl _) | omega | (with_reducible exact Below.size (by assumption)) | (simp only [World.size_alloc, World.size_setCell, World.size_drew]; omega) | (simp; done) | (simp; omega)))⟩
    · have hob : (o != q) = true := by simpa using ho
      have hd : decide ((s, o) = (s, q)) = false := by simpa using ho
      rw [hd]
      clear hd
      go_enter Try.func88, Try.ntmps88
      go_wp2
      go_returns
      exact ⟨by simp, by (repeat' (first | (with_reducible exact Below.refl _ _) | (with_reducible assumption) | (with_reducible refine Below.drew ?_) | (with_reducible refine below_drewN ?_ _) | (with_reducible refine Below.alloc ?_ ?_ _) | (with_reducible refine Below.setCell ?_ ?_ _) | (refine Below.trans ?_ (Below.mono (by assumption) (by first | omega | (with_reducible exact Below.size (by assumption)) | (simp; done) | (simp; omega)))) | (with_reducible exact Nat.le_refl _) | omega | (with_reducible exact Below.size (by assumption)) | (simp only [World.size_alloc, World.size_setCell, World.size_drew]; omega) | (simp; done) | (simp; omega)))⟩
  · have hsb := str_ne hs
    have hd : decide ((s, o) = (t, q)) = false := by simp [hs]
    rw [hd]
    clear hd
    go_enter Try.func88, Try.ntmps88
    go_wp2
    go_returns
    exact ⟨by simp, by (repeat' (first | (with_reducible exact Below.refl _ _) | (with_reducible assumption) | (with_reducible refine Below.drew ?_) | (with_reducible refine below_drewN ?_ _) | (with_reducible refine Below.alloc ?_ ?_ _) | (with_reducible refine Below.setCell ?_ ?_ _) | (refine Below.trans ?_ (Below.mono (by assumption) (by first | omega | (with_reducible exact Below.size (by assumption)) | (simp; done) | (simp; omega)))) | (with_reducible exact Nat.le_refl _) | omega | (with_reducible exact Below.size (by assumption)) | (simp only [World.size_alloc, World.size_setCell, World.size_drew]; omega) | (simp; done) | (simp; omega)))⟩

/-- A list of routes made anew. -/
def MadeRt (rs : List Rt) (w : World) (e : Ending) (w' : World) : Prop :=
  ∃ g, e = .returned (.slice (some ⟨g, 0, none⟩) rs.length rs.length) ∧ w.heap.size ≤ g ∧ Own w' g rs.length rs.length 32 2 (rcells rs) ∧ Below w.heap.size w w'

set_option maxHeartbeats 1000000 in
theorem toRouteS_any (v : Value) (rs : List Rt) (w : World) (hv : Rds w v rs.length 2 (rcells rs)) (hlen : rs.length ≤ 1048576) :
    Calls Try.prog 29 #[v] w (MadeRt rs w) := by
  obtain ⟨hl1, hm1, a, ca, rfl, hn1, hc1⟩ := hv
  unfold maxLen at hm1
  obtain ⟨i0, hi, hz0, hz1, hz2⟩ := info_parts infoRt
  unfold MadeRt
  obtain ⟨n, hn⟩ : ∃ n, rs.length = n := ⟨_, rfl⟩
  rw [hn] at hm1 hn1 hc1 hlen ⊢
  have HN := Lib.hid hn
  clear hn hl1
  go_enter Try.func29, Try.ntmps29
  go_wp2_with (refine wpList_make_full _ rfl _ _ 28 rfl w.heap.size 32 i0 _ 2 Try.underlying28 hi hz0 hz1 .i64 .i64 _ _ n rfl rfl rfl rfl (by rw [hz2]; omega) (by unfold maxLen; omega) (Nat.le_refl _) ?_; intro w1 hown hgr)
  rw [rcells_zero] at hown
  obtain ⟨hO, -⟩ := Own.of hown
  have hB : Below w.heap.size w w1 := (Below.refl w.heap.size w).grown hgr (Nat.le_refl _) (by intro k hk; cases hk)
  clear hown hgr
  go_wp2_with fail
  go_loopw [4] (fun i wr => ∃ (k : Nat), k ≤ n ∧ i = .int .i64 k ∧ Own wr w.heap.size n n 32 2 (rcells (overTo rs k)) ∧ Below w.heap.size w wr) (fun i _ => n - (intOf i).toNat)
  case atStart => exact ⟨0, by omega, rfl, by have := HN.out; simpa [overTo, this] using hO, hB⟩
  case round =>
    obtain ⟨k, hk, rfl, hown, hbel⟩ := hrel
    by_cases hkn : k < n
    · rcases hc1 with hc1 | ⟨b, off, rfl, hb, hc1⟩
      · omega
      obtain ⟨r, hr⟩ : ∃ r, rs[k]? = some r := ⟨_, List.getElem?_eq_getElem (by rw [HN.out]; omega)⟩
      obtain ⟨g1, g2⟩ := rcells_at rs k r hr
      have c1 : wr.cell? ⟨b, off + k * 2, none⟩ = some (.string r.1) := by rw [hbel.cell (p := ⟨b, off + k * 2, none⟩) hb, hc1 _ (by omega), g1]
      have c2 : wr.cell? ⟨b, off + k * 2 + 1, none⟩ = some (.int .i64 r.2) := by rw [Nat.add_assoc, hbel.cell (p := ⟨b, off + (k * 2 + 1), none⟩) hb, hc1 _ (by omega), g2]
      have HR := Lib.hid hr
      clear hc1 hr g1 g2
      have hlt := hown.lt
      go_wp2_with fail
      refine (toRoute_any r.1 r.2 _).mono ?_
      rintro e w2 ⟨rfl, hb2⟩
      have hown2 := hown.below hb2 hlt
      have hlt2 := hown2.lt
      obtain ⟨y, hy⟩ : ∃ y, (overTo rs k)[k]? = some y := ⟨_, List.getElem?_eq_getElem (by rw [overTo_len _ _ (by rw [HN.out]; omega), HN.out]; omega)⟩
      obtain ⟨y1, y2⟩ := rcells_at _ _ _ hy
      have d1 := hown2.cell (k * 2) (by omega)
      rw [y1] at d1
      have d2 := hown2.cell (k * 2 + 1) (by omega)
      rw [y2] at d2
      have f1 := hown2.free (k * 2)
      have f2 := hown2.free (k * 2 + 1)
      clear hown hy y1 y2
      go_wp2_with fail
      go_roundw
      case rel =>
        refine ⟨k + 1, by omega, by go_num, ?_, by (repeat' (first | (with_reducible exact Below.refl _ _) | (with_reducible assumption) | (with_reducible refine Below.drew ?_) | (with_reducible refine below_drewN ?_ _) | (with_reducible refine Below.alloc ?_ ?_ _) | (with_reducible refine Below.setCell ?_ ?_ _) | (refine Below.trans ?_ (Below.mono (by assumption) (by first | omega | (with_reducible exact Below.size (by assumption)) | (simp; done) | (simp; omega)))) | (with_reducible exact Nat.le_refl _) | omega | (with_reducible exact Below.size (by assumption)) | (simp only [World.size_alloc, World.size_setCell, World.size_drew]; omega) | (simp; done) | (simp; omega)))⟩
        rw [← overTo_set _ _ _ HR.out, ← rcells_set _ _ _ (by rw [overTo_len _ _ (by rw [HN.out]; omega), HN.out]; omega)]
        (repeat' (first | (with_reducible assumption) | rfl | omega | (with_reducible apply Own.set) | (with_reducible apply Own.other (by first | (simp; done) | (simp; omega) | omega)) | (with_reducible apply Own.alloc) | (with_reducible apply Own.drewN) | (with_reducible apply Own.drew) | (with_reducible apply Own.below) | (simp; omega)))
      case measure => simp [intOf]; omega
    · obtain rfl : k = n := by omega
      go_wp2
      go_returns
      have := overTo_all rs
      rw [HN.out] at this
      rw [this] at hown
      exact ⟨_, rfl, Nat.le_refl _, hown, hbel⟩

end Go.Proofs.Ytcacedcbboidoaa
