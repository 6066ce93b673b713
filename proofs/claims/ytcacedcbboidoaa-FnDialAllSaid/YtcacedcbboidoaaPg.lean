/- Contracts of PlanLengths (program and reference). -/
import Derived.Test.YtcacedcbboidoaaPv
import Derived.Test.YtcacedcbboidoaaDrLen
import Derived.Test.YtcacedcbboidoaaStep
set_option linter.unusedSimpArgs false
set_option linter.unusedVariables false
namespace Go.Proofs.Ytcacedcbboidoaa
open Go.RowKit

noncomputable def plensR (ps : List ByteArray) : List Int := if planB ps = true then lensOf ps else []
/-- A list of numbers made anew. -/
def IntsOut (zs : List Int) (w : World) (e : Ending) (w' : World) : Prop := ∃ v, e = .returned v ∧ w'.ownsRow w.heap.size 3 1 v zs.length (ints zs) ∧ Below w.heap.size w w'

/-- The first k lengths are laid down. -/
def lensTo (ps : List ByteArray) (k : Nat) : List Int := (lensOf ps).take k ++ List.replicate (ps.length - k) 0
theorem lensTo_len (ps : List ByteArray) (k : Nat) (h : k ≤ ps.length) : (lensTo ps k).length = ps.length := by simp [lensTo, lensOf]; omega
theorem lensTo_zero (ps : List ByteArray) : lensTo ps 0 = List.replicate ps.length 0 := by simp [lensTo]
theorem lensTo_all (ps : List ByteArray) : lensTo ps ps.length = lensOf ps := by
  unfold lensTo
  rw [List.take_of_length_le (by simp [lensOf])]
  simp
theorem lensOf_at (ps : List ByteArray) (k : Nat) (s : ByteArray) (h : ps[k]? = some s) : (lensOf ps)[k]? = some (s.size : Int) := by simp [lensOf, h]
theorem lensTo_set (ps : List ByteArray) (k : Nat) (s : ByteArray) (h : ps[k]? = some s) : (lensTo ps k).set k (s.size : Int) = lensTo ps (k + 1) := by
  have hk := lt_of_some h
  have hl : (lensOf ps).length = ps.length := by simp [lensOf]
  have hs := lensOf_at ps k s h
  apply List.ext_getElem?
  intro i
  by_cases hi : i < ps.length
  · by_cases e : i = k
    · subst e
      rw [List.getElem?_set_self (by rw [lensTo_len _ _ (by omega)]; exact hk), lensTo, List.getElem?_append_left (by rw [List.length_take]; omega), List.getElem?_take_of_lt (by omega), hs]
    · rw [List.getElem?_set_ne (fun h => e h.symm)]
      by_cases hik : i < k
      · rw [lensTo, lensTo, List.getElem?_append_left (by rw [List.length_take]; omega), List.getElem?_append_left (by rw [List.length_take]; omega), List.getElem?_take_of_lt hik, List.getElem?_take_of_lt (by omega)]
      · rw [lensTo, lensTo, List.getElem?_append_right (by rw [List.length_take]; omega), List.getElem?_append_right (by rw [List.length_take]; omega)]
        simp only [List.length_take, hl, List.getElem?_replicate]
        rw [if_pos (by omega), if_pos (by omega)]
  · rw [List.getElem?_eq_none (by rw [List.length_set, lensTo_len _ _ (by omega)]; omega), List.getElem?_eq_none (by rw [lensTo_len _ _ (by omega)]; omega)]
theorem lensOf_step (ps : List ByteArray) (k : Nat) (s : ByteArray) (h : ps[k]? = some s) : (lensOf ps).take k ++ [(s.size : Int)] = (lensOf ps).take (k + 1) := by
  rw [List.take_add_one, lensOf_at ps k s h]; rfl
theorem ints_zero (n : Nat) : (madeCells (Value.int .i64 0).cells (n * 1)).toList = ints (List.replicate n 0) := by
  apply List.ext_getElem?
  intro i
  by_cases hi : i < n
  · simp [madeCells, Value.cells, ints, hi, List.getElem?_replicate, Nat.mod_one]
  · rw [List.getElem?_eq_none (by simp [madeCells]; omega), List.getElem?_eq_none (by simp [ints]; omega)]

set_option maxHeartbeats 1000000 in
theorem iPlanLengths_any (v : Value) (ps : List ByteArray) (w : World) (hv : Rds w v ps.length 1 (strs ps)) (hL : StLen ps) :
    Calls Try.prog 37 #[v] w (IntsOut (plensR ps) w) := by
  obtain ⟨i0, hi, hz0, hz1, hz2⟩ := info_parts infoI
  have HV := Lib.hid hv
  obtain ⟨a, ca, rfl, hl1, hm1, hn1, hc1⟩ := hv.open1
  unfold maxLen at hm1
  obtain ⟨n, hn⟩ : ∃ n, ps.length = n := ⟨_, rfl⟩
  have HN := Lib.hid hn
  have HV2 : Hid (Rds w (.slice a n ca) ps.length 1 (strs ps)) := by rw [hn] at HV ⊢; exact HV.out
  rw [hn] at hm1 hn1 hc1 ⊢
  have HL := Lib.hid hL
  clear hn hl1 hL hv
  go_enter Try.func37, Try.ntmps37
  go_wp2_with fail
  refine (iPlanValid_any _ ps _ HV2.out HL.out).mono ?_
  rintro e w1 ⟨rfl, rfl⟩
  obtain ⟨d, hd⟩ : ∃ d, planB ps = d := ⟨_, rfl⟩
  have HD := Lib.hid hd
  rw [hd]
  clear hd
  cases d
  · have HR : Hid (plensR ps = []) := by simp [Hid, plensR, HD.out]
    go_wp2
    go_returns
    exact ⟨_, rfl, by rw [HR.out]; exact World.ownsRow_nil _ _ _ _, Below.refl _ _⟩
  · have HR : Hid (plensR ps = lensOf ps) := by simp [Hid, plensR, HD.out]
    have h10 : n ≤ 10 := by have := ((planB_iff ps).1 HD.out).1; rw [HN.out] at this; exact this
    go_wp2_with (refine wpList_make_full _ rfl _ _ 23 rfl w.heap.size 3 i0 _ 1 Try.underlying23 hi hz0 hz1 .i64 .i64 _ _ n rfl rfl rfl rfl (by rw [hz2]; omega) (by unfold maxLen; omega) (Nat.le_refl _) ?_; intro w1 hown hgr)
    rw [ints_zero] at hown
    obtain ⟨hO, -⟩ := Own.of hown
    have hB : Below w.heap.size w w1 := (Below.refl w.heap.size w).grown hgr (Nat.le_refl _) (by intro k hk; cases hk)
    clear hown hgr
    go_wp2_with fail
    go_loopw [14] (fun i wr => ∃ (k : Nat), k ≤ n ∧ i = .int .i64 k ∧ Own wr w.heap.size n n 3 1 (ints (lensTo ps k)) ∧ Below w.heap.size w wr) (fun i _ => n - (intOf i).toNat)
    case atStart => exact ⟨0, by omega, rfl, by rw [lensTo_zero, HN.out]; exact hO, hB⟩
    case round =>
      obtain ⟨k, hk, rfl, hown, hbel⟩ := hrel
      by_cases hkn : k < n
      · rcases hc1 with hc1 | ⟨b, off, rfl, hb, hc1⟩
        · omega
        obtain ⟨s, hs⟩ : ∃ s, ps[k]? = some s := ⟨_, List.getElem?_eq_getElem (by rw [HN.out]; omega)⟩
        have c1 : wr.cell? ⟨b, off + k, none⟩ = some (.string s) := by rw [hbel.cell (p := ⟨b, off + k, none⟩) hb, hc1 k hkn, strs_at ps k s hs]
        have hsl := HL.out k s hs
        unfold maxLen at hsl
        have HS := Lib.hid hs
        have hlt := hown.lt
        obtain ⟨y, hy⟩ : ∃ y, (lensTo ps k)[k]? = some y := ⟨_, List.getElem?_eq_getElem (by rw [lensTo_len _ _ (by rw [HN.out]; omega), HN.out]; omega)⟩
        have d1 := hown.cell k (by omega)
        rw [ints_at _ _ _ hy] at d1
        have f1 := hown.free k
        clear hc1 hs hy
        go_wp2_with fail
        go_roundw
        case rel =>
          refine ⟨k + 1, by omega, by go_num, ?_, by (repeat' (first | (with_reducible exact Below.refl _ _) | (with_reducible assumption) | (with_reducible refine Below.drew ?_) | (with_reducible refine below_drewN ?_ _) | (with_reducible refine Below.alloc ?_ ?_ _) | (with_reducible refine Below.setCell ?_ ?_ _) | (refine Below.trans ?_ (Below.mono (by assumption) (by first | omega | (with_reducible exact Below.size (by assumption)) | (simp; done) | (simp; omega)))) | (with_reducible exact Nat.le_refl _) | omega | (with_reducible exact Below.size (by assumption)) | (simp only [World.size_alloc, World.size_setCell, World.size_drew]; omega) | (simp; done) | (simp; omega)))⟩
          rw [← lensTo_set _ _ _ HS.out, ← ints_set]
          (repeat' (first | (with_reducible assumption) | rfl | omega | (with_reducible apply Own.set) | (with_reducible apply Own.other (by first | (simp; done) | (simp; omega) | omega)) | (with_reducible apply Own.alloc) | (with_reducible apply Own.drewN) | (with_reducible apply Own.drew) | (with_reducible apply Own.below) | (simp; omega)))
        case measure => simp [intOf]; omega
      · obtain rfl : k = n := by omega
        go_wp2
        go_returns
        refine ⟨_, rfl, ?_, hbel⟩
        have := lensTo_all ps
        rw [HN.out] at this
        rw [this] at hown
        rw [HR.out]
        have e : (lensOf ps).length = k := by rw [← HN.out]; simp [lensOf]
        rw [e]
        exact hown.back (Nat.le_refl _)

set_option maxHeartbeats 1000000 in
theorem sPlanLengths_any (v : Value) (ps : List ByteArray) (w : World) (hv : Rds w v ps.length 1 (strs ps)) (hL : StLen ps) :
    Calls Try.prog 35 #[v] w (IntsOut (plensR ps) w) := by
  obtain ⟨i0, hi, hz0, hz1, hz2⟩ := info_parts infoI
  have HV := Lib.hid hv
  obtain ⟨a, ca, rfl, hl1, hm1, hn1, hc1⟩ := hv.open1
  unfold maxLen at hm1
  obtain ⟨n, hn⟩ : ∃ n, ps.length = n := ⟨_, rfl⟩
  have HN := Lib.hid hn
  have HV2 : Hid (Rds w (.slice a n ca) ps.length 1 (strs ps)) := by rw [hn] at HV ⊢; exact HV.out
  rw [hn] at hm1 hn1 hc1 ⊢
  have HL := Lib.hid hL
  clear hn hl1 hL hv
  have ho1 : (w.alloc (.cells #[] 3)).ownsRow w.heap.size 3 1 (.slice (some ⟨w.heap.size, 0, none⟩) 0 0) 0 (ints []) :=
    World.ownsRow_lit (base := w.heap.size) (e := 3) (size := 1) w #[] 0 (Nat.le_refl _) (by unfold maxLen; omega) rfl
  go_enter Try.func35, Try.ntmps35
  go_wp2_with fail
  go_loopw [3, 4] (fun v i wr => ∃ (k : Nat), k ≤ n ∧ i = .int .i64 k ∧ Hid (1 ≤ k → planB ps = true) ∧ k ≤ 10 ∧ wr.ownsRow w.heap.size 3 1 v k (ints ((lensOf ps).take k)) ∧ Below w.heap.size w wr) (fun _ i _ => n - (intOf i).toNat)
  case atStart => exact ⟨0, by omega, rfl, fun h => absurd h (by omega), by omega, ho1, by (repeat' (first | (with_reducible exact Below.refl _ _) | (with_reducible assumption) | (with_reducible refine Below.drew ?_) | (with_reducible refine below_drewN ?_ _) | (with_reducible refine Below.alloc ?_ ?_ _) | (with_reducible refine Below.setCell ?_ ?_ _) | (refine Below.trans ?_ (Below.mono (by assumption) (by first | omega | (with_reducible exact Below.size (by assumption)) | (simp; done) | (simp; omega)))) | (with_reducible exact Nat.le_refl _) | omega | (with_reducible exact Below.size (by assumption)) | (simp only [World.size_alloc, World.size_setCell, World.size_drew]; omega) | (simp; done) | (simp; omega)))⟩
  case round =>
    obtain ⟨k, hk, rfl, hval, hk10, hown, hbel⟩ := hrel
    have hz := hbel.size
    by_cases hkn : k < n
    · go_wp2_with fail
      refine (sPlanValid_any _ ps _ (HV2.out.below hbel) HL.out).mono ?_
      rintro e w1 ⟨rfl, q, rfl⟩
      obtain ⟨d, hd⟩ : ∃ d, planB ps = d := ⟨_, rfl⟩
      have HD := Lib.hid hd
      rw [hd]
      clear hd
      cases d
      · have HR : Hid (plensR ps = []) := by simp [Hid, plensR, HD.out]
        have hk0 : k = 0 := by
          by_cases h : 1 ≤ k
          · have := hval.out h; rw [HD.out] at this; cases this
          · omega
        subst hk0
        go_wp2
        go_returns
        exact ⟨_, rfl, by rw [HR.out]; exact hown, by (repeat' (first | (with_reducible exact Below.refl _ _) | (with_reducible assumption) | (with_reducible refine Below.drew ?_) | (with_reducible refine below_drewN ?_ _) | (with_reducible refine Below.alloc ?_ ?_ _) | (with_reducible refine Below.setCell ?_ ?_ _) | (refine Below.trans ?_ (Below.mono (by assumption) (by first | omega | (with_reducible exact Below.size (by assumption)) | (simp; done) | (simp; omega)))) | (with_reducible exact Nat.le_refl _) | omega | (with_reducible exact Below.size (by assumption)) | (simp only [World.size_alloc, World.size_setCell, World.size_drew]; omega) | (simp; done) | (simp; omega)))⟩
      · rcases hc1 with hc1 | ⟨b, off, rfl, hb, hc1⟩
        · omega
        obtain ⟨s, hs⟩ : ∃ s, ps[k]? = some s := ⟨_, List.getElem?_eq_getElem (by rw [HN.out]; omega)⟩
        have c1 : wr.cell? ⟨b, off + k, none⟩ = some (.string s) := by rw [hbel.cell (p := ⟨b, off + k, none⟩) hb, hc1 k hkn, strs_at ps k s hs]
        have h10 : n ≤ 10 := by have := ((planB_iff ps).1 HD.out).1; rw [HN.out] at this; exact this
        have hsl := HL.out k s hs
        unfold maxLen at hsl
        have HS := Lib.hid hs
        clear hc1 hs
        have hown2 : (wr.drewN q).ownsRow w.heap.size 3 1 _ k (ints ((lensOf ps).take k)) := hown
        go_wp2_with (at_builtin; refine wpList_append_own _ rfl _ _ 23 rfl w.heap.size 3 i0 (.int .i64 0) 1 8 Try.underlying23 hi hz0 hz1 hz2 rfl (by decide) _ _ _ rfl (hown2.alloc _) ⟨wr.heap.size, 0, none⟩ 1 1 [.int .i64 s.size] rfl rfl (by intro j u hj; rw [Addr.add_spot]; exact keep_new (by simp) (by simpa using hj)) (by intro u hu; simp at hu; subst hu; rfl) (by unfold maxLen; omega) (by omega) (by simp; omega) ?_; intro v' w3 hown3 hgrow _)
        have hbel3 : Below w.heap.size w w3 := by
          refine Below.grown ?_ hgrow ?_ ?_
          · (repeat' (first | (with_reducible exact Below.refl _ _) | (with_reducible assumption) | (with_reducible refine Below.drew ?_) | (with_reducible refine below_drewN ?_ _) | (with_reducible refine Below.alloc ?_ ?_ _) | (with_reducible refine Below.setCell ?_ ?_ _) | (refine Below.trans ?_ (Below.mono (by assumption) (by first | omega | (with_reducible exact Below.size (by assumption)) | (simp; done) | (simp; omega)))) | (with_reducible exact Nat.le_refl _) | omega | (with_reducible exact Below.size (by assumption)) | (simp only [World.size_alloc, World.size_setCell, World.size_drew]; omega) | (simp; done) | (simp; omega)))
          · simp; omega
          · exact fun j hj => own_ge hown j hj
        rw [ints_snoc, lensOf_step _ _ _ HS.out] at hown3
        clear hgrow hown2 hown
        go_roundw
        case rel => exact ⟨k + 1, by omega, by go_num, fun _ => HD.out, by omega, hown3, hbel3⟩
        case measure => simp [intOf]; omega
    · obtain rfl : k = n := by omega
      have HR : Hid (plensR ps = lensOf ps) := by
        by_cases h : 1 ≤ k
        · simp [Hid, plensR, hval.out h]
        · have hk0 : k = 0 := by omega
          have : ps = [] := List.length_eq_zero_iff.1 (by rw [HN.out, hk0])
          subst this
          unfold Hid plensR
          split <;> rfl
      go_wp2
      go_returns
      refine ⟨_, rfl, ?_, hbel⟩
      rw [HR.out]
      have e : (lensOf ps).length = k := by rw [← HN.out]; simp [lensOf]
      rw [List.take_of_length_le (by omega)] at hown
      rw [e]
      exact hown

end Go.Proofs.Ytcacedcbboidoaa
