/- Joined texts: Ms, Mx, Aw. -/
import Derived.Test.YtedadhoneebfnaaJ6
import Derived.Test.YtedadhoneebfnaaJ5
import Derived.Test.YtedadhoneebfnaaJ1
import Derived.Maps.AppendAt
import Derived.Deep.AppendLies
import Derived.RegionTactic
import Derived.OwnWalk
set_option linter.unusedSimpArgs false
set_option linter.unusedVariables false
/- Contracts of the reference's helpers for moving calls: l1Has, l4Line, l4Used, l4First. -/
namespace Go.Proofs.Ytedadhoneebfnaa
open Go.RowKit

theorem push_iff {O E M : Int} {cs : List Cl} {x y v : Int} (h : CallsOk O E M cs) (hx : 0 ≤ x ∧ x < O * E) (hy : 0 ≤ y ∧ y < O * E) (hv : 0 ≤ v ∧ v < M) (hf : freeB cs x y) :
  callsB O E M (cs ++ [(x, y, v)]) = (!usedB E cs false (x / E) v && !usedB E cs true (y / E) v) := by
 rw [Bool.eq_iff_iff, callsB_iff]
 simp only [Bool.and_eq_true, Bool.not_eq_eq_eq_not, Bool.not_true]
 constructor
 ·
  intro hp
  have key : ∀ s : Bool, usedB E cs s (if s then y / E else x / E) v = false := by
   intro s
   rw [Bool.eq_false_iff]
   intro hu
   obtain ⟨c, hc, h1, h2⟩ := usedB_iff.1 hu
   obtain ⟨j, hj⟩ := List.mem_iff_getElem?.1 hc
   have hl := (List.getElem?_eq_some_iff.1 hj).1
   have ha := hp.apart j cs.length c (x, y, v) hl (by rw [List.getElem?_append_left hl]; exact hj) (by simp)
   exact ha.2.2 s (by rw [h1]; cases s <;> rfl) h2
  exact ⟨key false, key true⟩
 ·
  rintro ⟨h1, h2⟩
  refine h.push hx hy hv hf (fun c hc e1 e2 => ?_) (fun c hc e1 e2 => ?_)
  ·
   have := usedB_iff.2 ⟨c, hc, e1, e2⟩; rw [h1] at this; cases this
  ·
   have := usedB_iff.2 ⟨c, hc, e1, e2⟩; rw [h2] at this; cases this
theorem free_calls {O E M : Int} {cs : List Cl} (h : callsB O E M cs = true) : CallsOk O E M cs := (callsB_iff _ _ _ _).1 h

/-- Not among the first k. -/
def nonTo (zs : List Int) (z : Int) (k : Nat) : Prop := ∀ j u, j < k → zs[j]? = some u → u ≠ z
set_option maxHeartbeats 1000000 in
theorem l1Has_any (v : Value) (zs : List Int) (z : Int) (w : World) (hv : Rds w v zs.length 1 (ivs zs)) :
  Calls Try.prog 118 #[v, .int .i64 z] w fun e w' => e = .returned (.bool (decide (z ∈ zs))) ∧ w = w' := by
 obtain ⟨a, ca, rfl, hl1, hm1, hn1, hc1⟩ := hv.open1
 unfold maxLen at hm1
 obtain ⟨n, hn⟩ : ∃ n, zs.length = n := ⟨_, rfl⟩
 rw [hn] at hm1 hn1 hc1 ⊢
 have HN := Lib.hid hn
 clear hn hl1 hv
 go_enter Try.func118, Try.ntmps118
 go_wp2_with fail
 go_loop [5] (fun i => ∃ k : Nat, k ≤ n ∧ i = .int .i64 k ∧ Hid (nonTo zs z k)) (fun i => n - (intOf i).toNat)
 case atStart => exact ⟨0, by omega, rfl, fun j u h => absurd h (by omega)⟩
 case round =>
  obtain ⟨k, hk, rfl, hno⟩ := hrel
  by_cases hkn : k < n
  ·
   rcases hc1 with hc1 | ⟨b, off, rfl, hb, hc1⟩
   ·
    omega
   obtain ⟨u, hu⟩ : ∃ u, zs[k]? = some u := ⟨_, List.getElem?_eq_getElem (by rw [HN.out]; omega)⟩
   have c1 := hc1 k hkn
   rw [ivs_at zs k u hu] at c1
   have HU := Lib.hid hu
   clear hc1 hu
   by_cases h1 : u = z
   ·
    have hq : ((u : Int) == z) = true := by simpa using h1
    have HF : Hid (decide (z ∈ zs) = true) := by
     have := List.mem_of_getElem? HU.out
     rw [h1] at this
     exact decide_eq_true this
    clear h1
    go_wp2
    go_returns
    exact ⟨by rw [HF.out]; rfl, rfl⟩
   ·
    have hq : ((u : Int) == z) = false := by simpa using h1
    have HST : Hid (nonTo zs z (k + 1)) := by
     intro j t hj ht
     by_cases e : j = k
     ·
      subst e; rw [HU.out] at ht; cases ht; exact h1
     ·
      exact hno.out j t (by omega) ht
    clear h1
    go_wp2_with fail
    go_round
    case rel => exact ⟨k + 1, by omega, by go_num, HST.out⟩
    case measure => simp [intOf]; omega
  ·
   obtain rfl : k = n := by omega
   have HF : Hid (decide (z ∈ zs) = false) := by
    refine decide_eq_false fun h => ?_
    obtain ⟨j, hj⟩ := List.mem_iff_getElem?.1 h
    exact hno.out j z (by have := (List.getElem?_eq_some_iff.1 hj).1; rw [HN.out] at this; exact this) hj rfl
   go_wp2
   go_returns
   exact ⟨by rw [HF.out]; rfl, rfl⟩

set_option maxHeartbeats 1000000 in
theorem l4Line_any (v : Value) (cs : List Cl) (x y : Int) (w : World) (hv : Rds w v cs.length 3 (ccells cs)) (hf : freeB cs x y) :
  Calls Try.prog 114 #[v, .int .i64 x, .int .i64 y] w fun e w' => e = .returned (.bool false) ∧ w = w' := by
 obtain ⟨hl1, hm1, a, ca, rfl, hn1, hc1⟩ := hv
 unfold maxLen at hm1
 have HF := Lib.hid hf
 obtain ⟨n, hn⟩ : ∃ n, cs.length = n := ⟨_, rfl⟩
 rw [hn] at hm1 hn1 hc1 ⊢
 have HN := Lib.hid hn
 clear hn hl1 hf
 go_enter Try.func114, Try.ntmps114
 go_wp2_with fail
 go_loop [7] (fun i => ∃ k : Nat, k ≤ n ∧ i = .int .i64 k) (fun i => n - (intOf i).toNat)
 case atStart => exact ⟨0, by omega, rfl⟩
 case round =>
  obtain ⟨k, hk, rfl⟩ := hrel
  by_cases hkn : k < n
  ·
   rcases hc1 with hc1 | ⟨b, off, rfl, hb, hc1⟩
   ·
    omega
   obtain ⟨c, hc⟩ : ∃ c, cs[k]? = some c := ⟨_, List.getElem?_eq_getElem (by rw [HN.out]; omega)⟩
   obtain ⟨k1, k2, k3⟩ := cl_get hc1 hc hkn
   have hfr := HF.out c (List.mem_of_getElem? hc)
   obtain ⟨u, v, t⟩ := c
   simp only at k1 k2 k3 hfr
   have hq1 : ((u : Int) == x) = false := by simpa using hfr.1
   have hq2 : ((v : Int) == y) = false := by simpa using hfr.2
   clear hc hc1 hfr
   go_wp2_with fail
   go_round
   case rel => exact ⟨k + 1, by omega, by go_num⟩
   case measure => simp [intOf]; omega
  ·
   obtain rfl : k = n := by omega
   go_wp2
   go_returns
   exact ⟨rfl, rfl⟩

/-- What the calls at an outer switch use. -/
def useTo (E : Int) (cs : List Cl) (s : Bool) (o : Int) (k : Nat) : List Int := ((cs.take k).filter fun c => decide (swC E s c = o)).map (·.2.2)
theorem useTo_zero (E : Int) (cs : List Cl) (s : Bool) (o : Int) : useTo E cs s o 0 = [] := by simp [useTo]
theorem useTo_yes {E : Int} {cs : List Cl} {s : Bool} {o : Int} {k : Nat} {c : Cl} (hc : cs[k]? = some c) (h : swC E s c = o) : useTo E cs s o (k + 1) = useTo E cs s o k ++ [c.2.2] := by
 obtain ⟨hk, rfl⟩ := List.getElem?_eq_some_iff.1 hc
 unfold useTo
 rw [List.take_succ_eq_append_getElem hk, List.filter_append]
 simp [h]
theorem useTo_no {E : Int} {cs : List Cl} {s : Bool} {o : Int} {k : Nat} {c : Cl} (hc : cs[k]? = some c) (h : ¬ swC E s c = o) : useTo E cs s o (k + 1) = useTo E cs s o k := by
 obtain ⟨hk, rfl⟩ := List.getElem?_eq_some_iff.1 hc
 unfold useTo
 rw [List.take_succ_eq_append_getElem hk, List.filter_append]
 simp [h]
theorem useTo_len (E : Int) (cs : List Cl) (s : Bool) (o : Int) (k : Nat) : (useTo E cs s o k).length ≤ k := by
 unfold useTo
 rw [List.length_map]
 exact Nat.le_trans (List.length_filter_le _ _) (by rw [List.length_take]; omega)
theorem useTo_mem {E : Int} {cs : List Cl} {s : Bool} {o m : Int} : m ∈ useTo E cs s o cs.length ↔ usedB E cs s o m = true := by
 unfold useTo
 rw [usedB_iff, List.take_of_length_le (Nat.le_refl _)]
 simp only [List.mem_map, List.mem_filter, decide_eq_true_eq]
 constructor
 ·
  rintro ⟨c, ⟨h1, h2⟩, h3⟩; exact ⟨c, h1, h2, h3⟩
 ·
  rintro ⟨c, h1, h2, h3⟩; exact ⟨c, ⟨h1, h2⟩, h3⟩

set_option maxRecDepth 100000 in
set_option maxHeartbeats 4000000 in
theorem l4Used0_any (O E M : Int) (v : Value) (cs : List Cl) (o : Int) (w : World) (hok : CallsOk O E M cs) (hv : Rds w v cs.length 3 (ccells cs)) (hlen : cs.length ≤ 1000) :
  Calls Try.prog 117 #[.agg #[.int .i64 O, .int .i64 E, .int .i64 M], v, .int .i64 o, .int .i64 0] w (IvOut (useTo E cs false o cs.length) w) := by
 obtain ⟨i0, hi, hz0, hz1, hz2⟩ := info_parts infoI8
 obtain ⟨hl1, hm1, a, ca, rfl, hn1, hc1⟩ := hv
 unfold maxLen at hm1
 have he := hok.sh.e
 have HOK := Lib.hid hok
 have hOE := lines_le hok.sh
 have hB := (Blk.new (w := w) (cs := #[.int .i64 O, .int .i64 E, .int .i64 M]) (T := 30) rfl).alloc (.cells #[] 3)
 have hbel0 : Below w.heap.size w ((w.alloc (.cells #[.int .i64 O, .int .i64 E, .int .i64 M] 30)).alloc (.cells #[] 3)) := by (exact grownA)
 unfold IvOut
 obtain ⟨n, hn⟩ : ∃ n, cs.length = n := ⟨_, rfl⟩
 rw [hn] at hm1 hn1 hc1 hlen ⊢
 have HN := Lib.hid hn
 clear hn hl1 hok
 go_enter Try.func117, Try.ntmps117
 go_wp2_with fail
 go_loopw [9, 10] (fun v i wr => ∃ k : Nat, k ≤ n ∧ i = .int .i64 k ∧ wr.ownsRow (w.heap.size + 1) 3 1 v (useTo E cs false o k).length (ivs (useTo E cs false o k)) ∧ Below w.heap.size w wr ∧ Blk wr w.heap.size #[.int .i64 O, .int .i64 E, .int .i64 M] 30) (fun _ i _ => n - (intOf i).toNat)
 case atStart => exact ⟨0, by omega, rfl, (by rw [useTo_zero]; have := World.ownsRow_lit (base := w.heap.size + 1) (e := 3) (size := 1) (w.alloc (.cells #[.int .i64 O, .int .i64 E, .int .i64 M] 30)) #[] 0 (by simp) (by unfold maxLen; omega) rfl; simpa [ivs] using this), hbel0, hB⟩
 case round =>
  obtain ⟨k, hk, rfl, hown, hbel, hBr⟩ := hrel
  have hz := hbel.size
  by_cases hkn : k < n
  ·
   rcases hc1 with hc1 | ⟨b, off, rfl, hb, hc1⟩
   ·
    omega
   obtain ⟨c, hc⟩ : ∃ c, cs[k]? = some c := ⟨_, List.getElem?_eq_getElem (by rw [HN.out]; omega)⟩
   obtain ⟨k1, k2, k3⟩ := cl_get (cl_below hbel hb hc1) hc hkn
   have HC := Lib.hid hc
   have hat := HOK.out.at' k c hc
   obtain ⟨s1, s2, s3, _, _, _, slt⟩ := hBr.three
   obtain ⟨x, y, v⟩ := c
   simp only at k1 k2 k3 hat
   have hlen2 := useTo_len E cs false o k
   have hE0 : (E == 0) = false := by simp; omega
   have hE1 : ¬ E = 0 := by omega
   have hw1 : IntKind.i64.wrap (x / E) = x / E := wrap_quo (by omega) (L := O * E) (by omega) hOE (by omega)
   have hw2 : Int.tdiv x E = x / E := Int.tdiv_eq_ediv_of_nonneg (by omega)
   obtain ⟨dz, hdz⟩ : ∃ d, x / E = d := ⟨_, rfl⟩
   rw [hdz] at hw1 hw2
   have HDZ := Lib.hid hdz
   have i1 : (0 : Int) ≤ (k : Int) := by omega
   have i2 : (k : Int) < (n : Int) := by omega
   clear hc hc1 hat hdz
   by_cases hq : dz = o
   ·
    have hqb : ((dz : Int) == o) = true := by simpa using hq
    have hqd : decide (dz = o) = true := by simpa using hq
    have HST := Lib.hid (useTo_yes (E := E) (s := false) (o := o) HC.out (by simp [swC, HDZ.out, hq]))
    clear hq
    go_wp2_with fail
    go_quiet (fail)
    go_wp2_with (at_builtin; refine wpList_append_own _ rfl _ _ 54 rfl (w.heap.size + 1) 3 i0 _ 1 8 Try.underlying54 hi hz0 hz1 hz2 rfl (by decide) _ _ _ rfl (World.ownsRow.alloc (w := wr.drewN _) hown _) ⟨wr.heap.size, 0, none⟩ 1 1 [.int .i64 v] rfl rfl (new1 _ _ _ _ (by first | rfl | simp)) (one1 _) (by unfold maxLen; omega) (by omega) (by simp; omega) ?_; intro v' w5 hown' hgrow _)
    have hge := own_ge hown
    have hbel5 : Below w.heap.size w w5 := Below.grown (by (exact grownA)) hgrow (by simp; omega) (fun k hk => by have := hge k hk; omega)
    have hB5 : Blk w5 w.heap.size #[.int .i64 O, .int .i64 E, .int .i64 M] 30 := Blk.gbr hgrow (fun e => by have := hge _ e.symm; omega) ((hBr.drewN _).alloc _)
    clear hgrow k1 k2 k3 s1 s2 s3 slt hge
    go_roundw
    case rel => exact ⟨k + 1, by omega, by go_num, by rw [HST.out, List.length_append, ← ivs_snoc]; exact hown', hbel5, hB5⟩
    case measure => simp [intOf]; omega
   ·
    have hqb : ((dz : Int) == o) = false := by simpa using hq
    have hqd : decide (dz = o) = false := by simpa using hq
    have HST := Lib.hid (useTo_no (E := E) (s := false) (o := o) HC.out (by simp [swC, HDZ.out, hq]))
    clear hq
    go_wp2_with fail
    go_quiet (fail)
    go_wp2_with fail
    go_roundw
    case rel => exact ⟨k + 1, by omega, by go_num, by rw [HST.out]; exact hown, below_drewN hbel _, hBr⟩
    case measure => simp [intOf]; omega
  ·
   obtain rfl : k = n := by omega
   go_wp2
   go_returns
   exact ⟨_, rfl, owns_base (by omega) hown, hbel⟩
set_option maxRecDepth 100000 in
set_option maxHeartbeats 4000000 in
theorem l4Used1_any (O E M : Int) (v : Value) (cs : List Cl) (o : Int) (w : World) (hok : CallsOk O E M cs) (hv : Rds w v cs.length 3 (ccells cs)) (hlen : cs.length ≤ 1000) :
  Calls Try.prog 117 #[.agg #[.int .i64 O, .int .i64 E, .int .i64 M], v, .int .i64 o, .int .i64 1] w (IvOut (useTo E cs true o cs.length) w) := by
 obtain ⟨i0, hi, hz0, hz1, hz2⟩ := info_parts infoI8
 obtain ⟨hl1, hm1, a, ca, rfl, hn1, hc1⟩ := hv
 unfold maxLen at hm1
 have he := hok.sh.e
 have HOK := Lib.hid hok
 have hOE := lines_le hok.sh
 have hB := (Blk.new (w := w) (cs := #[.int .i64 O, .int .i64 E, .int .i64 M]) (T := 30) rfl).alloc (.cells #[] 3)
 have hbel0 : Below w.heap.size w ((w.alloc (.cells #[.int .i64 O, .int .i64 E, .int .i64 M] 30)).alloc (.cells #[] 3)) := by (exact grownA)
 unfold IvOut
 obtain ⟨n, hn⟩ : ∃ n, cs.length = n := ⟨_, rfl⟩
 rw [hn] at hm1 hn1 hc1 hlen ⊢
 have HN := Lib.hid hn
 clear hn hl1 hok
 go_enter Try.func117, Try.ntmps117
 go_wp2_with fail
 go_loopw [9, 10] (fun v i wr => ∃ k : Nat, k ≤ n ∧ i = .int .i64 k ∧ wr.ownsRow (w.heap.size + 1) 3 1 v (useTo E cs true o k).length (ivs (useTo E cs true o k)) ∧ Below w.heap.size w wr ∧ Blk wr w.heap.size #[.int .i64 O, .int .i64 E, .int .i64 M] 30) (fun _ i _ => n - (intOf i).toNat)
 case atStart => exact ⟨0, by omega, rfl, (by rw [useTo_zero]; have := World.ownsRow_lit (base := w.heap.size + 1) (e := 3) (size := 1) (w.alloc (.cells #[.int .i64 O, .int .i64 E, .int .i64 M] 30)) #[] 0 (by simp) (by unfold maxLen; omega) rfl; simpa [ivs] using this), hbel0, hB⟩
 case round =>
  obtain ⟨k, hk, rfl, hown, hbel, hBr⟩ := hrel
  have hz := hbel.size
  by_cases hkn : k < n
  ·
   rcases hc1 with hc1 | ⟨b, off, rfl, hb, hc1⟩
   ·
    omega
   obtain ⟨c, hc⟩ : ∃ c, cs[k]? = some c := ⟨_, List.getElem?_eq_getElem (by rw [HN.out]; omega)⟩
   obtain ⟨k1, k2, k3⟩ := cl_get (cl_below hbel hb hc1) hc hkn
   have HC := Lib.hid hc
   have hat := HOK.out.at' k c hc
   obtain ⟨s1, s2, s3, _, _, _, slt⟩ := hBr.three
   obtain ⟨x, y, v⟩ := c
   simp only at k1 k2 k3 hat
   have hlen2 := useTo_len E cs true o k
   have hE0 : (E == 0) = false := by simp; omega
   have hE1 : ¬ E = 0 := by omega
   have hw1 : IntKind.i64.wrap (y / E) = y / E := wrap_quo (by omega) (L := O * E) (by omega) hOE (by omega)
   have hw2 : Int.tdiv y E = y / E := Int.tdiv_eq_ediv_of_nonneg (by omega)
   obtain ⟨dz, hdz⟩ : ∃ d, y / E = d := ⟨_, rfl⟩
   rw [hdz] at hw1 hw2
   have HDZ := Lib.hid hdz
   have i1 : (0 : Int) ≤ (k : Int) := by omega
   have i2 : (k : Int) < (n : Int) := by omega
   clear hc hc1 hat hdz
   by_cases hq : dz = o
   ·
    have hqb : ((dz : Int) == o) = true := by simpa using hq
    have hqd : decide (dz = o) = true := by simpa using hq
    have HST := Lib.hid (useTo_yes (E := E) (s := true) (o := o) HC.out (by simp [swC, HDZ.out, hq]))
    clear hq
    go_wp2_with fail
    go_quiet (fail)
    go_wp2_with (at_builtin; refine wpList_append_own _ rfl _ _ 54 rfl (w.heap.size + 1) 3 i0 _ 1 8 Try.underlying54 hi hz0 hz1 hz2 rfl (by decide) _ _ _ rfl (World.ownsRow.alloc (w := wr.drewN _) hown _) ⟨wr.heap.size, 0, none⟩ 1 1 [.int .i64 v] rfl rfl (new1 _ _ _ _ (by first | rfl | simp)) (one1 _) (by unfold maxLen; omega) (by omega) (by simp; omega) ?_; intro v' w5 hown' hgrow _)
    have hge := own_ge hown
    have hbel5 : Below w.heap.size w w5 := Below.grown (by (exact grownA)) hgrow (by simp; omega) (fun k hk => by have := hge k hk; omega)
    have hB5 : Blk w5 w.heap.size #[.int .i64 O, .int .i64 E, .int .i64 M] 30 := Blk.gbr hgrow (fun e => by have := hge _ e.symm; omega) ((hBr.drewN _).alloc _)
    clear hgrow k1 k2 k3 s1 s2 s3 slt hge
    go_roundw
    case rel => exact ⟨k + 1, by omega, by go_num, by rw [HST.out, List.length_append, ← ivs_snoc]; exact hown', hbel5, hB5⟩
    case measure => simp [intOf]; omega
   ·
    have hqb : ((dz : Int) == o) = false := by simpa using hq
    have hqd : decide (dz = o) = false := by simpa using hq
    have HST := Lib.hid (useTo_no (E := E) (s := true) (o := o) HC.out (by simp [swC, HDZ.out, hq]))
    clear hq
    go_wp2_with fail
    go_quiet (fail)
    go_wp2_with fail
    go_roundw
    case rel => exact ⟨k + 1, by omega, by go_num, by rw [HST.out]; exact hown, below_drewN hbel _, hBr⟩
    case measure => simp [intOf]; omega
  ·
   obtain rfl : k = n := by omega
   go_wp2
   go_returns
   exact ⟨_, rfl, owns_base (by omega) hown, hbel⟩

set_option maxHeartbeats 1000000 in
theorem l4First_any (O E : Int) (m : Nat) (v : Value) (cs : List Cl) (s : Bool) (o : Int) (w : World) (hm : m ≤ 5) (hex : ∃ j : Nat, j < m ∧ usedB E cs s o j = false) (hv : Rds w v (useTo E cs s o cs.length).length 1 (ivs (useTo E cs s o cs.length))) :
  Calls Try.prog 116 #[.agg #[.int .i64 O, .int .i64 E, .int .i64 m], v] w fun e w' => e = .returned (.int .i64 (firstL E m cs s o)) ∧ Below w.heap.size w w' := by
 have hB := Blk.new (w := w) (cs := #[.int .i64 O, .int .i64 E, .int .i64 (m : Nat)]) (T := 30) rfl
 have hbel0 : Below w.heap.size w (w.alloc (.cells #[.int .i64 O, .int .i64 E, .int .i64 (m : Nat)] 30)) := by (exact grownA)
 have HV := Lib.hid (hv.below hbel0)
 have HEX := Lib.hid hex
 obtain ⟨a, ca, rfl, _⟩ := hv.open1
 obtain ⟨t1, t2, t3, _, _, _, tlt⟩ := hB.three
 clear hex hv
 go_enter Try.func116, Try.ntmps116
 go_wp2_with fail
 go_loop [5] (fun i => ∃ k : Nat, k ≤ m ∧ i = .int .i64 k ∧ Hid (∀ j : Nat, j < k → usedB E cs s o j = true)) (fun i => m - (intOf i).toNat)
 case atStart => exact ⟨0, by omega, rfl, fun j h => absurd h (by omega)⟩
 case round =>
  obtain ⟨k, hk, rfl, hall⟩ := hrel
  by_cases hkn : k < m
  ·
   obtain ⟨b, hb⟩ : ∃ b, usedB E cs s o (k : Nat) = b := ⟨_, rfl⟩
   have hd : decide ((k : Int) ∈ useTo E cs s o cs.length) = b := by
    rw [← hb, Bool.eq_iff_iff, decide_eq_true_iff]; exact useTo_mem
   have HB := Lib.hid hb
   have HD := Lib.hid hd
   clear hb hd
   go_wp2_with fail
   refine (l1Has_any _ _ _ _ HV.out).mono ?_
   rintro e w1 ⟨rfl, rfl⟩
   rw [HD.out]
   cases b
   ·
    have HF := Lib.hid (first_at (M := m) (by omega) hall.out HB.out)
    go_wp2
    go_returns
    exact ⟨by rw [HF.out]; rfl, hbel0⟩
   ·
    have HST : Hid (∀ j : Nat, j < k + 1 → usedB E cs s o j = true) := by
     intro j hj
     by_cases e : j = k
     ·
      subst e; exact HB.out
     ·
      exact hall.out j (by omega)
    go_wp2_with fail
    go_round
    case rel => exact ⟨k + 1, by omega, by go_num, HST.out⟩
    case measure => simp [intOf]; omega
  ·
   exfalso
   obtain ⟨j, h1, h2⟩ := HEX.out
   have := hall.out j (by omega)
   rw [h2] at this; cases this

end Go.Proofs.Ytedadhoneebfnaa

/- Moving calls, plain: what both walks of CallMove ask. No program in sight. -/
namespace Go.Proofs.Ytedadhoneebfnaa
open Go.RowKit

/-- What is known where no middle switch is free. -/
structure MvCx (O E M : Int) (cs : List Cl) (x y a b : Int) : Prop where
 ok : CallsOk O E M cs
 a0 : 0 ≤ a
 a1 : a < M
 b0 : 0 ≤ b
 b1 : b < M
 hI : ∀ j, j < cs.length → swL E cs false j = x / E → viaL cs j ≠ a
 hO : ∀ j, j < cs.length → swL E cs true j = y / E → viaL cs j ≠ b
theorem mv_cx {O E M : Int} {cs : List Cl} (h : CallsOk O E M cs) (hEM : E ≤ M) {x y : Int} (hx : 0 ≤ x ∧ x < O * E) (hy : 0 ≤ y ∧ y < O * E) (hf : freeB cs x y) : MvCx O E M cs x y (firstL E M cs false (x / E)) (firstL E M cs true (y / E)) := by
 obtain ⟨a0, a1, a2⟩ := firstL_some h hEM false hx.1 (fun c hc => by simpa using (hf c hc).1)
 obtain ⟨b0, b1, b2⟩ := firstL_some h hEM true hy.1 (fun c hc => by simpa using (hf c hc).2)
 refine ⟨h, a0, a1, b0, b1, fun j hj e e2 => ?_, fun j hj e e2 => ?_⟩
 ·
  obtain ⟨c, hc⟩ : ∃ c, cs[j]? = some c := ⟨_, List.getElem?_eq_getElem hj⟩
  rw [swL_at hc] at e; rw [viaL_at hc] at e2
  have := usedB_iff.2 ⟨c, List.mem_of_getElem? hc, e, e2⟩
  rw [a2] at this; cases this
 ·
  obtain ⟨c, hc⟩ : ∃ c, cs[j]? = some c := ⟨_, List.getElem?_eq_getElem hj⟩
  rw [swL_at hc] at e; rw [viaL_at hc] at e2
  have := usedB_iff.2 ⟨c, List.mem_of_getElem? hc, e, e2⟩
  rw [b2] at this; cases this
theorem first_ex {O E M : Int} {m : Nat} {cs : List Cl} (h : CallsOk O E M cs) (hm : M = m) (hEM : E ≤ M) (s : Bool) {x : Int} (hx : 0 ≤ x) (hf : ∀ c ∈ cs, (if s then c.2.1 else c.1) ≠ x) : ∃ j : Nat, j < m ∧ usedB E cs s (x / E) j = false := by
 obtain ⟨j, h0, h1, h2⟩ := some_left h hEM s hx hf
 refine ⟨j.toNat, by omega, ?_⟩
 rw [show ((j.toNat : Nat) : Int) = j by omega]; exact h2
theorem MvCx.at {O E M : Int} {cs : List Cl} {x y a b : Int} (h : MvCx O E M cs x y a b) {s : Bool} {outer want : Int} {ch : List Nat} (hc : ChAt E cs a b (x / E) y s outer want ch) : ∀ (k : Nat) (c : Cl), (flipL a b ch cs)[k]? = some c → (0 ≤ c.1 ∧ c.1 < O * E) ∧ (0 ≤ c.2.1 ∧ c.2.1 < O * E) ∧ 0 ≤ c.2.2 ∧ c.2.2 < M := by
 intro k e he
 obtain ⟨c, hk, rfl⟩ := flipL_of he
 have h3 := h.ok.at' k c hk
 refine ⟨h3.1, h3.2.1, ?_⟩
 show 0 ≤ flipK (viaL cs) a b ch k ∧ flipK (viaL cs) a b ch k < M
 unfold flipK
 have := h.a0; have := h.a1; have := h.b0; have := h.b1
 split
 ·
  rename_i hin
  rcases (hc.inv.col k hin).2 with e | e <;> rw [e] <;> omega
 ·
  rw [viaL_at hk]; exact h3.2.2
/-- The state at a search: where the chain stands, and what was found. -/
structure MvAt (O E M : Int) (cs : List Cl) (x y a b : Int) (s : Bool) (outer want : Int) (ch : List Nat) (r : Int) : Prop where
 cx : MvCx O E M cs x y a b
 at' : ChAt E cs a b (x / E) y s outer want ch
 nx : NextIs E cs s outer want ch r
theorem MvAt.start {O E M : Int} {cs : List Cl} {x y a b r : Int} (h : MvCx O E M cs x y a b) (hf : Found cs.length (seekP E cs true (y / E) a (-1)) r) : MvAt O E M cs x y a b true (y / E) a [] r :=
 ⟨h, ChAt.start h.hO, seek_next (a := a) (b := b) (ch := []) h.ok.uniq (by simp) (.inl ⟨rfl, rfl⟩) (by rw [flipL_nil]; exact hf)⟩
/-- What one step finds and leaves. -/
theorem MvAt.step {O E M : Int} {cs : List Cl} {x y a b outer want r : Int} {s : Bool} {ch : List Nat} (h : MvAt O E M cs x y a b s outer want ch r) (hr : 0 ≤ r) : ∃ (k : Nat) (c : Cl), r = k ∧ k < cs.length ∧ cs[k]? = some c ∧ (flipL a b ch cs)[k]? = some (c.1, c.2.1, want) ∧
  (flipL a b ch cs).set k (c.1, c.2.1, a + b - want) = flipL a b (ch ++ [k]) cs ∧ ChAt E cs a b (x / E) y (!s) (swC E (!s) c) (a + b - want) (ch ++ [k]) ∧ (ch ++ [k]).length ≤ cs.length ∧
  ∀ r', Found cs.length (seekP E (flipL a b (ch ++ [k]) cs) (!s) (swC E (!s) c) (a + b - want) k) r' → MvAt O E M cs x y a b (!s) (swC E (!s) c) (a + b - want) (ch ++ [k]) r' := by
 rcases h.nx with ⟨rfl, _⟩ | ⟨k, rfl, hn⟩
 ·
  omega
 ·
  obtain ⟨q1, q2, q3, q4⟩ := nextK_some hn
  obtain ⟨c, hc⟩ : ∃ c, cs[k]? = some c := ⟨_, List.getElem?_eq_getElem q1⟩
  obtain ⟨f1, f2⟩ := flip_step (a := a) (b := b) hn hc
  have hg := h.at'.go h.cx.ok.uniq h.cx.hI hn
  rw [swL_at hc] at hg
  refine ⟨k, c, rfl, q1, hc, f2, f1, hg, hg.len, fun r' hf => ⟨h.cx, hg, ?_⟩⟩
  have hl := LastOf.next (a := a) (b := b) hn
  rw [swL_at hc] at hl
  exact seek_next h.cx.ok.uniq hg.lt hl hf
/-- Nothing is found any more: the chain is whole. -/
theorem MvAt.stop {O E M : Int} {cs : List Cl} {x y a b outer want r : Int} {s : Bool} {ch : List Nat} (h : MvAt O E M cs x y a b s outer want ch r) (hr : r < 0) : chainL E a b cs y = ch := by
 rcases h.nx with ⟨_, hn⟩ | ⟨k, rfl, hn⟩
 ·
  exact h.at'.stop hn
 ·
  omega

end Go.Proofs.Ytedadhoneebfnaa

/- Append onto a row of the call's own, from whatever reads, nil or not. No program in sight. -/
namespace Go.Proofs.Ytedadhoneebfnaa
open Go.RowKit

section
variable {P : Program} (w : World)
theorem run_append_void (base : Nat) (t ty e : TypeId) (i : TypeInfo) (size : Nat) (ht : P.underlying t = some (.slice e)) (hi : P.info? e = some i)
  (v : Value) (n : Nat) (xs : List Value) (hown : w.ownsRow base e size v n xs) (c : Nat) : (Builtin.append_ #[t, t] ty #[v, .slice none 0 c]).run P w = .ok v w := by
 rcases hown.2 with ⟨rfl, rfl⟩ | ⟨g, cap, cur, rfl, _, _, hnc, _⟩
 ·
  simp [Builtin.append_, run_underlying ht, sizeOf, typeInfo, hi, Builtin.lenOf, Builtin.firstCells]
 ·
  simp [Builtin.append_, run_underlying ht, sizeOf, typeInfo, hi, Builtin.lenOf, Builtin.firstCells, hnc, storeCells]
theorem run_append_rds (base : Nat) (t ty e : TypeId) (i : TypeInfo) (z : Value) (size bytes : Nat) (ht : P.underlying t = some (.slice e)) (hi : P.info? e = some i) (hz : i.zero = some z)
  (hsize : i.size = size) (hby : i.bytes = bytes) (hzs : z.cells.size = size) (hsz : 0 < size)
  (v : Value) (n : Nat) (xs : List Value) (hown : w.ownsRow base e size v n xs)
  (u : Value) (m : Nat) (news : List Value) (hr : Rds w u m size news) (h1 : ∀ u ∈ news, u.oneCell' = true)
  (h63 : n + m ≤ maxLen) (hbytes : (n + m) * bytes ≤ 140737488355328) (hbase : base ≤ w.heap.size) :
  ∃ v' w', (Builtin.append_ #[t, t] ty #[v, u]).run P w = .ok v' w' ∧ w'.ownsRow base e size v' (n + m) (xs ++ news) ∧ w.grownBy w' v.ownBlock ∧
   (v'.ownBlock = v.ownBlock ∨ v'.ownBlock = some w.heap.size) := by
 obtain ⟨hl, hm, a, ca, rfl, hn, hc⟩ := hr
 rcases a with _ | ad
 ·
  have hm0 : m = 0 := by
   rcases hc with h | ⟨b, off, h, _⟩
   ·
    exact h
   ·
    cases h
  subst hm0
  have hnn : news = [] := List.eq_nil_of_length_eq_zero (by simpa using hl)
  subst hnn
  exact ⟨v, w, run_append_void w base t ty e i size ht hi v n xs hown ca, by simpa using hown, World.grownBy.refl w _, .inl rfl⟩
 ·
  have hcells : ∀ j u, news[j]? = some u → w.cell? (ad.add j) = some u := by
   intro j u hu
   have hj := (List.getElem?_eq_some_iff.1 hu).1
   rcases hc with h | ⟨b, off, h, hb, hc⟩
   ·
    subst h; simp at hl; subst hl; simp at hj
   ·
    cases h
    rw [Addr.add_spot, hc j (by omega)]; exact hu
  obtain ⟨v', w', hrun, h2, h3, _, h5⟩ := run_append_own_at (P := P) w base t ty e i z size bytes ht hi hz hsize hby hzs hsz v n xs hown ad m ca news hl hcells h1 h63 hbytes hbase
  exact ⟨v', w', hrun, h2, h3, h5⟩
theorem wp_append_rds {o : Oper} {a : Act} {K : Act → World → Prop} {Q : Exit → Act → World → Prop} (s x : Operand) (t : TypeId)
  (ho : o.op = .call { callee := .builtin .append, args := #[s, x], argTypes := #[t, t] })
  (base : Nat) (e : TypeId) (i : TypeInfo) (z : Value) (size bytes : Nat) (ht : P.underlying t = some (.slice e)) (hi : P.info? e = some i) (hz : i.zero = some z)
  (hsize : i.size = size) (hby : i.bytes = bytes) (hzs : z.cells.size = size) (hsz : 0 < size)
  (v : Value) (n : Nat) (xs : List Value) (hs : a.eval s = v) (hown : w.ownsRow base e size v n xs)
  (u : Value) (m : Nat) (news : List Value) (hx : a.eval x = u) (hr : Rds w u m size news) (h1 : ∀ u ∈ news, u.oneCell' = true)
  (h63 : n + m ≤ maxLen) (hbytes : (n + m) * bytes ≤ 140737488355328) (hbase : base ≤ w.heap.size)
  (h : ∀ v' w', w'.ownsRow base e size v' (n + m) (xs ++ news) → w.grownBy w' v.ownBlock → (v'.ownBlock = v.ownBlock ∨ v'.ownBlock = some w.heap.size) → K (a.put o.dst v') w') : o.wp P a w K Q := by
 obtain ⟨v', w', hrun, h2, h3, h4⟩ := run_append_rds (P := P) w base t o.type e i z size bytes ht hi hz hsize hby hzs hsz v n xs hown u m news hr h1 h63 hbytes hbase
 unfold Oper.wp execOp
 simp only [ho, resolve, invoke, builtin, Sem.run_bind, Sem.run_pure, Result.andThen_ok, List.map_toArray, List.map_cons, List.map_nil, hs, hx, hrun]
 exact h v' w' h2 h3 h4
theorem wpList_append_rds {ops : Array Oper} {rest : List Oper} {o : Oper} {a : Act} {Q : Exit → Act → World → Prop} (hgd : o.guard = none) (s x : Operand) (t : TypeId)
  (ho : o.op = .call { callee := .builtin .append, args := #[s, x], argTypes := #[t, t] })
  (base : Nat) (e : TypeId) (i : TypeInfo) (z : Value) (size bytes : Nat) (ht : P.underlying t = some (.slice e)) (hi : P.info? e = some i) (hz : i.zero = some z)
  (hsize : i.size = size) (hby : i.bytes = bytes) (hzs : z.cells.size = size) (hsz : 0 < size)
  (v : Value) (n : Nat) (xs : List Value) (hs : a.eval s = v) (hown : w.ownsRow base e size v n xs)
  (u : Value) (m : Nat) (news : List Value) (hx : a.eval x = u) (hr : Rds w u m size news) (h1 : ∀ u ∈ news, u.oneCell' = true)
  (h63 : n + m ≤ maxLen) (hbytes : (n + m) * bytes ≤ 140737488355328) (hbase : base ≤ w.heap.size)
  (h : ∀ v' w', w'.ownsRow base e size v' (n + m) (xs ++ news) → w.grownBy w' v.ownBlock → (v'.ownBlock = v.ownBlock ∨ v'.ownBlock = some w.heap.size) → wpList P ops Q rest (a.put o.dst v') w') : wpList P ops Q (o :: rest) a w :=
 wpList_plain hgd fun _ hK => wp_append_rds w s x t ho base e i z size bytes ht hi hz hsize hby hzs hsz v n xs hs hown u m news hx hr h1 h63 hbytes hbase fun v' w' h2 h3 h4 => hK _ _ (h v' w' h2 h3 h4)
theorem step_append_rds {ops : Array Oper} {o : Oper} {a : Act} {K : Act → World → Prop} {Q : Exit → Act → World → Prop} {E : Prop} (hw : Region.wanted o (yielded ops a.tmps) = true) (s x : Operand) (t : TypeId)
  (ho : o.op = .call { callee := .builtin .append, args := #[s, x], argTypes := #[t, t] })
  (base : Nat) (e : TypeId) (i : TypeInfo) (z : Value) (size bytes : Nat) (ht : P.underlying t = some (.slice e)) (hi : P.info? e = some i) (hz : i.zero = some z)
  (hsize : i.size = size) (hby : i.bytes = bytes) (hzs : z.cells.size = size) (hsz : 0 < size)
  (v : Value) (n : Nat) (xs : List Value) (hs : a.eval s = v) (hown : w.ownsRow base e size v n xs)
  (u : Value) (m : Nat) (news : List Value) (hx : a.eval x = u) (hr : Rds w u m size news) (h1 : ∀ u ∈ news, u.oneCell' = true)
  (h63 : n + m ≤ maxLen) (hbytes : (n + m) * bytes ≤ 140737488355328) (hbase : base ≤ w.heap.size)
  (h : ∀ v' w', w'.ownsRow base e size v' (n + m) (xs ++ news) → w.grownBy w' v.ownBlock → (v'.ownBlock = v.ownBlock ∨ v'.ownBlock = some w.heap.size) → K (a.put o.dst v') w') :
  if Region.wanted o (yielded ops a.tmps) = true then Oper.wp P o a w K Q else E := by
 rw [if_pos hw]
 exact wp_append_rds w s x t ho base e i z size bytes ht hi hz hsize hby hzs hsz v n xs hs hown u m news hx hr h1 h63 hbytes hbase h
theorem run_append_head (base : Nat) (t ty e : TypeId) (i : TypeInfo) (z : Value) (size bytes : Nat) (ht : P.underlying t = some (.slice e)) (hi : P.info? e = some i) (hz : i.zero = some z)
  (hsize : i.size = size) (hby : i.bytes = bytes) (hzs : z.cells.size = size) (hsz : 0 < size)
  (g0 n c0 : Nat) (xs : List Value) (hown : w.ownsRow base e size (.slice (some ⟨g0, 0, none⟩) n c0) n xs)
  (u : Value) (m : Nat) (news : List Value) (hr : Rds w u m size news) (h1 : ∀ u ∈ news, u.oneCell' = true)
  (h63 : n + m ≤ maxLen) (hbytes : (n + m) * bytes ≤ 140737488355328) (hbase : base ≤ w.heap.size) :
  ∃ g cap w', (Builtin.append_ #[t, t] ty #[.slice (some ⟨g0, 0, none⟩) n c0, u]).run P w = .ok (.slice (some ⟨g, 0, none⟩) (n + m) cap) w' ∧ w'.ownsRow base e size (.slice (some ⟨g, 0, none⟩) (n + m) cap) (n + m) (xs ++ news) ∧ w.grownBy w' (some g0) := by
 obtain ⟨hl, hm, a, ca, rfl, hn, hc⟩ := hr
 rcases a with _ | ad
 ·
  have hm0 : m = 0 := by
   rcases hc with h | ⟨b, off, h, _⟩
   ·
    exact h
   ·
    cases h
  subst hm0
  have hnn : news = [] := List.eq_nil_of_length_eq_zero (by simpa using hl)
  subst hnn
  exact ⟨g0, c0, w, run_append_void w base t ty e i size ht hi _ n xs hown ca, by simpa using hown, World.grownBy.refl w _⟩
 ·
  have hcells : ∀ j u, news[j]? = some u → w.cell? (ad.add j) = some u := by
   intro j u hu
   have hj := (List.getElem?_eq_some_iff.1 hu).1
   rcases hc with h | ⟨b, off, h, hb, hc⟩
   ·
    subst h; simp at hl; subst hl; simp at hj
   ·
    cases h
    rw [Addr.add_spot, hc j (by omega)]; exact hu
  obtain ⟨v', w', hrun, h2, h3, h4, h5⟩ := run_append_own_at (P := P) w base t ty e i z size bytes ht hi hz hsize hby hzs hsz _ n xs hown ad m ca news hl hcells h1 h63 hbytes hbase
  have hnn : v' ≠ .slice none 0 0 := fun e => by have := (h4.1 e).1; cases this
  rcases h2.2 with ⟨h6, _⟩ | ⟨g, cap, cur, rfl, hb, r⟩
  ·
   exact absurd h6 hnn
  ·
   exact ⟨g, cap, w', hrun, h2, h3⟩
theorem wpList_append_head {ops : Array Oper} {rest : List Oper} {o : Oper} {a : Act} {Q : Exit → Act → World → Prop} (hgd : o.guard = none) (s x : Operand) (t : TypeId)
  (ho : o.op = .call { callee := .builtin .append, args := #[s, x], argTypes := #[t, t] })
  (base : Nat) (e : TypeId) (i : TypeInfo) (z : Value) (size bytes : Nat) (ht : P.underlying t = some (.slice e)) (hi : P.info? e = some i) (hz : i.zero = some z)
  (hsize : i.size = size) (hby : i.bytes = bytes) (hzs : z.cells.size = size) (hsz : 0 < size)
  (g0 n c0 : Nat) (xs : List Value) (hs : a.eval s = .slice (some ⟨g0, 0, none⟩) n c0) (hown : w.ownsRow base e size (.slice (some ⟨g0, 0, none⟩) n c0) n xs)
  (u : Value) (m : Nat) (news : List Value) (hx : a.eval x = u) (hr : Rds w u m size news) (h1 : ∀ u ∈ news, u.oneCell' = true)
  (h63 : n + m ≤ maxLen) (hbytes : (n + m) * bytes ≤ 140737488355328) (hbase : base ≤ w.heap.size)
  (h : ∀ g cap w', w'.ownsRow base e size (.slice (some ⟨g, 0, none⟩) (n + m) cap) (n + m) (xs ++ news) → w.grownBy w' (some g0) → wpList P ops Q rest (a.put o.dst (.slice (some ⟨g, 0, none⟩) (n + m) cap)) w') : wpList P ops Q (o :: rest) a w := by
 refine wpList_plain hgd fun K hK => ?_
 obtain ⟨g, cap, w', hrun, h2, h3⟩ := run_append_head (P := P) w base t o.type e i z size bytes ht hi hz hsize hby hzs hsz g0 n c0 xs hown u m news hr h1 h63 hbytes hbase
 unfold Oper.wp execOp
 simp only [ho, resolve, invoke, builtin, Sem.run_bind, Sem.run_pure, Result.andThen_ok, List.map_toArray, List.map_cons, List.map_nil, hs, hx, hrun]
 exact hK _ _ (h g cap w' h2 h3)
theorem step_append_head {ops : Array Oper} {o : Oper} {a : Act} {K : Act → World → Prop} {Q : Exit → Act → World → Prop} {E : Prop} (hw : Region.wanted o (yielded ops a.tmps) = true) (s x : Operand) (t : TypeId)
  (ho : o.op = .call { callee := .builtin .append, args := #[s, x], argTypes := #[t, t] })
  (base : Nat) (e : TypeId) (i : TypeInfo) (z : Value) (size bytes : Nat) (ht : P.underlying t = some (.slice e)) (hi : P.info? e = some i) (hz : i.zero = some z)
  (hsize : i.size = size) (hby : i.bytes = bytes) (hzs : z.cells.size = size) (hsz : 0 < size)
  (g0 n c0 : Nat) (xs : List Value) (hs : a.eval s = .slice (some ⟨g0, 0, none⟩) n c0) (hown : w.ownsRow base e size (.slice (some ⟨g0, 0, none⟩) n c0) n xs)
  (u : Value) (m : Nat) (news : List Value) (hx : a.eval x = u) (hr : Rds w u m size news) (h1 : ∀ u ∈ news, u.oneCell' = true)
  (h63 : n + m ≤ maxLen) (hbytes : (n + m) * bytes ≤ 140737488355328) (hbase : base ≤ w.heap.size)
  (h : ∀ g cap w', w'.ownsRow base e size (.slice (some ⟨g, 0, none⟩) (n + m) cap) (n + m) (xs ++ news) → w.grownBy w' (some g0) → K (a.put o.dst (.slice (some ⟨g, 0, none⟩) (n + m) cap)) w') :
  if Region.wanted o (yielded ops a.tmps) = true then Oper.wp P o a w K Q else E := by
 rw [if_pos hw]
 obtain ⟨g, cap, w', hrun, h2, h3⟩ := run_append_head (P := P) w base t o.type e i z size bytes ht hi hz hsize hby hzs hsz g0 n c0 xs hown u m news hr h1 h63 hbytes hbase
 unfold Oper.wp execOp
 simp only [ho, resolve, invoke, builtin, Sem.run_bind, Sem.run_pure, Result.andThen_ok, List.map_toArray, List.map_cons, List.map_nil, hs, hx, hrun]
 exact h g cap w' h2 h3
end
theorem ownB_lt {w w' : World} {v' v : Value} {B : Nat} (h : v'.ownBlock = v.ownBlock ∨ v'.ownBlock = some w.heap.size) (hv : ∀ k, v.ownBlock = some k → B ≤ k) (hw : B ≤ w.heap.size) : ∀ k, v'.ownBlock = some k → B ≤ k := by
 intro k hk
 rcases h with h | h
 ·
  exact hv k (by rw [← h]; exact hk)
 ·
  rw [h] at hk; cases hk; exact hw

end Go.Proofs.Ytedadhoneebfnaa
