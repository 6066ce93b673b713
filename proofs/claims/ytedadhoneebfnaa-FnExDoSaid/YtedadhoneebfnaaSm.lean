/- Contracts of the laws' comparisons: calls, deeds, exchanges. -/
import Derived.Test.YtedadhoneebfnaaJ10
import Derived.Test.YtedadhoneebfnaaJ4
import Derived.Test.YtedadhoneebfnaaPs
set_option linter.unusedSimpArgs false
set_option linter.unusedVariables false
namespace Go.Proofs.Ytedadhoneebfnaa
open Go.RowKit

set_option maxRecDepth 100000 in
set_option maxHeartbeats 1000000 in
theorem sameCalls_any (v u : Value) (zs ys : List Cl) (w : World) (hv : Rds w v zs.length 3 (ccells zs)) (hu : Rds w u ys.length 3 (ccells ys)) :
  Calls Try.prog 89 #[v, u] w fun e w' => e = .returned (.bool (decide (zs = ys))) ∧ Below w.heap.size w w' := by
 obtain ⟨hl1, hm1, a, ca, rfl, hn1, hc1⟩ := hv
 obtain ⟨hl2, hm2, b, cb, rfl, hn2, hc2⟩ := hu
 unfold maxLen at hm1 hm2
 by_cases hlen : zs.length = ys.length
 ·
  have hne : ((zs.length : Int) != (ys.length : Int)) = false := by simp; omega
  obtain ⟨m, hm⟩ : ∃ m, ys.length = m := ⟨_, rfl⟩
  rw [hm] at hne hm2 hn2 hc2 ⊢
  obtain ⟨n, hn⟩ : ∃ n, zs.length = n := ⟨_, rfl⟩
  rw [hn] at hne hm1 hn1 hc1 ⊢
  have hnm : n = m := by omega
  subst hnm
  have HM := Lib.hid hm
  have HN := Lib.hid hn
  clear hm hn hl1 hl2 hlen
  go_enter Try.func89, Try.ntmps89
  go_wp2_with fail
  go_loopw [5] (fun i wr => ∃ k q : Nat, k ≤ n ∧ i = .int .i64 k ∧ Hid (zs.take k = ys.take k) ∧ wr = w.drewN q) (fun i _ => n - (intOf i).toNat)
  case atStart => exact ⟨0, 0, by omega, rfl, rfl, rfl⟩
  case round =>
   obtain ⟨k, q, hk, rfl, hag, rfl⟩ := hrel
   by_cases hkn : k < n
   ·
    rcases hc1 with hc1 | ⟨b1, o1, rfl, hb1, hc1⟩
    ·
     omega
    rcases hc2 with hc2 | ⟨b2, o2, rfl, hb2, hc2⟩
    ·
     omega
    obtain ⟨z, hz⟩ : ∃ z, zs[k]? = some z := ⟨_, List.getElem?_eq_getElem (by rw [HN.out]; omega)⟩
    obtain ⟨y, hy⟩ : ∃ y, ys[k]? = some y := ⟨_, List.getElem?_eq_getElem (by rw [HM.out]; omega)⟩
    obtain ⟨g1, g2, g3⟩ := ccells_at zs k z hz
    obtain ⟨g4, g5, g6⟩ := ccells_at ys k y hy
    have c1 : w.cell? ⟨b1, o1 + k * 3, none⟩ = some (.int .i64 z.1) := by rw [hc1 _ (by omega), g1]
    have c2 : w.cell? ⟨b1, o1 + k * 3 + 1, none⟩ = some (.int .i64 z.2.1) := by rw [Nat.add_assoc, hc1 _ (by omega), g2]
    have c3 : w.cell? ⟨b1, o1 + k * 3 + 2, none⟩ = some (.int .i64 z.2.2) := by rw [Nat.add_assoc, hc1 _ (by omega), g3]
    have c4 : w.cell? ⟨b2, o2 + k * 3, none⟩ = some (.int .i64 y.1) := by rw [hc2 _ (by omega), g4]
    have c5 : w.cell? ⟨b2, o2 + k * 3 + 1, none⟩ = some (.int .i64 y.2.1) := by rw [Nat.add_assoc, hc2 _ (by omega), g5]
    have c6 : w.cell? ⟨b2, o2 + k * 3 + 2, none⟩ = some (.int .i64 y.2.2) := by rw [Nat.add_assoc, hc2 _ (by omega), g6]
    have HST := Lib.hid (agree_step hz hy hag.out)
    obtain ⟨z1, z2, z3⟩ := z
    obtain ⟨y1, y2, y3⟩ := y
    simp only at c1 c2 c3 c4 c5 c6
    clear hz hy hc1 hc2 g1 g2 g3 g4 g5 g6 hag
    go_wp2_with fail
    by_cases h1 : z1 = y1
    ·
     subst h1
     by_cases h2 : z2 = y2
     ·
      subst h2
      by_cases h3 : z3 = y3
      ·
       subst h3
       have HZ := Lib.hid (HST.out.2 rfl)
       clear HST
       go_quiet (fail)
       go_wp2
       go_roundw
       case rel => exact ⟨k + 1, _, by omega, by go_num, HZ.out, rfl⟩
       case measure => simp [intOf]; omega
      ·
       have HZ : Hid (zs ≠ ys) := fun h => h3 (by have := HST.out.1 (by rw [h]); simp only [Prod.mk.injEq, true_and] at this; exact this)
       have hsb : (z3 == y3) = false := by simpa using h3
       clear HST h3
       go_quiet (fail)
       go_wp2
       go_returns
       exact ⟨by simp [HZ.out], by (exact grownA)⟩
     ·
      have HZ : Hid (zs ≠ ys) := fun h => h2 (by have := HST.out.1 (by rw [h]); simp only [Prod.mk.injEq, true_and] at this; exact this.1)
      have hsb : (z2 == y2) = false := by simpa using h2
      clear HST h2
      go_quiet (fail)
      go_wp2
      go_returns
      exact ⟨by simp [HZ.out], by (exact grownA)⟩
    ·
     have HZ : Hid (zs ≠ ys) := fun h => h1 (by have := HST.out.1 (by rw [h]); simp only [Prod.mk.injEq, true_and] at this; exact this.1)
     have hsb : (z1 == y1) = false := by simpa using h1
     clear HST h1
     go_quiet (fail)
     go_wp2
     go_returns
     exact ⟨by simp [HZ.out], by (exact grownA)⟩
   ·
    obtain rfl : k = n := by omega
    go_wp2
    go_returns
    refine ⟨?_, by (exact grownA)⟩
    have h1 := hag.out
    rw [List.take_of_length_le (by rw [HN.out]; omega), List.take_of_length_le (by rw [HM.out]; omega)] at h1
    simp [h1]
 ·
  have hne : ((zs.length : Int) != (ys.length : Int)) = true := by simp; omega
  have hno : zs ≠ ys := fun h => hlen (by rw [h])
  have hdec : decide (zs = ys) = false := by simpa using hno
  rw [hdec]
  clear hdec hno hlen hc1 hc2 hl1 hl2
  go_enter Try.func89, Try.ntmps89
  go_wp2
  go_returns
  exact ⟨rfl, Below.refl _ _⟩

set_option maxRecDepth 100000 in
set_option maxHeartbeats 1000000 in
theorem sameExDeeds_any (v u : Value) (zs ys : List Ded) (w : World) (hv : Rds w v zs.length 3 (dcells zs)) (hu : Rds w u ys.length 3 (dcells ys)) :
  Calls Try.prog 55 #[v, u] w fun e w' => e = .returned (.bool (decide (zs = ys))) ∧ Below w.heap.size w w' := by
 obtain ⟨hl1, hm1, a, ca, rfl, hn1, hc1⟩ := hv
 obtain ⟨hl2, hm2, b, cb, rfl, hn2, hc2⟩ := hu
 unfold maxLen at hm1 hm2
 by_cases hlen : zs.length = ys.length
 ·
  have hne : ((zs.length : Int) != (ys.length : Int)) = false := by simp; omega
  obtain ⟨m, hm⟩ : ∃ m, ys.length = m := ⟨_, rfl⟩
  rw [hm] at hne hm2 hn2 hc2 ⊢
  obtain ⟨n, hn⟩ : ∃ n, zs.length = n := ⟨_, rfl⟩
  rw [hn] at hne hm1 hn1 hc1 ⊢
  have hnm : n = m := by omega
  subst hnm
  have HM := Lib.hid hm
  have HN := Lib.hid hn
  clear hm hn hl1 hl2 hlen
  go_enter Try.func55, Try.ntmps55
  go_wp2_with fail
  go_loopw [5] (fun i wr => ∃ k q : Nat, k ≤ n ∧ i = .int .i64 k ∧ Hid (zs.take k = ys.take k) ∧ wr = w.drewN q) (fun i _ => n - (intOf i).toNat)
  case atStart => exact ⟨0, 0, by omega, rfl, rfl, rfl⟩
  case round =>
   obtain ⟨k, q, hk, rfl, hag, rfl⟩ := hrel
   by_cases hkn : k < n
   ·
    rcases hc1 with hc1 | ⟨b1, o1, rfl, hb1, hc1⟩
    ·
     omega
    rcases hc2 with hc2 | ⟨b2, o2, rfl, hb2, hc2⟩
    ·
     omega
    obtain ⟨z, hz⟩ : ∃ z, zs[k]? = some z := ⟨_, List.getElem?_eq_getElem (by rw [HN.out]; omega)⟩
    obtain ⟨y, hy⟩ : ∃ y, ys[k]? = some y := ⟨_, List.getElem?_eq_getElem (by rw [HM.out]; omega)⟩
    obtain ⟨g1, g2, g3⟩ := dcells_at zs k z hz
    obtain ⟨g4, g5, g6⟩ := dcells_at ys k y hy
    have c1 : w.cell? ⟨b1, o1 + k * 3, none⟩ = some (.int .i64 z.1) := by rw [hc1 _ (by omega), g1]
    have c2 : w.cell? ⟨b1, o1 + k * 3 + 1, none⟩ = some (.int .i64 z.2.1) := by rw [Nat.add_assoc, hc1 _ (by omega), g2]
    have c3 : w.cell? ⟨b1, o1 + k * 3 + 2, none⟩ = some (.string z.2.2) := by rw [Nat.add_assoc, hc1 _ (by omega), g3]
    have c4 : w.cell? ⟨b2, o2 + k * 3, none⟩ = some (.int .i64 y.1) := by rw [hc2 _ (by omega), g4]
    have c5 : w.cell? ⟨b2, o2 + k * 3 + 1, none⟩ = some (.int .i64 y.2.1) := by rw [Nat.add_assoc, hc2 _ (by omega), g5]
    have c6 : w.cell? ⟨b2, o2 + k * 3 + 2, none⟩ = some (.string y.2.2) := by rw [Nat.add_assoc, hc2 _ (by omega), g6]
    have HST := Lib.hid (agree_step hz hy hag.out)
    obtain ⟨z1, z2, z3⟩ := z
    obtain ⟨y1, y2, y3⟩ := y
    simp only at c1 c2 c3 c4 c5 c6
    clear hz hy hc1 hc2 g1 g2 g3 g4 g5 g6 hag
    go_wp2_with fail
    by_cases h1 : z1 = y1
    ·
     subst h1
     by_cases h2 : z2 = y2
     ·
      subst h2
      by_cases h3 : z3 = y3
      ·
       subst h3
       have HZ := Lib.hid (HST.out.2 rfl)
       clear HST
       go_quiet (fail)
       go_wp2
       go_roundw
       case rel => exact ⟨k + 1, _, by omega, by go_num, HZ.out, rfl⟩
       case measure => simp [intOf]; omega
      ·
       have HZ : Hid (zs ≠ ys) := fun h => h3 (by have := HST.out.1 (by rw [h]); simp only [Prod.mk.injEq, true_and] at this; exact this)
       have hsb := str_ne h3
       clear HST h3
       go_quiet (fail)
       go_wp2
       go_returns
       exact ⟨by simp [HZ.out], by (exact grownA)⟩
     ·
      have HZ : Hid (zs ≠ ys) := fun h => h2 (by have := HST.out.1 (by rw [h]); simp only [Prod.mk.injEq, true_and] at this; exact this.1)
      have hsb : (z2 == y2) = false := by simpa using h2
      clear HST h2
      go_quiet (fail)
      go_wp2
      go_returns
      exact ⟨by simp [HZ.out], by (exact grownA)⟩
    ·
     have HZ : Hid (zs ≠ ys) := fun h => h1 (by have := HST.out.1 (by rw [h]); simp only [Prod.mk.injEq, true_and] at this; exact this.1)
     have hsb : (z1 == y1) = false := by simpa using h1
     clear HST h1
     go_quiet (fail)
     go_wp2
     go_returns
     exact ⟨by simp [HZ.out], by (exact grownA)⟩
   ·
    obtain rfl : k = n := by omega
    go_wp2
    go_returns
    refine ⟨?_, by (exact grownA)⟩
    have h1 := hag.out
    rw [List.take_of_length_le (by rw [HN.out]; omega), List.take_of_length_le (by rw [HM.out]; omega)] at h1
    simp [h1]
 ·
  have hne : ((zs.length : Int) != (ys.length : Int)) = true := by simp; omega
  have hno : zs ≠ ys := fun h => hlen (by rw [h])
  have hdec : decide (zs = ys) = false := by simpa using hno
  rw [hdec]
  clear hdec hno hlen hc1 hc2 hl1 hl2
  go_enter Try.func55, Try.ntmps55
  go_wp2
  go_returns
  exact ⟨rfl, Below.refl _ _⟩

set_option maxHeartbeats 400000 in
theorem hasInt_any (v : Value) (zs : List Int) (x : Int) (w : World) (hv : Rds w v zs.length 1 (ints zs)) (hno : ∀ z ∈ zs, z ≠ x) :
  Calls Try.prog 42 #[v, .int .i64 x] w fun e w' => e = .returned (.bool false) ∧ w = w' := by
 obtain ⟨a, ca, rfl, hl1, hm1, hn1, hc1⟩ := hv.open1
 clear hl1 hv
 obtain ⟨n, hn⟩ : ∃ n, zs.length = n := ⟨_, rfl⟩
 rw [hn] at hm1 hn1 hc1 ⊢
 have HN := Lib.hid hn
 have HNO := Lib.hid hno
 clear hn hno
 unfold maxLen at hm1
 go_enter Try.func42, Try.ntmps42
 go_wp2_with fail
 go_loop [5] (fun i => ∃ (j : Nat), j ≤ n ∧ i = .int .i64 j) (fun i => n - (intOf i).toNat)
 case atStart => exact ⟨0, by omega, rfl⟩
 case round =>
  obtain ⟨j, hj, rfl⟩ := hrel
  by_cases hjn : j < n
  ·
   rcases hc1 with hc1 | ⟨b1, o1, rfl, hb1, hc1⟩
   ·
    omega
   have g1 := hc1 j hjn
   obtain ⟨z, hz⟩ : ∃ z, zs[j]? = some z := ⟨_, List.getElem?_eq_getElem (by rw [HN.out]; omega)⟩
   rw [ints_at _ _ _ hz] at g1
   have hne : (z == x) = false := by simpa using HNO.out z (List.mem_of_getElem? hz)
   clear hc1 hz
   go_wp2_with fail
   go_round
   case rel => exact ⟨j + 1, by omega, by go_num⟩
   case measure => simp [intOf]; omega
  ·
   obtain rfl : j = n := by omega
   go_wp2
   go_returns
   exact ⟨rfl, rfl⟩

/-- Whether two exchanges are the same. -/
def sameB (O E M : Int) (ps : List ByteArray) (cs : List Cl) (O' E' M' : Int) (qs : List ByteArray) (ds : List Cl) : Bool := decide (O = O' ∧ E = E' ∧ M = M' ∧ ps = qs ∧ cs = ds)
theorem sameB_yes (O E M : Int) (ps : List ByteArray) (cs : List Cl) : sameB O E M ps cs O E M ps cs = true := by simp [sameB]

set_option maxHeartbeats 2000000 in
theorem sameExchange_any (O E M O' E' M' : Int) (vp vc up uc : Value) (ps qs : List ByteArray) (cs ds : List Cl) (w : World) (h1 : ExRd w vp vc ps cs) (h2 : ExRd w up uc qs ds) :
  Calls Try.prog 47 #[.agg #[.int .i64 O, .int .i64 E, .int .i64 M, vp, vc], .agg #[.int .i64 O', .int .i64 E', .int .i64 M', up, uc]] w
   fun e w' => e = .returned (.bool (sameB O E M ps cs O' E' M' qs ds)) ∧ Below w.heap.size w w' := by
 have hB1 := (Blk.new (w := w) (cs := #[.int .i64 O, .int .i64 E, .int .i64 M, vp, vc]) (T := 33) rfl).alloc (.cells #[.int .i64 O', .int .i64 E', .int .i64 M', up, uc] 33)
 have hB2 := Blk.new (w := w.alloc (.cells #[.int .i64 O, .int .i64 E, .int .i64 M, vp, vc] 33)) (cs := #[.int .i64 O', .int .i64 E', .int .i64 M', up, uc]) (T := 33) (b := w.heap.size + 1) (by simp)
 have hbel1 : Below w.heap.size w ((w.alloc (.cells #[.int .i64 O, .int .i64 E, .int .i64 M, vp, vc] 33)).alloc (.cells #[.int .i64 O', .int .i64 E', .int .i64 M', up, uc] 33)) := by (exact grownA)
 obtain ⟨a1, c1, rfl, _⟩ := h1.plan.open1
 obtain ⟨_, _, a2, c2, rfl, _⟩ := h1.calls
 obtain ⟨a3, c3, rfl, _⟩ := h2.plan.open1
 obtain ⟨_, _, a4, c4, rfl, _⟩ := h2.calls
 have H1 := Lib.hid (h1.below hbel1)
 have H2 := Lib.hid (h2.below hbel1)
 clear h1 h2
 by_cases hN : O = O' ∧ E = E' ∧ M = M'
 ·
  obtain ⟨rfl, rfl, rfl⟩ := hN
  obtain ⟨p0, p1, p2, p3, p4, _, _, _, _, _, plt⟩ := hB1.five
  obtain ⟨q0, q1, q2, q3, q4, _, _, _, _, _, qlt⟩ := hB2.five
  go_enter Try.func47, Try.ntmps47
  go_wp2_with fail
  refine (sameTexts_any _ _ ps qs _ H1.out.plan H2.out.plan).mono ?_
  rintro e w2 ⟨rfl, hb2⟩
  have hbel2 : Below w.heap.size w w2 := hbel1.trans (Below.mono hb2 hbel1.size)
  have hB5 := hB1.belowAll hb2
  have hB6 := hB2.belowAll hb2
  have H3 := Lib.hid (H1.out.below hb2)
  have H4 := Lib.hid (H2.out.below hb2)
  clear hb2 hB1 hB2 H1 H2 p0 p1 p2 p3 p4 plt q0 q1 q2 q3 q4 qlt hbel1
  by_cases hP : ps = qs
  ·
   subst hP
   rw [decide_eq_true (rfl : ps = ps)]
   obtain ⟨p0, p1, p2, p3, p4, _, _, _, _, _, plt⟩ := hB5.five
   obtain ⟨q0, q1, q2, q3, q4, _, _, _, _, _, qlt⟩ := hB6.five
   go_wp2_with fail
   refine (sameCalls_any _ _ cs ds _ H3.out.calls H4.out.calls).mono ?_
   rintro e w3 ⟨rfl, hb3⟩
   have hbel3 : Below w.heap.size w w3 := hbel2.trans (Below.mono hb3 hbel2.size)
   have HF : Hid (decide (cs = ds) = sameB O E M ps cs O E M ps ds) := by unfold Hid sameB; simp
   rw [HF.out]
   clear hb3 hB5 hB6 p0 p1 p2 p3 p4 plt q0 q1 q2 q3 q4 qlt
   go_wp2
   go_returns
   exact ⟨rfl, hbel3⟩
  ·
   rw [decide_eq_false hP]
   have HF : Hid (sameB O E M ps cs O E M qs ds = false) := by unfold Hid sameB; simp [hP]
   go_wp2
   go_returns
   exact ⟨by rw [HF.out]; rfl, hbel2⟩
 ·
  have HF : Hid (sameB O E M ps cs O' E' M' qs ds = false) := by
   unfold Hid sameB
   simp only [decide_eq_false_iff_not]
   exact fun h => hN ⟨h.1, h.2.1, h.2.2.1⟩
  have hN2 : ¬ O = O' ∨ (O = O' ∧ ¬ E = E') ∨ (O = O' ∧ E = E' ∧ ¬ M = M') := by omega
  clear hN
  obtain ⟨p0, p1, p2, p3, p4, -, -, -, -, -, plt⟩ := hB1.five
  obtain ⟨q0, q1, q2, q3, q4, -, -, -, -, -, qlt⟩ := hB2.five
  clear hB1 hB2 H1 H2
  rcases hN2 with hne | ⟨rfl, hne⟩ | ⟨rfl, rfl, hne⟩
  ·
   go_enter Try.func47, Try.ntmps47
   go_wp2
   go_returns
   exact ⟨by rw [HF.out]; rfl, hbel1⟩
  ·
   go_enter Try.func47, Try.ntmps47
   go_wp2
   go_returns
   exact ⟨by rw [HF.out]; rfl, hbel1⟩
  ·
   go_enter Try.func47, Try.ntmps47
   go_wp2
   go_returns
   exact ⟨by rw [HF.out]; rfl, hbel1⟩

set_option maxHeartbeats 400000 in
theorem noExchange_any (O E M : Int) (vp vc : Value) (ps : List ByteArray) (cs : List Cl) (w : World) (h1 : ExRd w vp vc ps cs) :
  Calls Try.prog 48 #[.agg #[.int .i64 O, .int .i64 E, .int .i64 M, vp, vc]] w
   fun e w' => e = .returned (.bool (sameB O E M ps cs 0 0 0 [] [])) ∧ Below w.heap.size w w' := by
 have hB := Blk.new (w := w) (cs := #[.int .i64 O, .int .i64 E, .int .i64 M, vp, vc]) (T := 33) rfl
 have hbel1 : Below w.heap.size w (w.alloc (.cells #[.int .i64 O, .int .i64 E, .int .i64 M, vp, vc] 33)) := by (exact grownA)
 obtain ⟨a1, c1, rfl, _⟩ := h1.plan.open1
 obtain ⟨_, _, a2, c2, rfl, _⟩ := h1.calls
 have H1 := Lib.hid (h1.below hbel1)
 clear h1
 obtain ⟨p0, p1, p2, p3, p4, _, _, _, _, _, plt⟩ := hB.five
 go_enter Try.func48, Try.ntmps48
 go_wp2_with fail
 refine (sameExchange_any O E M 0 0 0 _ _ _ _ ps [] cs [] _ H1.out (ExOwn.nothing _ 0).rd).mono ?_
 rintro e w2 ⟨rfl, hb2⟩
 have hbel2 : Below w.heap.size w w2 := hbel1.trans (Below.mono hb2 hbel1.size)
 clear p0 p1 p2 p3 p4 plt hb2 hB
 go_wp2
 go_returns
 exact ⟨rfl, hbel2⟩

end Go.Proofs.Ytedadhoneebfnaa
