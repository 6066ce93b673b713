/- The walk of the law of DialLeast. -/
import Derived.Test.YtcacedcbboidoaaDrOf
import Derived.Test.YtcacedcbboidoaaDs
import Derived.Test.YtcacedcbboidoaaAlive
set_option linter.unusedSimpArgs false
set_option linter.unusedVariables false
namespace Go.Proofs.Ytcacedcbboidoaa
open Go.RowKit

theorem sumL_isum (zs : List Int) : sumL zs = isum zs := by
  have h : ∀ (zs : List Int) (a : Int), zs.foldl (· + ·) a = a + isum zs := by
    intro zs
    induction zs with
    | nil => intro a; simp [isum]
    | cons z zs ih => intro a; simp only [List.foldl_cons, isum]; rw [ih]; omega
  have := h zs 0
  unfold sumL; omega
theorem set_parts {xs : List Int} {k : Nat} {z : Int} (h : xs[k]? = some z) (u : Int) : xs = xs.take k ++ z :: xs.drop (k + 1) ∧ xs.set k u = xs.take k ++ u :: xs.drop (k + 1) := by
  obtain ⟨hb, hy⟩ := List.getElem?_eq_some_iff.1 h
  refine ⟨?_, List.set_eq_take_append_cons_drop .. |>.trans (if_pos hb)⟩
  rw [← hy, ← List.drop_eq_getElem_cons hb, List.take_append_drop]
theorem oft_more {xs : List Int} {k : Nat} {z : Int} (h : oftB xs = true) (hz : xs[k]? = some z) (h99 : z + 1 ≤ 99) : oftB (xs.set k (z + 1)) = true := by
  obtain ⟨h1, h2, h3⟩ := oftB_mem h
  have hz0 := h3 z (List.mem_of_getElem? hz)
  have : ∀ y ∈ xs.set k (z + 1), ofB y = true := by
    intro y hy
    rw [ofB_iff]
    rcases List.mem_or_eq_of_mem_set hy with hy | rfl
    · exact h3 y hy
    · omega
  simp only [oftB, Bool.and_eq_true, decide_eq_true_eq, List.all_eq_true, List.length_set]
  refine ⟨?_, ?_⟩ <;> first | exact this | omega | exact ⟨by omega, by omega⟩
theorem least_more {xs : List Int} {k : Nat} {x y z : Int} (h : oftB xs = true) (hz : xs[k]? = some z) (h99 : z + 1 ≤ 99) (hx : LeastV xs x) (hy : LeastV (xs.set k (z + 1)) y) : x + 1 ≤ y := by
  have h2 := (hy.2 (oft_more h hz h99)).1
  have h1 := (hx.2 h).1
  obtain ⟨e1, e2⟩ := set_parts hz (z + 1)
  obtain ⟨a1, a2, a3⟩ := oftB_mem h
  rw [e2] at h2
  refine Huf.more (l1 := xs.take k) (z := z) (l2 := xs.drop (k + 1)) ?_ ?_ ?_ h2
  · rw [← e1]; exact fun w hw => (a3 w hw).1
  · rw [← e1]; exact a1
  · rw [← e1]; exact h1

set_option maxRecDepth 100000 in
set_option maxHeartbeats 2000000 in
theorem wDialLeast (a : Option Addr) (len cap : Nat) (cs : List Int) (w : World) (h0 : IsRow .u8 w a len cap cs) :
    Calls Try.prog 18 #[.slice a len cap] w fun e w' => e = .returned (.bool true) ∧ Below w.heap.size w w' := by
  obtain ⟨i0, hi, hz0, hz1, hz2⟩ := info_parts infoI
  have h := h0.code
  have hm := h.bd
  by_cases hbig : len > 1048576
  · go_enter Try.func18, Try.ntmps18
    go_wp2
    go_returns
    exact ⟨rfl, Below.refl _ _⟩
  · go_enter Try.func18, Try.ntmps18
    go_wp2_with fail
    refine (DrawDialLeast_any _ _ _ _ _ h).mono ?_
    rintro e w1 ⟨v, xs, rfl, hr1, hl1, hb1⟩
    have HV := Lib.hid hr1
    have hs1 := hb1.size
    clear hr1
    go_wp2_with fail
    refine (iDialLeast_any _ xs _ HV.out).mono ?_
    rintro e w2 ⟨x, rfl, hx, hb2⟩
    have HX := Lib.hid hx
    have HV2 := Lib.hid (HV.out.below hb2)
    have hs2 := hb2.size
    have hbel2 : Below w.heap.size w w2 := by (repeat' (first | (with_reducible exact Below.refl _ _) | (with_reducible assumption) | (with_reducible refine Below.drew ?_) | (with_reducible refine below_drewN ?_ _) | (with_reducible refine Below.alloc ?_ ?_ _) | (with_reducible refine Below.setCell ?_ ?_ _) | (refine Below.trans ?_ (Below.mono (by assumption) (by first | omega | (with_reducible exact Below.size (by assumption)) | (simp; done) | (simp; omega)))) | (with_reducible exact Nat.le_refl _) | omega | (with_reducible exact Below.size (by assumption)) | (simp only [World.size_alloc, World.size_setCell, World.size_drew]; omega) | (simp; done) | (simp; omega)))
    clear hx
    go_wp2_with fail
    refine (sDialLeast_any _ xs _ HV2.out).mono ?_
    rintro e w3 ⟨x', rfl, hx', hb3⟩
    obtain rfl : x' = x := hx'.unique HX.out
    have HV3 := Lib.hid (HV2.out.below hb3)
    have hbel3 : Below w.heap.size w w3 := by (repeat' (first | (with_reducible exact Below.refl _ _) | (with_reducible assumption) | (with_reducible refine Below.drew ?_) | (with_reducible refine below_drewN ?_ _) | (with_reducible refine Below.alloc ?_ ?_ _) | (with_reducible refine Below.setCell ?_ ?_ _) | (refine Below.trans ?_ (Below.mono (by assumption) (by first | omega | (with_reducible exact Below.size (by assumption)) | (simp; done) | (simp; omega)))) | (with_reducible exact Nat.le_refl _) | omega | (with_reducible exact Below.size (by assumption)) | (simp only [World.size_alloc, World.size_setCell, World.size_drew]; omega) | (simp; done) | (simp; omega)))
    have hs3 := hbel3.size
    have hne : (x' != x') = false := by simp
    clear hx' hb1 hb2 hb3 hbel2 hs1 hs2
    by_cases hx0 : x' < 0
    · have hx1 : x' = -1 := by
        cases ho : oftB xs with
        | false => exact HX.out.1 ho
        | true => have := (HX.out.2 ho).2.1; omega
      subst hx1
      go_wp2_with fail
      refine (alive_any _).mono ?_
      rintro e w4 ⟨rfl, hb4⟩
      have hbel4 : Below w.heap.size w w4 := by (repeat' (first | (with_reducible exact Below.refl _ _) | (with_reducible assumption) | (with_reducible refine Below.drew ?_) | (with_reducible refine below_drewN ?_ _) | (with_reducible refine Below.alloc ?_ ?_ _) | (with_reducible refine Below.setCell ?_ ?_ _) | (refine Below.trans ?_ (Below.mono (by assumption) (by first | omega | (with_reducible exact Below.size (by assumption)) | (simp; done) | (simp; omega)))) | (with_reducible exact Nat.le_refl _) | omega | (with_reducible exact Below.size (by assumption)) | (simp only [World.size_alloc, World.size_setCell, World.size_drew]; omega) | (simp; done) | (simp; omega)))
      go_wp2
      go_returns
      exact ⟨rfl, hbel4⟩
    · have ho : oftB xs = true := by
        cases ho : oftB xs with
        | true => rfl
        | false => have := HX.out.1 ho; omega
      have HO := Lib.hid ho
      have hdx : decide (x' < 0) = false := by simp; omega
      obtain ⟨hx9, hx10⟩ := (HX.out.2 ho).2
      obtain ⟨h2, h10, hxx⟩ := oftB_mem ho
      have HXX := Lib.hid hxx
      obtain ⟨n, hn⟩ : ∃ n, xs.length = n := ⟨_, rfl⟩
      have HN := Lib.hid hn
      obtain ⟨b, off, c0, rfl, hb0, hcells⟩ : ∃ b off c0, v = .slice (some ⟨b, off, none⟩) n c0 ∧ b < w3.heap.size ∧ ∀ j u, (ints xs)[j]? = some u → w3.cell? ⟨b, off + j, none⟩ = some u := by
        obtain ⟨hl1, _, a, cap, hvv, _, hc1⟩ := HV3.out
        rcases hc1 with h | ⟨b', off', rfl, hlt, h⟩
        · omega
        · refine ⟨b', off', cap, by rw [hvv, hn], hlt, fun j u hu => ?_⟩
          have hj := (List.getElem?_eq_some_iff.1 hu).1
          rw [hl1] at hj
          exact (h j hj).trans hu
      have HC := Lib.hid hcells
      rw [hn] at h2 h10
      clear hcells hxx ho hn
      go_wp2_with fail
      go_loopw [5] (fun i wr => ∃ k : Nat, k ≤ n ∧ i = .int .i64 k ∧ Below w3.heap.size w3 wr) (fun i _ => n - (intOf i).toNat)
      case atStart => exact ⟨0, by omega, rfl, Below.refl _ _⟩
      case round =>
        obtain ⟨k, hk, rfl, hbel⟩ := hrel
        have hz := hbel.size
        by_cases hkn : k < n
        · obtain ⟨z, hzk⟩ : ∃ z, xs[k]? = some z := ⟨_, List.getElem?_eq_getElem (by rw [HN.out]; exact hkn)⟩
          obtain ⟨z0, z1⟩ := oftB_at HO.out hzk
          have HZK := Lib.hid hzk
          clear hzk
          go_wp2_with (at_builtin; refine wpList_append_own _ rfl _ _ 23 rfl wr.heap.size 3 i0 _ 1 8 Try.underlying23 hi hz0 hz1 hz2 rfl (by decide) _ 0 [] rfl (World.ownsRow_lit _ #[] 0 (Nat.le_refl _) (by unfold maxLen; omega) rfl) ⟨b, off, none⟩ n _ (ints xs) rfl (by rw [ints_len, HN.out, Nat.mul_one]) (by intro j u hu; rw [Addr.add_spot]; exact keep_alloc ((hbel.cell (p := ⟨b, off + j, none⟩) hb0).trans (HC.out j u hu))) (ints_one xs) (by unfold maxLen; omega) (by omega) (by simp) ?_; intro v' w4 hown' hgrow _)
          simp only [Nat.zero_add, List.nil_append] at hown'
          have hB4 : Below wr.heap.size wr w4 := ((Below.refl wr.heap.size wr).alloc (Nat.le_refl _) _).grown hgrow (by simp) (by intro k hk; have e : wr.heap.size = k := Option.some.inj hk; omega)
          obtain ⟨g, c, rfl, hg, hO⟩ : ∃ g c, v' = .slice (some ⟨g, 0, none⟩) n c ∧ wr.heap.size ≤ g ∧ Own w4 g n c 3 1 (ints xs) := by
            rcases hown'.2 with ⟨_, h3⟩ | ⟨g, cap, cur, rfl, hb, r⟩
            · omega
            · exact ⟨g, cap, rfl, hb, (Own.of hown').1⟩
          have q1 : w4.cell? ⟨g, k, none⟩ = some (.int .i64 z) := by rw [hO.cell _ (by omega)]; exact ints_at _ _ _ HZK.out
          have q2 := hO.free k
          have hw1 : IntKind.i64.wrap (z + 1) = z + 1 := IntWalk.i64_in _ (by omega)
          have hw2 : IntKind.i64.wrap (x' + 1) = x' + 1 := IntWalk.i64_in _ (by omega)
          have hO5 : Own (w4.setCell ⟨g, k, none⟩ (.int .i64 (z + 1))) g n c 3 1 (ints (xs.set k (z + 1))) := hO.set (by simp [ints, List.map_set])
          have hbel5 : Below wr.heap.size wr (w4.setCell ⟨g, k, none⟩ (.int .i64 (z + 1))) := hB4.setCell hg _
          have HO5 := Lib.hid hO5
          have hlt5 := hO5.lt
          have hcaps := hO.caps
          unfold maxLen at hcaps
          have hki : (k : Int) < (n : Int) := by omega
          have hk0 : (0 : Int) ≤ (k : Int) := by omega
          have hix : ∀ w : World, (Instr.indexAt 23 (.slice (some ⟨g, 0, none⟩) n c) (.int .i64 (k : Int))).run Try.prog w = .ok (.pointer (some ⟨g, k, none⟩)) w := by
            intro w
            simp [go_sem, Try.underlying23, hi]
            intro hnk; exfalso; omega
          clear hgrow hown' hO hO5
          go_wp2_with fail
          simp only [hix, Result.andThen]
          go_wp2_with fail
          refine (iDialLeast_any _ (xs.set k (z + 1)) _ (by rw [List.length_set, HN.out]; exact Rds.ofOwn HO5.out)).mono ?_
          rintro e w6 ⟨y, rfl, hy, hb6⟩
          have hO6 := HO5.out.below hb6 hlt5
          have q3 : w6.cell? ⟨g, k, none⟩ = some (.int .i64 (z + 1)) := by
            rw [hO6.cell _ (by omega)]
            exact ints_at _ _ _ (by rw [List.getElem?_set_self (by rw [HN.out]; exact hkn)])
          have hbel6 : Below w3.heap.size w3 w6 := by (repeat' (first | (with_reducible exact Below.refl _ _) | (with_reducible assumption) | (with_reducible refine Below.drew ?_) | (with_reducible refine below_drewN ?_ _) | (with_reducible refine Below.alloc ?_ ?_ _) | (with_reducible refine Below.setCell ?_ ?_ _) | (refine Below.trans ?_ (Below.mono (by assumption) (by first | omega | (with_reducible exact Below.size (by assumption)) | (simp; done) | (simp; omega)))) | (with_reducible exact Nat.le_refl _) | omega | (with_reducible exact Below.size (by assumption)) | (simp only [World.size_alloc, World.size_setCell, World.size_drew]; omega) | (simp; done) | (simp; omega)))
          by_cases h99 : z + 1 ≤ 99
          · have hle := least_more HO.out HZK.out h99 HX.out hy
            have hd : decide (y < x' + 1) = false := by simp; omega
            have hd1 : decide (z + 1 ≤ 99) = true := by simp; omega
            clear hy hb6 hO6 hle q1 q2 hB4 hbel5
            go_wp2_with fail
            go_roundw
            case rel => exact ⟨k + 1, by omega, by go_num, hbel6⟩
            case measure => simp [intOf]; omega
          · have hd1 : decide (z + 1 ≤ 99) = false := by simp; omega
            clear hy hb6 hO6 q1 q2 hB4 hbel5
            go_wp2_with fail
            go_roundw
            case rel => exact ⟨k + 1, by omega, by go_num, hbel6⟩
            case measure => simp [intOf]; omega
        · obtain rfl : k = n := by omega
          have hbd : ∀ j, -1000000000000000000 ≤ sumL (xs.take j) ∧ sumL (xs.take j) ≤ 1000000000000000000 := by
            intro j
            rw [sumL_isum]
            have e1 := isum_nonneg (xs := xs.take j) (fun y hy => (HXX.out y (List.mem_of_mem_take hy)).1)
            have e2 := isum_bound (xs := xs.take j) (fun y hy => HXX.out y (List.mem_of_mem_take hy))
            have e3 : (xs.take j).length ≤ 10 := by rw [List.length_take, HN.out]; omega
            omega
          have HBD := Lib.hid hbd
          have hsum : isum xs ≤ x' := Huf.sum (fun y hy => (HXX.out y hy).1) (by rw [HN.out]; exact h2) (HX.out.2 HO.out).1
          have hfour : k ≤ 4 → x' = isum xs := fun h4 => Huf.four (fun y hy => (HXX.out y hy).1) (by rw [HN.out]; exact h2) (by rw [HN.out]; exact h4) (HX.out.2 HO.out).1
          have HR := Lib.hid (HV3.out.below hbel)
          have hbelE : Below w.heap.size w wr := by (repeat' (first | (with_reducible exact Below.refl _ _) | (with_reducible assumption) | (with_reducible refine Below.drew ?_) | (with_reducible refine below_drewN ?_ _) | (with_reducible refine Below.alloc ?_ ?_ _) | (with_reducible refine Below.setCell ?_ ?_ _) | (refine Below.trans ?_ (Below.mono (by assumption) (by first | omega | (with_reducible exact Below.size (by assumption)) | (simp; done) | (simp; omega)))) | (with_reducible exact Nat.le_refl _) | omega | (with_reducible exact Below.size (by assumption)) | (simp only [World.size_alloc, World.size_setCell, World.size_drew]; omega) | (simp; done) | (simp; omega)))
          obtain ⟨t, ht⟩ : ∃ t, sumL xs = t := ⟨_, rfl⟩
          have HT := Lib.hid ht
          rw [← sumL_isum, ht] at hsum hfour
          clear hbd ht
          go_wp2_with fail
          refine (sumOf_any _ xs _ HR.out HBD.out).mono ?_
          rintro e w7 ⟨rfl, rfl⟩
          rw [HT.out]
          by_cases h4 : 4 < k
          · have hd : decide ((4 : Int) < (k : Int)) = true := by simp; omega
            go_wp2
            go_returns
            exact ⟨by first | (simp; done) | (simp; omega), hbelE⟩
          · have hxt := hfour (by omega)
            subst hxt
            go_wp2_with fail
            refine (sumOf_any _ xs _ HR.out HBD.out).mono ?_
            rintro e w7 ⟨rfl, rfl⟩
            rw [HT.out]
            go_wp2
            go_returns
            exact ⟨by simp, hbelE⟩

end Go.Proofs.Ytcacedcbboidoaa
