/- The draw of tables: l20Table and the draws over it. -/
import Derived.Test.YtcacedcbboidoaaRv
import Derived.Test.YtcacedcbboidoaaDrDig
set_option linter.unusedSimpArgs false
set_option linter.unusedVariables false
namespace Go.Proofs.Ytcacedcbboidoaa
open Go.RowKit

theorem infoR : (Try.prog.info? 32).map (fun i => (i.zero, i.size, i.bytes)) = some (some (.agg #[.string ByteArray.empty, .int .i64 0]), 2, 24) := by kernel_rfl

theorem rcells_snoc (rs : List Rt) (r : Rt) : rcells rs ++ [.string r.1, .int .i64 r.2] = rcells (rs ++ [r]) := by simp [rcells, List.flatMap_append]
theorem rcells_one (rs : List Rt) : ∀ u ∈ rcells rs, u.oneCell' = true := by
  intro u hu
  simp only [rcells, List.mem_flatMap] at hu
  obtain ⟨r, _, hu⟩ := hu
  simp at hu
  rcases hu with rfl | rfl <;> rfl
/-- An owned row of at least one element begins at a block's head. -/
theorem own_some {w : World} {base n : Nat} {E : TypeId} {size : Nat} {v : Value} {xs : List Value} (h : w.ownsRow base E size v n xs) (hn : 0 < n) : ∃ g cap, v = .slice (some ⟨g, 0, none⟩) n cap ∧ base ≤ g ∧ Own w g n cap E size xs := by
  rcases h.2 with ⟨_, h2⟩ | ⟨g, cap, cur, rfl, hb, r⟩
  · omega
  · exact ⟨g, cap, rfl, hb, (Own.of h).1⟩
/-- Small routes. -/
def RtSmall (rs : List Rt) : Prop := ∀ r ∈ rs, r.1.size ≤ 8 ∧ -10 ≤ r.2 ∧ r.2 ≤ 10
theorem RtSmall.len {rs : List Rt} (h : RtSmall rs) : RtLen rs := fun k r hr => by have := (h r (List.mem_of_getElem? hr)).1; unfold maxLen; omega
theorem RtSmall.snoc {rs : List Rt} {r : Rt} (h : RtSmall rs) (h1 : r.1.size ≤ 8) (h2 : -10 ≤ r.2) (h3 : r.2 ≤ 10) : RtSmall (rs ++ [r]) := by
  intro s hs
  rcases List.mem_append.1 hs with hs | hs
  · exact h s hs
  · simp at hs; subst hs; exact ⟨h1, h2, h3⟩

/-- What l20Table leaves. -/
def TabPost (rb p : Nat) (w : World) (e : Ending) (w' : World) : Prop :=
  ∃ (g n cap : Nat) (rs : List Rt) (q : Nat), e = .returned (.slice (some ⟨g, 0, none⟩) n cap) ∧ n = rs.length ∧ w.heap.size ≤ g ∧ Own w' g n cap 32 2 (rcells rs) ∧ rs.length ≤ 10 ∧ RtSmall rs ∧ p ≤ q ∧ q ≤ p + 120 ∧ Rdr w' rb q ∧ w.grownBy w' (some rb)

set_option maxRecDepth 100000 in
set_option maxHeartbeats 2000000 in
theorem l20Table_any (rb p : Nat) (n : Int) (w : World) (h : Rdr w rb p) (hp : p ≤ 1000000) (hn : n ≤ 1000000000) :
    Calls Try.prog 81 #[.pointer (some ⟨rb, 0, none⟩), .int .i64 n] w (TabPost rb p w) := by
  obtain ⟨i0, hi, hz0, hz1, hz2⟩ := info_parts infoR
  have hlt := h.lt
  go_enter Try.func81, Try.ntmps81
  go_wp2_with fail
  refine (pick_any rb p _ _ h.alloc (by omega) (by omega)).mono ?_
  rintro e w1 ⟨x, rfl, hx0, hx1, hr1, hg1⟩
  have hx : x ≤ 8 := by omega
  have hg1' : w.grownBy w1 (some rb) := gb_trans (gb_alloc (World.grownBy.refl _ _)) hg1
  have hO1 : Own w1 w.heap.size 0 0 32 2 (rcells []) :=
    Own.gb hg1 (by omega) ((Own.of (World.ownsRow_lit (base := w.heap.size) (e := 32) (size := 2) w #[] 0 (Nat.le_refl _) (by unfold maxLen; omega) rfl)).1)
  clear hx1 hg1
  go_wp2_with fail
  go_loopw [5, 6] (fun v k wr => ∃ (g m cap j q : Nat) (rs : List Rt), v = .slice (some ⟨g, 0, none⟩) m cap ∧ k = .int .i64 j ∧ j ≤ 8 ∧ j + m ≤ 8 ∧ m = rs.length ∧ w.heap.size ≤ g ∧ Own wr g m cap 32 2 (rcells rs) ∧ Hid (RtSmall rs) ∧ q + 12 * j ≤ p + 1 + 12 * 8 ∧ p ≤ q ∧ Rdr wr rb q ∧ w.grownBy wr (some rb)) (fun _ k _ => (intOf k).toNat)
  case atStart => exact ⟨w.heap.size, 0, 0, x.toNat, p + 1, [], rfl, by go_num, by omega, by omega, rfl, Nat.le_refl _, hO1, fun r hr => absurd hr (by simp), by omega, by omega, hr1, hg1'⟩
  case round =>
    obtain ⟨g, m, cap, j, q, rs, rfl, rfl, hj, hjm, hm, hgw, hO, hsm, hq1, hq2, hr, hg⟩ := hrel
    obtain ⟨wo, rfl⟩ : ∃ wo : World, wo = wr := ⟨_, rfl⟩
    have HM := Lib.hid hm
    have hgz := hg.size
    have hOlt := hO.lt
    have hcaps := hO.caps
    clear hm
    by_cases hj0 : 0 < j
    · have hrlt := hr.lt
      go_wp2_with (at_builtin; refine wpList_append_own _ rfl _ _ 28 rfl wo.heap.size 32 i0 _ 2 24 Try.underlying28 hi hz0 hz1 hz2 rfl (by decide) _ 0 [] rfl (World.ownsRow_lit _ #[] 0 (Nat.le_refl _) (by unfold maxLen; omega) rfl) ⟨g, 0, none⟩ m _ (rcells rs) rfl (by rw [rcells_len, HM.out]) (by intro i u hu; rw [Addr.add_spot, Nat.zero_add]; have hi' : i < m * 2 := (by have := (List.getElem?_eq_some_iff.1 hu).1; rw [rcells_len] at this; have := HM.out; omega); rw [World.cell?_alloc_lt _ _ _ (by simp; omega), hO.cell i hi']; exact hu) (rcells_one rs) (by unfold maxLen; omega) (by omega) (by simp) ?_; intro v' w3 hown' hgrow hnil)
      simp only [Nat.zero_add, List.nil_append] at hown'
      have hnn : v' ≠ .slice none 0 0 := fun e => by have := (hnil.1 e).1; cases this
      obtain ⟨g1, cap1, rfl, hg1w, hO3⟩ : ∃ g1 cap1, v' = .slice (some ⟨g1, 0, none⟩) m cap1 ∧ wo.heap.size ≤ g1 ∧ Own w3 g1 m cap1 32 2 (rcells rs) := by
        rcases hown'.2 with ⟨h2, _⟩ | ⟨g1, cap1, cur, rfl, hb, r⟩
        · exact absurd h2 hnn
        · exact ⟨g1, cap1, rfl, hb, (Own.of hown').1⟩
      have hB3 : Below wo.heap.size wo w3 := ((Below.refl wo.heap.size wo).alloc (Nat.le_refl _) _).grown hgrow (by simp) (by intro k hk; have e : wo.heap.size = k := Option.some.inj hk; omega)
      have hr3 := hr.below hB3 hrlt
      have hg3 := gb_below hB3 hgz hg
      have hOg3 := hO.below hB3 hOlt
      have hz3 := hB3.size
      have hlt3 := hO3.lt
      clear hown' hgrow hnil hnn hB3 hO
      refine (l20Digits_any rb q _ _ hr3 (by omega) (by omega) (by omega)).mono ?_
      rintro e w4 ⟨s, q4, rfl, hs3, hsd, hq4, hq5, hr4, hgb4⟩
      have hO4 := Own.gb hgb4 (by omega) hO3
      have hOg4 := Own.gb hgb4 (by omega) hOg3
      have hg4 := gb_trans hg3 hgb4
      have hz4 := hgb4.size
      clear hgb4 hO3 hOg3 hsd
      go_wp2_with fail
      refine (pick_any rb q4 _ _ hr4 (by omega) (by omega)).mono ?_
      rintro e w5 ⟨y, rfl, hy0, hy1, hr5, hgb5⟩
      have hy : y ≤ 2 := by omega
      have hO5 := Own.gb hgb5 (by omega) hO4
      have hOg5 := Own.gb hgb5 (by omega) hOg4
      have hg5 := gb_trans hg4 hgb5
      have hz5 := hgb5.size
      clear hgb5 hO4 hOg4 hy1
      have hown5 := hO5.back (base := wo.heap.size) hg1w
      go_wp2_with (at_builtin; refine wpList_append_own _ rfl _ _ 28 rfl wo.heap.size 32 i0 _ 2 24 Try.underlying28 hi hz0 hz1 hz2 rfl (by decide) _ _ _ rfl (hown5.alloc _) ⟨w5.heap.size, 0, none⟩ 1 1 [.string s, .int .i64 y] rfl rfl (cell_two_new _ _ _ _) (by intro u hu; simp at hu; rcases hu with rfl | rfl <;> rfl) (by unfold maxLen; omega) (by omega) (by simp; omega) ?_; intro v2 w6 hown6 hgrow _)
      rw [show ([.string s, .int .i64 y] : List Value) = [.string (s, y).1, .int .i64 (s, y).2] from rfl, rcells_snoc] at hown6
      obtain ⟨g2, cap2, rfl, hg2w, hO6⟩ := own_some hown6 (by omega)
      have hB6 : Below wo.heap.size w5 w6 := ((Below.refl wo.heap.size w5).alloc (by omega) _).grown hgrow (by simp; omega) (by intro k hk; have e : g1 = k := Option.some.inj hk; omega)
      have hr6 := hr5.below hB6 hrlt
      have hg6 := gb_below hB6 hgz hg5
      have hOg6 := hOg5.below hB6 hOlt
      have hz6 := hB6.size
      clear hown5 hown6 hgrow hB6 hO5 hOg5
      have hsm2 : RtSmall (rs ++ [(s, y)]) := hsm.out.snoc (by simp only; omega) (by simp only; omega) (by simp only; omega)
      have hlen : (rs ++ [(s, y)]).length = m + 1 := by simp [HM.out]
      have hrds : Rds w6 (.slice (some ⟨g2, 0, none⟩) (m + 1) cap2) (rs ++ [(s, y)]).length 2 (rcells (rs ++ [(s, y)])) := by rw [hlen]; exact Rds.ofOwn hO6
      have HSM := Lib.hid hsm2
      have HLEN := Lib.hid hlen
      clear hsm2 hlen
      refine (sRoutesValid_any _ (rs ++ [(s, y)]) _ hrds HSM.out.len).mono ?_
      rintro e w7 ⟨rfl, qq, rfl⟩
      obtain ⟨d, hd⟩ : ∃ d, routesB (rs ++ [(s, y)]) = d := ⟨_, rfl⟩
      rw [hd]
      clear hd hrds
      cases d
      · go_wp2_with fail
        go_roundw
        case rel => exact ⟨g, m, cap, j - 1, q4 + 1, rs, rfl, by go_num, by omega, by omega, HM.out.symm ▸ rfl, hgw, hOg6.drewN, hsm, by omega, by omega, hr6.drewN, gb_drewN hg6⟩
        case measure => simp [intOf]; omega
      · go_wp2_with fail
        go_roundw
        case rel => exact ⟨g2, m + 1, cap2, j - 1, q4 + 1, rs ++ [(s, y)], rfl, by go_num, by omega, by omega, HLEN.out.symm, by omega, hO6.drewN, HSM, by omega, by omega, hr6.drewN, gb_drewN hg6⟩
        case measure => simp [intOf]; omega
    · obtain rfl : j = 0 := by omega
      go_wp2_with fail
      refine (odd_any rb q _ _ hr (by omega) hn).mono ?_
      rintro e w2 ⟨b, q', rfl, -, hq3, hq4, hr2, hgb2⟩
      have hO2 := Own.gb hgb2 (by omega) hO
      have hg2 := gb_trans hg hgb2
      have hz2' := hgb2.size
      clear hgb2 hO
      cases b
      · go_wp2
        go_returns
        exact ⟨g, m, cap, rs, q', rfl, HM.out, hgw, hO2, by have := HM.out; omega, hsm.out, by omega, by omega, hr2, hg2⟩
      · go_wp2_with fail
        refine (pick_any rb q' _ _ hr2 (by omega) (by omega)).mono ?_
        rintro e w3 ⟨y, rfl, hy0, hy1, hr3, hgb3⟩
        have hy : y = 0 ∨ y = 1 ∨ y = 2 := by omega
        have hO3 := Own.gb hgb3 (by omega) hO2
        have hg3 := gb_trans hg2 hgb3
        have hz3' := hgb3.size
        have hrlt := hr3.lt
        have hOlt3 := hO3.lt
        have hown3 := hO3.back (base := w.heap.size) hgw
        clear hgb3 hO2 hy1
        rcases hy with rfl | rfl | rfl
        · go_wp2_with (at_builtin; refine wpList_append_own _ rfl _ _ 28 rfl w.heap.size 32 i0 _ 2 24 Try.underlying28 hi hz0 hz1 hz2 rfl (by decide) _ _ _ rfl (hown3.alloc _) ⟨w3.heap.size, 0, none⟩ 1 1 [.string ⟨#[52]⟩, .int .i64 0] rfl rfl (cell_two_new _ _ _ _) (by intro u hu; simp at hu; rcases hu with rfl | rfl <;> rfl) (by unfold maxLen; omega) (by omega) (by simp; omega) ?_; intro v2 w6 hown6 hgrow _)
          rw [show ([.string ⟨#[52]⟩, .int .i64 0] : List Value) = [.string ((⟨#[52]⟩, 0) : Rt).1, .int .i64 ((⟨#[52]⟩, 0) : Rt).2] from rfl, rcells_snoc] at hown6
          obtain ⟨g2, cap2, rfl, hg2w, hO6⟩ := own_some hown6 (by omega)
          have hB6 : Below w.heap.size w3 w6 := ((Below.refl w.heap.size w3).alloc (by omega) _).grown hgrow (by simp; omega) (by intro k hk; have e : g = k := Option.some.inj hk; omega)
          have hg6 : w.grownBy w6 (some rb) := gb_below hB6 (Nat.le_refl _) hg3
          have hr6 := hr3.below hB6 hlt
          clear hgrow hown6 hB6
          go_returns
          refine ⟨g2, m + 1, cap2, rs ++ [(⟨#[52]⟩, 0)], q' + 1, rfl, by simp [HM.out], hg2w, hO6, by simp; have := HM.out; omega, hsm.out.snoc (by decide) (by decide) (by decide), by omega, by omega, hr6, hg6⟩
        · go_wp2_with (at_builtin; refine wpList_append_own _ rfl _ _ 28 rfl w.heap.size 32 i0 _ 2 24 Try.underlying28 hi hz0 hz1 hz2 rfl (by decide) _ _ _ rfl (hown3.alloc _) ⟨w3.heap.size, 0, none⟩ 1 1 [.string ⟨#[49]⟩, .int .i64 (-1)] rfl rfl (cell_two_new _ _ _ _) (by intro u hu; simp at hu; rcases hu with rfl | rfl <;> rfl) (by unfold maxLen; omega) (by omega) (by simp; omega) ?_; intro v2 w6 hown6 hgrow _)
          rw [show ([.string ⟨#[49]⟩, .int .i64 (-1)] : List Value) = [.string ((⟨#[49]⟩, (-1)) : Rt).1, .int .i64 ((⟨#[49]⟩, (-1)) : Rt).2] from rfl, rcells_snoc] at hown6
          obtain ⟨g2, cap2, rfl, hg2w, hO6⟩ := own_some hown6 (by omega)
          have hB6 : Below w.heap.size w3 w6 := ((Below.refl w.heap.size w3).alloc (by omega) _).grown hgrow (by simp; omega) (by intro k hk; have e : g = k := Option.some.inj hk; omega)
          have hg6 : w.grownBy w6 (some rb) := gb_below hB6 (Nat.le_refl _) hg3
          have hr6 := hr3.below hB6 hlt
          clear hgrow hown6 hB6
          go_returns
          refine ⟨g2, m + 1, cap2, rs ++ [(⟨#[49]⟩, (-1))], q' + 1, rfl, by simp [HM.out], hg2w, hO6, by simp; have := HM.out; omega, hsm.out.snoc (by decide) (by decide) (by decide), by omega, by omega, hr6, hg6⟩
        · go_wp2
          go_returns
          refine ⟨w3.heap.size, 2, 2, [(⟨#[50]⟩, 0), (⟨#[50]⟩, 1)], q' + 1, rfl, rfl, by omega, ?_, by simp, ?_, by omega, by omega, hr3.alloc, gb_alloc hg3⟩
          · exact (Own.of (World.ownsRow_lit (base := 0) (e := 32) (size := 2) w3 _ 2 (Nat.zero_le _) (by unfold maxLen; omega) rfl)).1
          · intro r hr
            simp at hr
            rcases hr with rfl | rfl <;> decide

/-- A table that was drawn. -/
def TabOut (w : World) (e : Ending) (w' : World) : Prop :=
  ∃ (g n cap : Nat) (rs : List Rt), e = .returned (.slice (some ⟨g, 0, none⟩) n cap) ∧ n = rs.length ∧ w.heap.size ≤ g ∧ Own w' g n cap 32 2 (rcells rs) ∧ rs.length ≤ 10 ∧ RtSmall rs ∧ Below w.heap.size w w'

set_option maxHeartbeats 400000 in
theorem DrawRoutesValid_any (a : Option Addr) (len cap : Nat) (zs : List Int) (w : World) (h : Code w a len cap zs) :
    Calls Try.prog 24 #[.slice a len cap] w (TabOut w) := by
  go_enter Try.func24, Try.ntmps24
  go_wp2_with fail
  refine (open_any _ _ _ _ _ h).mono ?_
  rintro e w1 ⟨rb, rfl, hrb, hr, hb⟩
  go_wp2_with fail
  refine (l20Table_any rb 0 _ _ hr (by omega) (by omega)).mono ?_
  rintro e w2 ⟨g, _, cap', rs, q, rfl, rfl, hg, hO, hl, hs, h4, h5, hr2, hg2⟩
  go_wp2
  go_returns
  exact ⟨g, _, cap', rs, rfl, rfl, Nat.le_trans hb.size hg, hO, hl, hs, below_gb hg2 hb.size hrb hb⟩
set_option maxHeartbeats 400000 in
theorem DrawRoutesLess_any (a : Option Addr) (len cap : Nat) (zs : List Int) (w : World) (h : Code w a len cap zs) :
    Calls Try.prog 58 #[.slice a len cap] w (TabOut w) := by
  go_enter Try.func58, Try.ntmps58
  go_wp2_with fail
  refine (open_any _ _ _ _ _ h).mono ?_
  rintro e w1 ⟨rb, rfl, hrb, hr, hb⟩
  go_wp2_with fail
  refine (l20Table_any rb 0 _ _ hr (by omega) (by omega)).mono ?_
  rintro e w2 ⟨g, _, cap', rs, q, rfl, rfl, hg, hO, hl, hs, h4, h5, hr2, hg2⟩
  go_wp2
  go_returns
  exact ⟨g, _, cap', rs, rfl, rfl, Nat.le_trans hb.size hg, hO, hl, hs, below_gb hg2 hb.size hrb hb⟩

end Go.Proofs.Ytcacedcbboidoaa
