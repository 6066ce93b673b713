/- The draw of plans: l20Numbers and the draws over it. -/
import Derived.Test.YtcacedcbboidoaaPh
import Derived.Test.YtcacedcbboidoaaPv
import Derived.Test.YtcacedcbboidoaaDrDig
import Derived.Test.YtcacedcbboidoaaStep
import Derived.Deep.RegionWith
import Derived.Deep.DeepCutAuto
set_option linter.unusedSimpArgs false
set_option linter.unusedVariables false
namespace Go.Proofs.Ytcacedcbboidoaa
open Go.RowKit

theorem strs_snoc (ps : List ByteArray) (s : ByteArray) : strs ps ++ [.string s] = strs (ps ++ [s]) := by simp [strs]
theorem strs_one (ps : List ByteArray) : ∀ u ∈ strs ps, u.oneCell' = true := by
  intro u hu
  obtain ⟨s, _, rfl⟩ := List.mem_map.1 hu
  rfl
/-- An owned row of at least one element begins at a block's head. -/
theorem own_head {w : World} {base n : Nat} {E : TypeId} {size : Nat} {v : Value} {xs : List Value} (h : w.ownsRow base E size v n xs) (hn : 0 < n) : ∃ g cap, v = .slice (some ⟨g, 0, none⟩) n cap ∧ base ≤ g ∧ Own w g n cap E size xs := by
  rcases h.2 with ⟨_, h2⟩ | ⟨g, cap, cur, rfl, hb, r⟩
  · omega
  · exact ⟨g, cap, rfl, hb, (Own.of h).1⟩
/-- Short texts. -/
def StSmall (ps : List ByteArray) : Prop := ∀ s ∈ ps, s.size ≤ 8
theorem StSmall.len {ps : List ByteArray} (h : StSmall ps) : StLen ps := fun k s hs => by have := h s (List.mem_of_getElem? hs); unfold maxLen; omega
theorem StSmall.snoc {ps : List ByteArray} {s : ByteArray} (h : StSmall ps) (h1 : s.size ≤ 8) : StSmall (ps ++ [s]) := by
  intro t ht
  rcases List.mem_append.1 ht with ht | ht
  · exact h t ht
  · simp at ht; subst ht; exact h1
theorem planR_small (zs : List Int) : StSmall (planR zs) ∧ (planR zs).length ≤ 10 := by
  unfold planR
  split
  · rename_i h
    refine ⟨fun s hs => ?_, by rw [planFor_len]; exact lensB_len (fitB_sum h).1⟩
    obtain ⟨p, _, rfl⟩ := List.mem_map.1 hs
    show ((three _).take _).toArray.size ≤ 8
    simp [three]; omega
  · exact ⟨fun s hs => by simp at hs, by simp⟩

/-- What l20Numbers leaves. -/
def NumPost (rb p : Nat) (w : World) (e : Ending) (w' : World) : Prop :=
  ∃ (v : Value) (ps : List ByteArray) (q : Nat), e = .returned v ∧ w'.ownsRow w.heap.size 9 1 v ps.length (strs ps) ∧ ps.length ≤ 12 ∧ StSmall ps ∧ p ≤ q ∧ q ≤ p + 150 ∧ Rdr w' rb q ∧ w.grownBy w' (some rb)

def fives : Array Value := #[.string ⟨#[]⟩, .string ⟨#[52]⟩, .string ⟨#[48, 49, 50, 51]⟩, .string ⟨#[48]⟩, .string ⟨#[97]⟩]
theorem fives_at (k : Int) (h0 : 0 ≤ k) (h1 : k < 5) : ∃ x : ByteArray, fives[k.toNat]? = some (.string x) ∧ x.size ≤ 4 := by
  have : k = 0 ∨ k = 1 ∨ k = 2 ∨ k = 3 ∨ k = 4 := by omega
  rcases this with rfl | rfl | rfl | rfl | rfl <;> exact ⟨_, rfl, by decide⟩

/-- The end of l20Numbers: a plan, often as it is. -/
def NumTail (rb p : Nat) (w : World) (v : Value) (ps : List ByteArray) (q : Nat) (wr : World) : Prop :=
  wr.ownsRow w.heap.size 9 1 v ps.length (strs ps) ∧ ps.length ≤ 10 ∧ StSmall ps ∧ p ≤ q ∧ q ≤ p + 140 ∧ Rdr wr rb q ∧ w.grownBy wr (some rb)

set_option maxRecDepth 100000 in
set_option maxHeartbeats 2000000 in
theorem l20Numbers_any (rb p : Nat) (n : Int) (w : World) (h : Rdr w rb p) (hp : p ≤ 1000000) (hn : n ≤ 1000000000) :
    Calls Try.prog 95 #[.pointer (some ⟨rb, 0, none⟩), .int .i64 n] w (NumPost rb p w) := by
  obtain ⟨i0, hi, hz0, hz1, hz2⟩ := info_parts infoS
  have hlt := h.lt
  go_enter Try.func95, Try.ntmps95
  go_wp2_with fail
  refine (l20Lengths_any rb p 0 _ h (by omega) (by omega)).mono ?_
  rintro e w1 ⟨vz, zs, q1, rfl, hoz, hlz, -, hq1a, hq1b, hr1, hg1⟩
  have hz1' := hg1.size
  go_wp2_with fail
  refine (sPlanFor_any _ zs _ (Rds.ofOwns hoz)).mono ?_
  rintro e w2 ⟨v0, rfl, ho2, hb2⟩
  obtain ⟨hsm0, hl0⟩ := planR_small zs
  have hrlt1 := hr1.lt
  have hr2 := hr1.below hb2 hrlt1
  have hg2 : w.grownBy w2 (some rb) := gb_below hb2 hg1.size hg1
  have ho2' : w2.ownsRow w.heap.size 9 1 v0 (planR zs).length (strs (planR zs)) := owns_base hz1' ho2
  obtain ⟨ps0, hps0⟩ : ∃ ps0, planR zs = ps0 := ⟨_, rfl⟩
  rw [hps0] at ho2' hsm0 hl0
  clear hoz ho2 hb2 hg1 hr1 hps0
  have hrlt := hr2.lt
  have hHM := Lib.hid hsm0
  obtain ⟨d, hd⟩ : ∃ d, fitB zs = d := ⟨_, rfl⟩
  rw [hd]
  clear hd hsm0 hz1'
  go_upto_region 2 with fail
  go_cut [21] (fun t21 wc => ∃ (b : Bool) (q : Nat), t21 = .bool b ∧ q1 ≤ q ∧ q ≤ q1 + 1 ∧ wc.ownsRow w.heap.size 9 1 v0 ps0.length (strs ps0) ∧ Rdr wc rb q ∧ w.grownBy wc (some rb))
  case first =>
    cases d
    · go_wp2_with fail
      go_meet
      exact ⟨true, q1, rfl, by omega, by omega, ho2', hr2, hg2⟩
    · go_wp2_with fail
      refine (pick_any rb q1 _ _ hr2 (by omega) (by omega)).mono ?_
      rintro e w3 ⟨y, rfl, hy0, hy1, hr3, hgb3⟩
      have ho3 := ho2'.kept hgb3 (by
        cases hvb : Value.ownBlock v0 with
        | none => exact .inl rfl
        | some k => exact .inr (by have := own_ge ho2' k hvb; simp; omega))
      go_wp2_with fail
      go_meet
      exact ⟨_, q1 + 1, rfl, by omega, by omega, ho3, hr3, gb_trans hg2 hgb3⟩
  case rest =>
    obtain ⟨b, q2, rfl, hq2a, hq2b, ho, hr, hg⟩ := hcut
    clear hr2 hg2 ho2'
    go_upto_if 21 with fail
    go_cut [5] (fun v wc => ∃ (ps : List ByteArray) (q : Nat), NumTail rb p w v ps q wc)
    case first =>
      cases b
      · go_wp2_with fail
        go_meet
        exact ⟨ps0, q2, ho, by omega, hHM.out, by omega, by omega, hr, hg⟩
      · clear ho
        have hgz := hg.size
        have hrlt2 := hr.lt
        go_wp2_with fail
        refine (pick_any rb q2 _ _ hr.alloc (by omega) (by omega)).mono ?_
        rintro e w3 ⟨x, rfl, hx0, hx1, hr3, hgb3⟩
        have hx : x ≤ 8 := by omega
        have hg3 : w.grownBy w3 (some rb) := gb_trans (gb_alloc hg) hgb3
        have hO3 : Own w3 wc.heap.size 0 0 9 1 (strs []) :=
          Own.gb hgb3 (by omega) ((Own.of (World.ownsRow_lit (base := wc.heap.size) (e := 9) (size := 1) wc #[] 0 (Nat.le_refl _) (by unfold maxLen; omega) rfl)).1)
        clear hx1 hgb3 hr hg
        go_wp2_with fail
        go_loopw [5, 7] (fun v k wr => ∃ (g m cap j q : Nat) (ps : List ByteArray), v = .slice (some ⟨g, 0, none⟩) m cap ∧ k = .int .i64 j ∧ j ≤ 8 ∧ j + m ≤ 8 ∧ Hid (m = ps.length) ∧ w.heap.size ≤ g ∧ Own wr g m cap 9 1 (strs ps) ∧ Hid (StSmall ps) ∧ q + 12 * j ≤ q2 + 1 + 12 * 8 ∧ q2 ≤ q ∧ Rdr wr rb q ∧ w.grownBy wr (some rb)) (fun _ k _ => (intOf k).toNat)
        case atStart => exact ⟨wc.heap.size, 0, 0, x.toNat, q2 + 1, [], rfl, by go_num, by omega, by omega, rfl, hgz, hO3, fun r hr => absurd hr (by simp), by omega, by omega, hr3, hg3⟩
        case round =>
          clear hr3 hg3 hO3
          obtain ⟨g, m, cap, j, q, ps, rfl, rfl, hj, hjm, HM, hgw, hO, hsm, hqa, hqb, hr, hg⟩ := hrel
          obtain ⟨wo, rfl⟩ : ∃ wo : World, wo = wr := ⟨_, rfl⟩
          have hgz2 := hg.size
          have hOlt := hO.lt
          have hcaps := hO.caps
          by_cases hj0 : 0 < j
          · have hrlt3 := hr.lt
            go_wp2_with (at_builtin; refine wpList_append_own _ rfl _ _ 42 rfl wo.heap.size 9 i0 _ 1 16 Try.underlying42 hi hz0 hz1 hz2 rfl (by decide) _ 0 [] rfl (World.ownsRow_lit _ #[] 0 (Nat.le_refl _) (by unfold maxLen; omega) rfl) ⟨g, 0, none⟩ m _ (strs ps) rfl (by rw [strs_len, ← HM.out, Nat.mul_one]) (by intro i u hu; rw [Addr.add_spot, Nat.zero_add]; have hi' : i < m := (by have := (List.getElem?_eq_some_iff.1 hu).1; rw [strs_len, ← HM.out] at this; exact this); rw [World.cell?_alloc_lt _ _ _ (by simp; omega), hO.cell i (by omega)]; exact hu) (strs_one ps) (by unfold maxLen; omega) (by omega) (by simp) ?_; intro v' w3 hown' hgrow hnil)
            simp only [Nat.zero_add, List.nil_append] at hown'
            have hnn : v' ≠ .slice none 0 0 := fun e => by have := (hnil.1 e).1; cases this
            obtain ⟨g1, cap1, rfl, hg1w, hO3⟩ : ∃ g1 cap1, v' = .slice (some ⟨g1, 0, none⟩) m cap1 ∧ wo.heap.size ≤ g1 ∧ Own w3 g1 m cap1 9 1 (strs ps) := by
              rcases hown'.2 with ⟨h2, _⟩ | ⟨g1, cap1, cur, rfl, hb, r⟩
              · exact absurd h2 hnn
              · exact ⟨g1, cap1, rfl, hb, (Own.of hown').1⟩
            have hB3 : Below wo.heap.size wo w3 := ((Below.refl wo.heap.size wo).alloc (Nat.le_refl _) _).grown hgrow (by simp) (by intro k hk; have e : wo.heap.size = k := Option.some.inj hk; omega)
            have hr3 := hr.below hB3 hrlt3
            have hg3 := gb_below hB3 hgz2 hg
            have hOg3 := hO.below hB3 hOlt
            have hz3 := hB3.size
            have hlt3 := hO3.lt
            clear hown' hgrow hnil hnn hB3 hO
            refine (l20Digits_any rb q _ _ hr3 (by omega) (by omega) (by omega)).mono ?_
            rintro e w4 ⟨s, q4, rfl, hs3, -, hq4, hq5, hr4, hgb4⟩
            have hO4 := Own.gb hgb4 (by omega) hO3
            have hOg4 := Own.gb hgb4 (by omega) hOg3
            have hg4 := gb_trans hg3 hgb4
            have hz4 := hgb4.size
            clear hgb4 hO3 hOg3
            have hown5 := hO4.back (base := wo.heap.size) hg1w
            go_wp2_with (at_builtin; refine wpList_append_own _ rfl _ _ 42 rfl wo.heap.size 9 i0 _ 1 16 Try.underlying42 hi hz0 hz1 hz2 rfl (by decide) _ _ _ rfl (hown5.alloc _) ⟨w4.heap.size, 0, none⟩ 1 1 [.string s] rfl rfl (by intro j u hj; rw [Addr.add_spot]; exact keep_new (by simp) (by simpa using hj)) (by intro u hu; simp at hu; subst hu; rfl) (by unfold maxLen; omega) (by omega) (by simp; omega) ?_; intro v2 w6 hown6 hgrow _)
            rw [strs_snoc] at hown6
            obtain ⟨g2, cap2, rfl, hg2w, hO6⟩ := own_head hown6 (by omega)
            have hB6 : Below wo.heap.size w4 w6 := ((Below.refl wo.heap.size w4).alloc (by omega) _).grown hgrow (by simp; omega) (by intro k hk; have e : g1 = k := Option.some.inj hk; omega)
            have hr6 := hr4.below hB6 hrlt3
            have hg6 := gb_below hB6 hgz2 hg4
            have hOg6 := hOg4.below hB6 hOlt
            have hz6 := hB6.size
            clear hown5 hown6 hgrow hB6 hO4 hOg4
            have HSM : Hid (StSmall (ps ++ [s])) := hsm.out.snoc (by omega)
            have HLEN : Hid (m + 1 = (ps ++ [s]).length) := by unfold Hid; rw [List.length_append, ← HM.out]; rfl
            have hrds : Rds w6 (.slice (some ⟨g2, 0, none⟩) (m + 1) cap2) (ps ++ [s]).length 1 (strs (ps ++ [s])) := by rw [← HLEN.out]; exact Rds.ofOwn hO6
            refine (sPlanValid_any _ (ps ++ [s]) _ hrds HSM.out.len).mono ?_
            rintro e w7 ⟨rfl, qq, rfl⟩
            obtain ⟨d, hd⟩ : ∃ d, planB (ps ++ [s]) = d := ⟨_, rfl⟩
            rw [hd]
            clear hd hrds
            cases d
            · go_wp2_with fail
              go_roundw
              case rel => exact ⟨g, m, cap, j - 1, q4, ps, rfl, by go_num, by omega, by omega, HM, hgw, hOg6.drewN, hsm, by omega, by omega, hr6.drewN, gb_drewN hg6⟩
              case measure => simp [intOf]; omega
            · go_wp2_with fail
              go_roundw
              case rel => exact ⟨g2, m + 1, cap2, j - 1, q4, ps ++ [s], rfl, by go_num, by omega, by omega, HLEN, by omega, hO6.drewN, HSM, by omega, by omega, hr6.drewN, gb_drewN hg6⟩
              case measure => simp [intOf]; omega
          · obtain rfl : j = 0 := by omega
            go_wp2_with fail
            go_meet
            exact ⟨ps, q, by rw [← HM.out]; exact hO.back hgw, by rw [← HM.out]; omega, hsm.out, by omega, by omega, hr, hg⟩
    case rest =>
      obtain ⟨ps, q, ho5, hl5, hs5, hqa, hqb, hr5, hg5⟩ := hcut
      clear ho hr hg
      rename_i v5
      go_wp2_with fail
      refine (odd_any rb q _ _ hr5 (by omega) hn).mono ?_
      rintro e w2 ⟨b2, q', rfl, -, hq3, hq4, hr6, hgb6⟩
      have ho6 := ho5.kept hgb6 (by
        cases hvb : Value.ownBlock _ with
        | none => exact .inl rfl
        | some k => exact .inr (by have := own_ge ho5 k hvb; simp; omega))
      have hg6 := gb_trans hg5 hgb6
      have hz6 := hg6.size
      have hrlt6 := hr6.lt
      clear hgb6 ho5
      cases b2
      · go_wp2
        go_returns
        exact ⟨_, ps, q', rfl, ho6, by omega, hs5, by omega, by omega, hr6, hg6⟩
      · go_wp2_with fail
        refine (pick_any rb q' _ _ hr6.alloc (by omega) (by omega)).mono ?_
        rintro e w3 ⟨y, rfl, hy0, hy1, hr7, hgb7⟩
        have hy : y < 5 := by omega
        have hC := Blk.gb hgb7 (b := w2.heap.size) (by omega) (Blk.new (cs := fives) rfl)
        obtain ⟨x, hx, hxs⟩ := fives_at y hy0 hy
        have hcell := (hC.at y.toNat).trans hx
        have hblt := hC.lt
        have ho7 := (ho6.alloc _).kept hgb7 (by
          cases hvb : Value.ownBlock _ with
          | none => exact .inl rfl
          | some k => exact .inr (by have := own_ge ho6 k hvb; simp; omega))
        have hg7 := gb_trans (gb_alloc hg6) hgb7
        have hz7 := hg7.size
        clear hC hx hy1 hgb7 ho6
        unfold fives at hcell
        go_wp2_with (at_builtin; refine wpList_append_own _ rfl _ _ 42 rfl w.heap.size 9 i0 _ 1 16 Try.underlying42 hi hz0 hz1 hz2 rfl (by decide) _ _ _ rfl (ho7.alloc _) ⟨w3.heap.size, 0, none⟩ 1 1 [.string x] rfl rfl (by intro j u hj; rw [Addr.add_spot]; exact keep_new (by simp) (by simpa using hj)) (by intro u hu; simp at hu; subst hu; rfl) (by unfold maxLen; omega) (by omega) (by simp; omega) ?_; intro v2 w6 hown6 hgrow _)
        rw [strs_snoc] at hown6
        have hB6 : Below w.heap.size w3 w6 := ((Below.refl w.heap.size w3).alloc (by omega) _).grown hgrow (by simp; omega) (own_ge ho7)
        have hB6' : Below (rb + 1) (w3.alloc (.cells #[.string x] 9)) w6 := (Below.refl _ _).grown hgrow (by have := hr7.lt; simp; omega) (fun k hk => by have := own_ge ho7 k hk; omega)
        have hr8 := (hr7.alloc (o := .cells #[.string x] 9)).below hB6' (by omega)
        have hg8 := gb_below hB6 (Nat.le_refl _) hg7
        clear hgrow ho7
        go_returns
        exact ⟨_, ps ++ [x], q' + 1, rfl, by simpa using hown6, by simp; omega, hs5.snoc (by omega), by omega, by omega, hr8, hg8⟩

/-- A plan that was drawn. -/
def NumOut (w : World) (e : Ending) (w' : World) : Prop :=
  ∃ (v : Value) (ps : List ByteArray), e = .returned v ∧ w'.ownsRow w.heap.size 9 1 v ps.length (strs ps) ∧ ps.length ≤ 12 ∧ StSmall ps ∧ Below w.heap.size w w'

set_option maxHeartbeats 400000 in
theorem DrawPlanValid_any (a : Option Addr) (len cap : Nat) (zs : List Int) (w : World) (h : Code w a len cap zs) :
    Calls Try.prog 56 #[.slice a len cap] w (NumOut w) := by
  go_enter Try.func56, Try.ntmps56
  go_wp2_with fail
  refine (open_any _ _ _ _ _ h).mono ?_
  rintro e w1 ⟨rb, rfl, hrb, hr, hb⟩
  go_wp2_with fail
  refine (l20Numbers_any rb 0 _ _ hr (by omega) (by omega)).mono ?_
  rintro e w2 ⟨v, ps, q, rfl, h1, h2, h3, h4, h5, hr2, hg2⟩
  go_wp2
  go_returns
  exact ⟨v, ps, rfl, owns_base hb.size h1, h2, h3, below_gb hg2 hb.size hrb hb⟩
set_option maxHeartbeats 400000 in
theorem DrawPlanLengths_any (a : Option Addr) (len cap : Nat) (zs : List Int) (w : World) (h : Code w a len cap zs) :
    Calls Try.prog 66 #[.slice a len cap] w (NumOut w) := by
  go_enter Try.func66, Try.ntmps66
  go_wp2_with fail
  refine (open_any _ _ _ _ _ h).mono ?_
  rintro e w1 ⟨rb, rfl, hrb, hr, hb⟩
  go_wp2_with fail
  refine (l20Numbers_any rb 0 _ _ hr (by omega) (by omega)).mono ?_
  rintro e w2 ⟨v, ps, q, rfl, h1, h2, h3, h4, h5, hr2, hg2⟩
  go_wp2
  go_returns
  exact ⟨v, ps, rfl, owns_base hb.size h1, h2, h3, below_gb hg2 hb.size hrb hb⟩

end Go.Proofs.Ytcacedcbboidoaa
