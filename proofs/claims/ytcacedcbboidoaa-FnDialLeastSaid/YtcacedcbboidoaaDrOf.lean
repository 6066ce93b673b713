/- The draw of how often: l20Often, DrawDialLeast, DrawDialCost. -/
import Derived.Test.YtcacedcbboidoaaDrLen
import Derived.Test.YtcacedcbboidoaaStep
set_option linter.unusedSimpArgs false
set_option linter.unusedVariables false
namespace Go.Proofs.Ytcacedcbboidoaa
open Go.RowKit

/-- What l20Often leaves. -/
def OftPost (rb p : Nat) (w : World) (e : Ending) (w' : World) : Prop :=
  ∃ (v : Value) (zs : List Int) (q : Nat), e = .returned v ∧ w'.ownsRow w.heap.size 3 1 v zs.length (ints zs) ∧ zs.length ≤ 11 ∧ p ≤ q ∧ q ≤ p + 40 ∧ Rdr w' rb q ∧ w.grownBy w' (some rb)
theorem kept_gb {w1 w2 : World} {v : Value} {rb base : Nat} {zs : List Int} (ho : w1.ownsRow base 3 1 v zs.length (ints zs)) (hg : w1.grownBy w2 (some rb)) (hb : rb < base) : w2.ownsRow base 3 1 v zs.length (ints zs) :=
  ho.kept hg (by
    cases hv : Value.ownBlock _ with
    | none => exact .inl rfl
    | some k => exact .inr (by have := own_ge ho k hv; simp; omega))

set_option maxRecDepth 100000 in
set_option maxHeartbeats 2000000 in
theorem l20Often_any (rb p : Nat) (n : Int) (w : World) (h : Rdr w rb p) (hp : p ≤ 1000000) (hn : n ≤ 1000000000) :
    Calls Try.prog 102 #[.pointer (some ⟨rb, 0, none⟩), .int .i64 n] w (OftPost rb p w) := by
  obtain ⟨i0, hi, hz0, hz1, hz2⟩ := info_parts infoI
  have hmk : ∀ w : World, (Instr.makeSlice 23 (.int .i64 11) (.int .i64 11)).run Try.prog w = .ok (.slice (some ⟨w.heap.size, 0, none⟩) 11 11) (w.alloc (.cells #[.int .i64 0, .int .i64 0, .int .i64 0, .int .i64 0, .int .i64 0, .int .i64 0, .int .i64 0, .int .i64 0, .int .i64 0, .int .i64 0, .int .i64 0] 3)) := fun _ => by kernel_rfl
  have hlt := h.lt
  go_enter Try.func102, Try.ntmps102
  go_wp2_with fail
  refine (pick_any rb p _ _ h.alloc (by omega) (by omega)).mono ?_
  rintro e w1 ⟨x, rfl, hx0, hx1, hr1, hg1⟩
  have hx : x ≤ 8 := by omega
  have hg1' : w.grownBy w1 (some rb) := gb_trans (gb_alloc (World.grownBy.refl _ _)) hg1
  have hz1' := hg1.size
  have ho1 : w1.ownsRow w.heap.size 3 1 (.slice (some ⟨w.heap.size, 0, none⟩) 0 0) 0 (ints []) :=
    (World.ownsRow_lit (base := w.heap.size) (e := 3) (size := 1) w #[] 0 (Nat.le_refl _) (by unfold maxLen; omega) rfl).kept hg1 (.inr (by simp [Value.ownBlock]; omega))
  simp only [World.size_alloc] at hz1'
  clear hx1 hg1
  go_wp2_with fail
  go_loopw [5, 6] (fun v k wr => ∃ (j q : Nat) (zs : List Int), j ≤ 10 ∧ k = .int .i64 j ∧ 2 ≤ j + zs.length ∧ j + zs.length ≤ 10 ∧ q + 2 * j ≤ p + 1 + 20 ∧ p ≤ q ∧ wr.ownsRow w.heap.size 3 1 v zs.length (ints zs) ∧ Rdr wr rb q ∧ w.grownBy wr (some rb)) (fun _ k _ => (intOf k).toNat)
  case atStart => exact ⟨(2 + x).toNat, p + 1, [], by omega, by go_num, by simp; omega, by simp; omega, by omega, by omega, ho1, hr1, hg1'⟩
  case round =>
    clear ho1 hr1 hg1'
    obtain ⟨j, q, zs, hj, rfl, hl2, hl10, hq1, hq2, hown, hr, hg⟩ := hrel
    have hgz := hg.size
    by_cases hj0 : 0 < j
    · have hrlt := hr.lt
      go_wp2_with fail
      refine (pick_any rb q _ _ hr (by omega) (by omega)).mono ?_
      rintro e w2 ⟨y, rfl, hy0, hy1, hr2, hg2⟩
      have hown2 := kept_gb hown hg2 (by omega)
      have hg2' := gb_trans hg hg2
      have hgz2 := hg2'.size
      clear hown hg2
      go_wp2_with fail
      refine (pick_any rb (q + 1) _ _ hr2 (by omega) (by omega)).mono ?_
      rintro e w3 ⟨t, rfl, ht0, ht1, hr3, hg3⟩
      have hown3 := kept_gb hown2 hg3 (by omega)
      have hg3' := gb_trans hg2' hg3
      have hgz3 := hg3'.size
      have hw1 : IntKind.i64.wrap (1 + t) = 1 + t := IntWalk.i64_in _ (by omega)
      have hm0 : 0 ≤ y * (1 + t) := Int.mul_nonneg (by omega) (by omega)
      have hm1 : y * (1 + t) ≤ 19 * 4 := Int.le_trans (Int.mul_le_mul_of_nonneg_right (by omega : y ≤ 19) (by omega)) (Int.mul_le_mul_of_nonneg_left (by omega) (by omega))
      have hw2 : IntKind.i64.wrap (y * (1 + t)) = y * (1 + t) := IntWalk.i64_in _ (by omega)
      clear hown2 hg3 hm0 hm1
      go_wp2_with (at_builtin; refine wpList_append_own _ rfl _ _ 23 rfl w.heap.size 3 i0 (.int .i64 0) 1 8 Try.underlying23 hi hz0 hz1 hz2 rfl (by decide) _ _ _ rfl (hown3.alloc _) ⟨w3.heap.size, 0, none⟩ 1 1 [.int .i64 (y * (1 + t))] rfl rfl (by intro j u hj; rw [Addr.add_spot]; exact keep_new (by simp) (by simpa using hj)) (by intro u hu; simp at hu; subst hu; rfl) (by unfold maxLen; omega) (by omega) (by simp; omega) ?_; intro v' w4 hown4 hgrow _)
      have hr4 : Rdr w4 rb (q + 2) := by
        have h1 : Below (rb + 1) (w3.alloc (.cells #[.int .i64 (y * (1 + t))] 3)) w4 := (Below.refl _ _).grown hgrow (by have := hr3.lt; simp; omega) (fun k hk => by have := own_ge hown3 k hk; omega)
        exact hr3.alloc.below h1 (by omega)
      have hg4 : w.grownBy w4 (some rb) := by
        have h1 : Below w.heap.size (w3.alloc (.cells #[.int .i64 (y * (1 + t))] 3)) w4 := (Below.refl _ _).grown hgrow (by simp; omega) (fun k hk => own_ge hown3 k hk)
        exact gb_below h1 (Nat.le_refl _) (gb_alloc hg3')
      rw [ints_snoc] at hown4
      clear hgrow hown3
      go_wp2_with fail
      go_roundw
      case rel => exact ⟨j - 1, q + 2, zs ++ [y * (1 + t)], by omega, by go_num, by simp; omega, by simp; omega, by omega, by omega, by simpa using hown4, hr4, hg4⟩
      case measure => simp [intOf]; omega
    · obtain rfl : j = 0 := by omega
      go_wp2_with fail
      refine (odd_any rb q _ _ hr (by omega) hn).mono ?_
      rintro e w2 ⟨b, q', rfl, -, hq3, hq4, hr2, hg2⟩
      have hown2 := kept_gb hown hg2 (by omega)
      have hg2' := gb_trans hg hg2
      have hgz2 := hg2'.size
      clear hown hg2
      cases b
      · go_wp2
        go_returns
        exact ⟨_, zs, q', rfl, hown2, by omega, by omega, by omega, hr2, hg2'⟩
      · go_wp2_with fail
        refine (pick_any rb q' _ _ hr2 (by omega) (by omega)).mono ?_
        rintro e w3 ⟨y, rfl, hy0, hy1, hr3, hg3⟩
        have hown3 := kept_gb hown2 hg3 (by omega)
        have hg3' := gb_trans hg2' hg3
        have hgz3 := hg3'.size
        have hrlt := hr3.lt
        clear hown2 hg3
        by_cases hy0' : y = 0
        · subst hy0'
          go_wp2
          go_returns
          refine ⟨_, [5], q' + 1, rfl, ?_, by simp, by omega, by omega, hr3.alloc, gb_alloc hg3'⟩
          exact World.ownsRow_lit (base := w.heap.size) (e := 3) (size := 1) w3 _ 1 (by omega) (by unfold maxLen; omega) rfl
        · by_cases hy1' : y = 1
          · subst hy1'
            obtain ⟨g, c, rfl, hg, hO⟩ : ∃ g c, u5 = .slice (some ⟨g, 0, none⟩) zs.length c ∧ w.heap.size ≤ g ∧ Own w3 g zs.length c 3 1 (ints zs) := by
              rcases hown3.2 with ⟨_, h3⟩ | ⟨g, cap, cur, rfl, hb, r⟩
              · omega
              · exact ⟨g, cap, rfl, hb, (Own.of hown3).1⟩
            have hglt := hO.lt
            obtain ⟨n2, hn2⟩ : ∃ n2, zs.length = n2 := ⟨_, rfl⟩
            clear hown3
            rw [hn2] at hO hl2 hl10 ⊢
            go_wp2_with fail
            refine (pick_any rb (q' + 1) _ _ hr3.alloc (by omega) (by omega)).mono ?_
            rintro e w4 ⟨y2, rfl, hy20, hy21, hr4, hg4⟩
            have hC := Blk.gb hg4 (b := w3.heap.size) (by omega) (Blk.new rfl)
            have hcell := hC.at y2.toNat
            obtain ⟨z, hz⟩ : ∃ z : Int, w4.cell? ⟨w3.heap.size, y2.toNat, none⟩ = some (.int .i64 z) := by
              have : y2 = 0 ∨ y2 = 1 := by omega
              rcases this with rfl | rfl <;> exact ⟨_, hcell⟩
            have hy2 : y2 < 2 := by omega
            have hg4' : w.grownBy w4 (some rb) := gb_trans (gb_alloc hg3') hg4
            have hgz4 := hg4'.size
            have hO4 := hO.alloc.gb hg4 (by omega)
            obtain ⟨z0, hz0'⟩ : ∃ z0, zs[0]? = some z0 := ⟨_, List.getElem?_eq_getElem (by omega)⟩
            have hcell0 : w4.cell? ⟨g, 0, none⟩ = some (.int .i64 z0) := by
              rw [hO4.cell 0 (by omega)]; exact ints_at _ _ _ hz0'
            have hfz0 := hO4.free 0
            have HO4 := Lib.hid hO4
            have HN2 := Lib.hid hn2
            clear hcell hC hy21 hg4 hO4 hn2 hz0'
            go_wp2_with fail
            go_returns
            refine ⟨_, zs.set 0 z, q' + 2, rfl, ?_, (by rw [List.length_set, HN2.out]; omega), by omega, by omega, hr4.below ((Below.refl _ _).setCell (by show rb + 1 ≤ g; omega) _) (by omega), gb_new hg hg4'⟩
            rw [List.length_set, HN2.out]
            exact (HO4.out.set (by simp [ints])).back hg
          · go_wp2
            go_returns
            refine ⟨_, List.replicate 11 0, q' + 1, rfl, ?_, by simp, by omega, by omega, hr3.alloc, gb_alloc hg3'⟩
            exact World.ownsRow_lit (base := w.heap.size) (e := 3) (size := 1) w3 _ 11 (by omega) (by unfold maxLen; omega) rfl

set_option maxHeartbeats 400000 in
theorem DrawDialLeast_any (a : Option Addr) (len cap : Nat) (zs : List Int) (w : World) (h : Code w a len cap zs) :
    Calls Try.prog 70 #[.slice a len cap] w fun e w' => ∃ (v : Value) (ys : List Int), e = .returned v ∧ Rds w' v ys.length 1 (ints ys) ∧ ys.length ≤ 11 ∧ Below w.heap.size w w' := by
  go_enter Try.func70, Try.ntmps70
  go_wp2_with fail
  refine (open_any _ _ _ _ _ h).mono ?_
  rintro e w1 ⟨rb, rfl, hrb, hr, hb⟩
  go_wp2_with fail
  refine (l20Often_any rb 0 _ _ hr (by omega) (by omega)).mono ?_
  rintro e w2 ⟨v, ys, q, rfl, h1, h2, h4, h5, hr2, hg2⟩
  go_wp2
  go_returns
  exact ⟨v, ys, rfl, Rds.ofOwns h1, h2, below_gb hg2 hb.size hrb hb⟩

def OftLens (w : World) (e : Ending) (w' : World) : Prop :=
  ∃ (v u : Value) (zs ls : List Int), e = .returned (.tuple #[v, u]) ∧ Rds w' v zs.length 1 (ints zs) ∧ zs.length ≤ 11 ∧ Rds w' u ls.length 1 (ints ls) ∧ ls.length ≤ 12 ∧ Below w.heap.size w w'

set_option maxRecDepth 100000 in
set_option maxHeartbeats 2000000 in
theorem DrawDialCost_any (a : Option Addr) (len cap : Nat) (zs : List Int) (w : World) (h : Code w a len cap zs) :
    Calls Try.prog 72 #[.slice a len cap] w (OftLens w) := by
  obtain ⟨i0, hi, hz0, hz1, hz2⟩ := info_parts infoI
  go_enter Try.func72, Try.ntmps72
  go_wp2_with fail
  refine (open_any _ _ _ _ _ h).mono ?_
  rintro e w1 ⟨rb, rfl, hrb, hr, hb⟩
  have hsz1 := hb.size
  have hrlt := hr.lt
  go_wp2_with fail
  refine (l20Often_any rb 0 _ _ hr (by omega) (by omega)).mono ?_
  rintro e w2 ⟨v, ys, q2, rfl, ho, hl, -, hq2, hr2, hg2⟩
  have hbel2 : Below w.heap.size w w2 := below_gb hg2 hsz1 hrb hb
  have hgz2 := hg2.size
  have HOV := Lib.hid ho
  obtain ⟨n, hn⟩ : ∃ n, ys.length = n := ⟨_, rfl⟩
  obtain ⟨va, vc, rfl⟩ : ∃ va vc, v = .slice va ys.length vc := by obtain ⟨va, vc, h, _⟩ := (Rds.ofOwns ho).open1; exact ⟨va, vc, h⟩
  have HN := Lib.hid hn
  have ho1 : (w2.alloc (.cells #[] 3)).ownsRow w2.heap.size 3 1 (.slice (some ⟨w2.heap.size, 0, none⟩) 0 0) 0 (ints []) :=
    World.ownsRow_lit (base := w2.heap.size) (e := 3) (size := 1) w2 #[] 0 (Nat.le_refl _) (by unfold maxLen; omega) rfl
  have hg1' : w2.grownBy (w2.alloc (.cells #[] 3)) (some rb) := gb_alloc (World.grownBy.refl _ _)
  have hr1 : Rdr (w2.alloc (.cells #[] 3)) rb q2 := hr2.alloc
  have hrlt2 := hr2.lt
  rw [hn] at hl ⊢
  clear ho hn hr hr2
  go_wp2_with fail
  go_loopw [6, 7] (fun v i wr => ∃ (k q : Nat) (ls : List Int), k ≤ n ∧ i = .int .i64 k ∧ ls.length = k ∧ q ≤ q2 + k ∧ wr.ownsRow w2.heap.size 3 1 v ls.length (ints ls) ∧ Rdr wr rb q ∧ w2.grownBy wr (some rb)) (fun _ i _ => n - (intOf i).toNat)
  case atStart => exact ⟨0, q2, [], by omega, rfl, rfl, by omega, ho1, hr1, hg1'⟩
  case round =>
    clear ho1 hr1 hg1'
    obtain ⟨k, q, ls, hk, rfl, hlk, hq, hown, hr, hg⟩ := hrel
    have hgz := hg.size
    have hrl := hr.lt
    by_cases hkn : k < n
    · go_wp2_with fail
      refine (pick_any rb q _ _ hr (by omega) (by omega)).mono ?_
      rintro e w3 ⟨t, rfl, ht0, ht1, hr3, hg3⟩
      have hown3 := kept_gb hown hg3 (by omega)
      have hg3' := gb_trans hg hg3
      have hgz3 := hg3'.size
      have hw1 : IntKind.i64.wrap (1 + t) = 1 + t := IntWalk.i64_in _ (by omega)
      clear hown hg3
      go_wp2_with (at_builtin; refine wpList_append_own _ rfl _ _ 23 rfl w2.heap.size 3 i0 (.int .i64 0) 1 8 Try.underlying23 hi hz0 hz1 hz2 rfl (by decide) _ _ _ rfl (hown3.alloc _) ⟨w3.heap.size, 0, none⟩ 1 1 [.int .i64 (1 + t)] rfl rfl (by intro j u hj; rw [Addr.add_spot]; exact keep_new (by simp) (by simpa using hj)) (by intro u hu; simp at hu; subst hu; rfl) (by unfold maxLen; omega) (by omega) (by simp; omega) ?_; intro v' w4 hown4 hgrow _)
      have hr4 : Rdr w4 rb (q + 1) := by
        have h1 : Below (rb + 1) (w3.alloc (.cells #[.int .i64 (1 + t)] 3)) w4 := (Below.refl _ _).grown hgrow (by have := hr3.lt; simp; omega) (fun k hk => by have := own_ge hown3 k hk; omega)
        exact hr3.alloc.below h1 (by omega)
      have hg4 : w2.grownBy w4 (some rb) := by
        have h1 : Below w2.heap.size (w3.alloc (.cells #[.int .i64 (1 + t)] 3)) w4 := (Below.refl _ _).grown hgrow (by simp; omega) (fun k hk => own_ge hown3 k hk)
        exact gb_below h1 (Nat.le_refl _) (gb_alloc hg3')
      rw [ints_snoc] at hown4
      clear hgrow hown3
      go_wp2_with fail
      go_roundw
      case rel => exact ⟨k + 1, q + 1, ls ++ [1 + t], by omega, by go_num, by simp; omega, by omega, by simpa using hown4, hr4, hg4⟩
      case measure => simp [intOf]; omega
    · obtain rfl : k = n := by omega
      go_wp2_with fail
      refine (odd_any rb q _ _ hr (by omega) (by omega)).mono ?_
      rintro e w3 ⟨b, q', rfl, -, hq3, hq4, hr3, hg3⟩
      have hown3 := kept_gb hown hg3 (by omega)
      have hg3' := gb_trans hg hg3
      have hgz3 := hg3'.size
      have hbel3 : Below w.heap.size w w3 := below_gb hg3' hbel2.size (by omega) hbel2
      clear hown hg3
      have hov3 := kept_gb HOV.out hg3' (by omega)
      cases b
      · have hrv := Rds.ofOwns hov3
        have hro := Rds.ofOwns hown3
        have hls : ls.length ≤ 12 := by omega
        rw [HN.out] at hrv
        clear hov3 hown3
        go_wp2
        go_returns
        exact ⟨_, _, ys, ls, rfl, by rw [HN.out]; exact hrv, by rw [HN.out]; exact hl, hro, hls, hbel3⟩
      · go_wp2_with (at_builtin; refine wpList_append_own _ rfl _ _ 23 rfl w2.heap.size 3 i0 (.int .i64 0) 1 8 Try.underlying23 hi hz0 hz1 hz2 rfl (by decide) _ _ _ rfl (hown3.alloc _) ⟨w3.heap.size, 0, none⟩ 1 1 [.int .i64 1] rfl rfl (by intro j u hj; rw [Addr.add_spot]; exact keep_new (by simp) (by simpa using hj)) (by intro u hu; simp at hu; subst hu; rfl) (by unfold maxLen; omega) (by omega) (by simp; omega) ?_; intro v' w4 hown4 hgrow _)
        have h1 : Below w2.heap.size (w3.alloc (.cells #[.int .i64 1] 3)) w4 := (Below.refl _ _).grown hgrow (by simp; omega) (fun k hk => own_ge hown3 k hk)
        have hg4 : w2.grownBy w4 (some rb) := gb_below h1 (Nat.le_refl _) (gb_alloc hg3')
        have hbel4 : Below w.heap.size w w4 := below_gb hg4 hbel2.size (by omega) hbel2
        have hov4 := kept_gb HOV.out hg4 (by omega)
        rw [ints_snoc] at hown4
        have hrv := Rds.ofOwns hov4
        have hro := Rds.ofOwns hown4
        have hls : (ls ++ [1]).length ≤ 12 := by simp; omega
        rw [HN.out] at hrv
        clear hov3 hown3 hgrow h1
        go_wp2_with fail
        go_returns
        exact ⟨_, _, ys, ls ++ [1], rfl, by rw [HN.out]; exact hrv, by rw [HN.out]; exact hl, by simpa using hro, hls, hbel4⟩

end Go.Proofs.Ytcacedcbboidoaa
