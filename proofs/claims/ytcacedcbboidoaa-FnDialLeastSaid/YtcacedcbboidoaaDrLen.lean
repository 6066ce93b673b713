/- The draw of lengths: l20Lengths, DrawShareSum, DrawPlanFor. -/
import Derived.Test.YtcacedcbboidoaaNum
import Derived.Test.YtcacedcbboidoaaRd
set_option linter.unusedSimpArgs false
set_option linter.unusedVariables false
namespace Go.Proofs.Ytcacedcbboidoaa
open Go.RowKit

theorem infoI : (Try.prog.info? 3).map (fun i => (i.zero, i.size, i.bytes)) = some (some (.int .i64 0), 1, 8) := by kernel_rfl

/-- What l20Lengths leaves. -/
def LensPost (rb p : Nat) (w : World) (e : Ending) (w' : World) : Prop :=
  ∃ (v : Value) (zs : List Int) (q : Nat), e = .returned v ∧ w'.ownsRow w.heap.size 3 1 v zs.length (ints zs) ∧ zs.length ≤ 11 ∧ (∀ z ∈ zs, 0 ≤ z ∧ z ≤ 4) ∧ p ≤ q ∧ q ≤ p + 30 ∧ Rdr w' rb q ∧ w.grownBy w' (some rb)

theorem ints_snoc (zs : List Int) (z : Int) : ints zs ++ [.int .i64 z] = ints (zs ++ [z]) := by simp [ints]

set_option maxHeartbeats 2000000 in
theorem l20Lengths_any (rb p : Nat) (n : Int) (w : World) (h : Rdr w rb p) (hp : p ≤ 1000000) (hn : n ≤ 1000000000) :
    Calls Try.prog 75 #[.pointer (some ⟨rb, 0, none⟩), .int .i64 n] w (LensPost rb p w) := by
  obtain ⟨i0, hi, hz0, hz1, hz2⟩ := info_parts infoI
  have hmk : ∀ w : World, (Instr.makeSlice 23 (.int .i64 11) (.int .i64 11)).run Try.prog w = .ok (.slice (some ⟨w.heap.size, 0, none⟩) 11 11) (w.alloc (.cells #[.int .i64 0, .int .i64 0, .int .i64 0, .int .i64 0, .int .i64 0, .int .i64 0, .int .i64 0, .int .i64 0, .int .i64 0, .int .i64 0, .int .i64 0] 3)) := fun _ => by kernel_rfl
  have hlt := h.lt
  go_enter Try.func75, Try.ntmps75
  go_wp2_with fail
  refine (pick_any rb p _ _ h.alloc (by omega) (by omega)).mono ?_
  rintro e w1 ⟨x, rfl, hx0, hx1, hr1, hg1⟩
  have hx : x ≤ 10 := by omega
  have hg1' : w.grownBy w1 (some rb) := gb_trans (gb_alloc (World.grownBy.refl _ _)) hg1
  have hz1' := hg1.size
  have ho1 : w1.ownsRow w.heap.size 3 1 (.slice (some ⟨w.heap.size, 0, none⟩) 0 0) 0 (ints []) :=
    (World.ownsRow_lit (base := w.heap.size) (e := 3) (size := 1) w #[] 0 (Nat.le_refl _) (by unfold maxLen; omega) rfl).kept hg1 (.inr (by simp [Value.ownBlock]; omega))
  simp only [World.size_alloc] at hz1'
  clear hx1 hg1
  go_wp2_with fail
  go_loopw [5, 6] (fun v k wr => ∃ (j q : Nat) (zs : List Int), j ≤ 10 ∧ k = .int .i64 j ∧ j + zs.length ≤ 10 ∧ q + j ≤ p + 1 + 10 ∧ p ≤ q ∧ Hid (∀ z ∈ zs, 0 ≤ z ∧ z ≤ 4) ∧ wr.ownsRow w.heap.size 3 1 v zs.length (ints zs) ∧ Rdr wr rb q ∧ w.grownBy wr (some rb)) (fun _ k _ => (intOf k).toNat)
  case atStart => exact ⟨x.toNat, p + 1, [], by omega, by go_num, by simp; omega, by omega, by omega, fun z hz => absurd hz (by simp), ho1, hr1, hg1'⟩
  case round =>
    obtain ⟨j, q, zs', hj, rfl, hjl, hq1, hq2, hzs, hown, hr, hg⟩ := hrel
    have hgz := hg.size
    by_cases hj0 : 0 < j
    · have hrlt := hr.lt
      go_wp2_with fail
      refine (pick_any rb q _ _ hr.alloc (by omega) (by omega)).mono ?_
      rintro e w2 ⟨y, rfl, hy0, hy1, hr2, hg2⟩
      have hy : y < 6 := by omega
      have hC := Blk.gb hg2 (b := wr.heap.size) (by omega) (Blk.new rfl)
      have hcell := hC.at y.toNat
      obtain ⟨z, hz, z1, z2⟩ : ∃ z : Int, w2.cell? ⟨wr.heap.size, y.toNat, none⟩ = some (.int .i64 z) ∧ 0 ≤ z ∧ z ≤ 4 := by
        have : y = 0 ∨ y = 1 ∨ y = 2 ∨ y = 3 ∨ y = 4 ∨ y = 5 := by omega
        rcases this with rfl | rfl | rfl | rfl | rfl | rfl <;> exact ⟨_, hcell, by omega, by omega⟩
      have hg2' : w.grownBy w2 (some rb) := gb_trans (gb_alloc hg) hg2
      have hown2 : w2.ownsRow w.heap.size 3 1 _ zs'.length (ints zs') := (hown.alloc _).kept hg2 (by
        cases hv : Value.ownBlock _ with
        | none => exact .inl rfl
        | some k => exact .inr (by have := own_ge hown k hv; simp; omega))
      have hgz2 := hg2'.size
      clear hcell hC hown hy1 hg2
      go_wp2_with (at_builtin; refine wpList_append_own _ rfl _ _ 23 rfl w.heap.size 3 i0 (.int .i64 0) 1 8 Try.underlying23 hi hz0 hz1 hz2 rfl (by decide) _ _ _ rfl (hown2.alloc _) ⟨w2.heap.size, 0, none⟩ 1 1 [.int .i64 z] rfl rfl (cell_one_new _ _ _) (by intro u hu; simp at hu; subst hu; rfl) (by unfold maxLen; omega) (by omega) (by simp; omega) ?_; intro v' w3 hown3 hgrow _)
      have hr3 : Rdr w3 rb (q + 1) := by
        have h1 : Below (rb + 1) (w2.alloc (.cells #[.int .i64 z] 3)) w3 := (Below.refl _ _).grown hgrow (by have := hr2.lt; simp; omega) (fun k hk => by have := own_ge hown2 k hk; omega)
        exact hr2.alloc.below h1 (by omega)
      have hg3 : w.grownBy w3 (some rb) := by
        have h1 : Below w.heap.size (w2.alloc (.cells #[.int .i64 z] 3)) w3 := (Below.refl _ _).grown hgrow (by simp; omega) (fun k hk => own_ge hown2 k hk)
        exact gb_below h1 (Nat.le_refl _) (gb_alloc hg2')
      rw [ints_snoc] at hown3
      clear hgrow hown2
      go_roundw
      case rel =>
        refine ⟨j - 1, q + 1, zs' ++ [z], by omega, by go_num, by simp; omega, by omega, by omega, ?_, by simpa using hown3, hr3, hg3⟩
        intro u hu
        rcases List.mem_append.1 hu with hu | hu
        · exact hzs.out u hu
        · simp at hu; omega
      case measure => simp [intOf]; omega
    · obtain rfl : j = 0 := by omega
      go_wp2_with fail
      refine (odd_any rb q _ _ hr (by omega) hn).mono ?_
      rintro e w2 ⟨b, q', rfl, -, hq3, hq4, hr2, hg2⟩
      have hown2 := hown.kept hg2 (by
        cases hv : Value.ownBlock _ with
        | none => exact .inl rfl
        | some k => exact .inr (by have := own_ge hown k hv; simp; omega))
      have hg2' := gb_trans hg hg2
      clear hown hg2
      cases b
      · go_wp2
        go_returns
        exact ⟨_, zs', q', rfl, hown2, by omega, hzs.out, by omega, by omega, hr2, hg2'⟩
      · go_wp2_with fail
        refine (pick_any rb q' _ _ hr2 (by omega) (by omega)).mono ?_
        rintro e w3 ⟨y, rfl, hy0, hy1, hr3, hg3⟩
        have hown3 := hown2.kept hg3 (by
          cases hv : Value.ownBlock _ with
          | none => exact .inl rfl
          | some k => exact .inr (by have := own_ge hown2 k hv; simp; omega))
        have hg3' := gb_trans hg2' hg3
        have hgz3 := hg3'.size
        have hrlt := hr3.lt
        clear hown2 hg3
        by_cases hyz : y = 0
        · have hyb : (y == 0) = true := by simp [hyz]
          clear hyz
          go_wp2_with fail
          refine (pick_any rb (q' + 1) _ _ hr3.alloc (by omega) (by omega)).mono ?_
          rintro e w4 ⟨y2, rfl, hy20, hy21, hr4, hg4⟩
          have hC := Blk.gb hg4 (b := w3.heap.size) (by omega) (Blk.new rfl)
          have hcell := hC.at y2.toNat
          obtain ⟨z, hz, z1, z2⟩ : ∃ z : Int, w4.cell? ⟨w3.heap.size, y2.toNat, none⟩ = some (.int .i64 z) ∧ 0 ≤ z ∧ z ≤ 4 := by
            have : y2 = 0 ∨ y2 = 1 := by omega
            rcases this with rfl | rfl <;> exact ⟨_, hcell, by omega, by omega⟩
          have hy2 : y2 < 2 := by omega
          have hg4' : w.grownBy w4 (some rb) := gb_trans (gb_alloc hg3') hg4
          have hown4 : w4.ownsRow w.heap.size 3 1 _ zs'.length (ints zs') := (hown3.alloc _).kept hg4 (by
            cases hv : Value.ownBlock _ with
            | none => exact .inl rfl
            | some k => exact .inr (by have := own_ge hown3 k hv; simp; omega))
          have hgz4 := hg4'.size
          clear hcell hC hown3 hy21 hg4
          go_wp2_with (at_builtin; refine wpList_append_own _ rfl _ _ 23 rfl w.heap.size 3 i0 (.int .i64 0) 1 8 Try.underlying23 hi hz0 hz1 hz2 rfl (by decide) _ _ _ rfl (hown4.alloc _) ⟨w4.heap.size, 0, none⟩ 1 1 [.int .i64 z] rfl rfl (cell_one_new _ _ _) (by intro u hu; simp at hu; subst hu; rfl) (by unfold maxLen; omega) (by omega) (by simp; omega) ?_; intro v' w5 hown5 hgrow _)
          have hr5 : Rdr w5 rb (q' + 2) := by
            have h1 : Below (rb + 1) (w4.alloc (.cells #[.int .i64 z] 3)) w5 := (Below.refl _ _).grown hgrow (by have := hr4.lt; simp; omega) (fun k hk => by have := own_ge hown4 k hk; omega)
            exact hr4.alloc.below h1 (by omega)
          have hg5 : w.grownBy w5 (some rb) := by
            have h1 : Below w.heap.size (w4.alloc (.cells #[.int .i64 z] 3)) w5 := (Below.refl _ _).grown hgrow (by simp; omega) (fun k hk => own_ge hown4 k hk)
            exact gb_below h1 (Nat.le_refl _) (gb_alloc hg4')
          rw [ints_snoc] at hown5
          clear hgrow hown4
          go_returns
          refine ⟨_, zs' ++ [z], q' + 2, rfl, by simpa using hown5, by simp; omega, ?_, by omega, by omega, hr5, hg5⟩
          intro u hu
          rcases List.mem_append.1 hu with hu | hu
          · exact hzs.out u hu
          · simp at hu; omega
        · have hyb : (y == 0) = false := by simpa using hyz
          clear hyz
          go_wp2
          go_returns
          refine ⟨_, List.replicate 11 0, q' + 1, rfl, ?_, by simp, by intro z hz; simp at hz; omega, by omega, by omega, hr3.alloc, gb_alloc hg3'⟩
          exact World.ownsRow_lit (base := w.heap.size) (e := 3) (size := 1) w3 _ 11 (by omega) (by unfold maxLen; omega) rfl

set_option maxHeartbeats 400000 in
theorem DrawShareSum_any (a : Option Addr) (len cap : Nat) (zs : List Int) (w : World) (h : Code w a len cap zs) :
    Calls Try.prog 20 #[.slice a len cap] w fun e w' => ∃ (v : Value) (ys : List Int), e = .returned v ∧ w'.ownsRow w.heap.size 3 1 v ys.length (ints ys) ∧ ys.length ≤ 11 ∧ (∀ z ∈ ys, 0 ≤ z ∧ z ≤ 4) ∧ Below w.heap.size w w' := by
  go_enter Try.func20, Try.ntmps20
  go_wp2_with fail
  refine (open_any _ _ _ _ _ h).mono ?_
  rintro e w1 ⟨rb, rfl, hrb, hr, hb⟩
  go_wp2_with fail
  refine (l20Lengths_any rb 0 _ _ hr (by omega) (by omega)).mono ?_
  rintro e w2 ⟨v, ys, q, rfl, h1, h2, h3, h4, h5, hr2, hg2⟩
  go_wp2
  go_returns
  exact ⟨v, ys, rfl, owns_base hb.size h1, h2, h3, below_gb hg2 hb.size hrb hb⟩
set_option maxHeartbeats 400000 in
theorem DrawPlanFor_any (a : Option Addr) (len cap : Nat) (zs : List Int) (w : World) (h : Code w a len cap zs) :
    Calls Try.prog 52 #[.slice a len cap] w fun e w' => ∃ (v : Value) (ys : List Int), e = .returned v ∧ w'.ownsRow w.heap.size 3 1 v ys.length (ints ys) ∧ ys.length ≤ 11 ∧ (∀ z ∈ ys, 0 ≤ z ∧ z ≤ 4) ∧ Below w.heap.size w w' := by
  go_enter Try.func52, Try.ntmps52
  go_wp2_with fail
  refine (open_any _ _ _ _ _ h).mono ?_
  rintro e w1 ⟨rb, rfl, hrb, hr, hb⟩
  go_wp2_with fail
  refine (l20Lengths_any rb 0 _ _ hr (by omega) (by omega)).mono ?_
  rintro e w2 ⟨v, ys, q, rfl, h1, h2, h3, h4, h5, hr2, hg2⟩
  go_wp2
  go_returns
  exact ⟨v, ys, rfl, owns_base hb.size h1, h2, h3, below_gb hg2 hb.size hrb hb⟩

end Go.Proofs.Ytcacedcbboidoaa
