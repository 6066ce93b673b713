/- Contracts of slices.Clone, slices.Grow (of nil), slices.Concat (of two) at routes. -/
import Derived.Test.YtcacedcbboidoaaDrTab
import Derived.Test.YtcacedcbboidoaaStep
import Derived.Lib.AppendZeros
import Derived.Lib.SliceRun
set_option linter.unusedSimpArgs false
set_option linter.unusedVariables false
namespace Go.Proofs.Ytcacedcbboidoaa
open Go.RowKit

/-- A list made anew. -/
def RtOut (rs : List Rt) (w : World) (e : Ending) (w' : World) : Prop := ∃ v, e = .returned v ∧ w'.ownsRow w.heap.size 32 2 v rs.length (rcells rs) ∧ Below w.heap.size w w'

set_option maxRecDepth 100000 in
set_option maxHeartbeats 400000 in
theorem cloneRt_any (v : Value) (rs : List Rt) (w : World) (hv : Rds w v rs.length 2 (rcells rs)) (hn : v = .slice none 0 0 ∨ ∃ b off c, v = .slice (some ⟨b, off, none⟩) rs.length c) (hl : rs.length ≤ 100000) :
    Calls Try.prog 96 #[v] w (RtOut rs w) := by
  obtain ⟨i0, hi, hz0, hz1, hz2⟩ := info_parts infoR
  have heq : ∀ (w : World) (a : Option Addr) (n c : Nat), (binOp .eql 28 (.slice a n c) (.slice none 0 0)).run Try.prog w = .ok (.bool a.isNone) w := fun w a n c => Lib.run_eql_slice_nil w _ 32 a n c 0 0 Try.underlying28
  rcases hn with rfl | ⟨b, off, c, rfl⟩
  · have h0 : rs = [] := by
      obtain ⟨_, _, a, cap, h, _⟩ := hv
      have := congrArg (fun v => match v with | Value.slice _ n _ => n | _ => 0) h
      simp only at this
      exact List.length_eq_zero_iff.1 this.symm
    subst h0
    clear hv
    go_enter Try.func96, Try.ntmps96
    go_wp2
    go_returns
    exact ⟨_, rfl, World.ownsRow_nil _ _ _ _, Below.refl _ _⟩
  · obtain ⟨hl1, hm1, a, cap, hvv, hn1, hc1⟩ := hv
    cases hvv
    obtain ⟨n, hn⟩ : ∃ n, rs.length = n := ⟨_, rfl⟩
    have HN := Lib.hid hn
    rw [hn] at hl hl1 hm1 hn1 hc1 ⊢
    have HC : Hid (∀ j u, (rcells rs)[j]? = some u → w.cell? ⟨b, off + j, none⟩ = some u ∧ b < w.heap.size) := by
      intro j u hu
      have hj : j < n * 2 := by have := (List.getElem?_eq_some_iff.1 hu).1; omega
      rcases hc1 with h | ⟨b', off', hb, hlt, h⟩
      · omega
      · cases hb; exact ⟨(h j hj).trans hu, hlt⟩
    have HL1 := Lib.hid hl1
    clear hl1 hc1 hn
    go_enter Try.func96, Try.ntmps96
    go_wp2_with (at_builtin; refine wpList_append_own _ rfl _ _ 28 rfl w.heap.size 32 i0 _ 2 24 Try.underlying28 hi hz0 hz1 hz2 rfl (by decide) _ 0 [] rfl (World.ownsRow_lit _ #[] 0 (Nat.le_refl _) (by unfold maxLen; omega) rfl) ⟨b, off, none⟩ n _ (rcells rs) rfl HL1.out (by intro j u hu; rw [Addr.add_spot]; exact keep_alloc (HC.out j u hu).1) (rcells_one rs) (by unfold maxLen; omega) (by omega) (by simp) ?_; intro v' w3 hown' hgrow _)
    simp only [Nat.zero_add, List.nil_append] at hown'
    have hB : Below w.heap.size w w3 := ((Below.refl w.heap.size w).alloc (Nat.le_refl _) _).grown hgrow (by simp) (by intro k hk; have e : w.heap.size = k := Option.some.inj hk; omega)
    clear hgrow
    go_returns
    exact ⟨_, rfl, by rw [HN.out]; exact hown', hB⟩

set_option maxRecDepth 100000 in
set_option maxHeartbeats 400000 in
theorem growRt_nil (n : Nat) (w : World) (hn : n ≤ 100000) :
    Calls Try.prog 106 #[.slice none 0 0, .int .i64 n] w (RtOut [] w) := by
  obtain ⟨i0, hi, hz0, hz1, hz2⟩ := info_parts infoR
  by_cases h0 : n = 0
  · subst h0
    go_enter Try.func106, Try.ntmps106
    go_wp2
    go_returns
    exact ⟨_, rfl, World.ownsRow_nil _ _ _ _, Below.refl _ _⟩
  · have hpos : 0 < n := by omega
    have hcap := grownCap_ge w n 0 32
    have hcap2 := grownCap_le_maxLen w n 0 32 (by unfold maxLen; omega)
    obtain ⟨c, hc⟩ : ∃ c, grownCap w n 0 32 = c := ⟨_, rfl⟩
    have hrun := Lib.run_append_nil_zeros (P := Try.prog) w 28 3 28 32 i0 _ .i64 .i64 Try.underlying28 Try.underlying3 hi hz0 n hpos (by rw [hz1]; decide) (by omega) (by rw [hz2]; omega)
    rw [hc] at hrun hcap hcap2
    have hcap3 : c ≤ 9223372036854775807 := by unfold maxLen at hcap2; omega
    have HRUN := Lib.hid hrun
    clear h0 hrun hc
    go_enter Try.func106, Try.ntmps106
    go_wp2_with (at_builtin; refine Lib.wpList_append_run _ rfl _ _ _ _ rfl _ _ rfl rfl _ _ HRUN.out ?_)
    go_returns
    refine ⟨_, rfl, ?_, ?_⟩
    · refine (Own.ofBlk (g := w.heap.size) (n := 0) (cap := c) (E := 32) (size := 2) (xs := []) (cur := Builtin.zeroCells (Value.agg #[.string ByteArray.empty, .int .i64 0]).cells n ++ Builtin.zeroCells (Value.agg #[.string ByteArray.empty, .int .i64 0]).cells (c - n)) rfl ?_ (Nat.zero_le _) hcap2 ?_ rfl).back (Nat.le_refl _)
      · exact Blk.new (w := w.drew) rfl
      · rw [Array.size_append, size_zeroCells, size_zeroCells]
        simp [Value.cells]
        omega
    · exact ((Below.refl w.heap.size w).drew).alloc (by simp) _

set_option maxRecDepth 100000 in
set_option maxHeartbeats 1000000 in
/-- The two slices lie in block b, side by side. -/
theorem concatRt_two (b cap : Nat) (b1 o1 c1 b2 o2 c2 : Nat) (xs ys : List Rt) (w : World)
    (hB : Blk w b #[.slice (some ⟨b1, o1, none⟩) xs.length c1, .slice (some ⟨b2, o2, none⟩) ys.length c2] 28)
    (hx : Rds w (.slice (some ⟨b1, o1, none⟩) xs.length c1) xs.length 2 (rcells xs)) (hy : Rds w (.slice (some ⟨b2, o2, none⟩) ys.length c2) ys.length 2 (rcells ys)) (hl : xs.length ≤ 10000) (hl2 : ys.length ≤ 10000) :
    Calls Try.prog 97 #[.slice (some ⟨b, 0, none⟩) 2 2] w (RtOut (xs ++ ys) w) := by
  obtain ⟨i0, hi, hz0, hz1, hz2⟩ := info_parts infoR
  obtain ⟨k0, k1, f0, f1, lb⟩ := hB.two
  have cells : ∀ (b1 o1 c1 : Nat) (xs : List Rt), Rds w (.slice (some ⟨b1, o1, none⟩) xs.length c1) xs.length 2 (rcells xs) → ∀ j u, (rcells xs)[j]? = some u → w.cell? ⟨b1, o1 + j, none⟩ = some u := by
    intro b1 o1 c1 xs hx j u hu
    obtain ⟨hl1, _, a, cap, hvv, _, hc1⟩ := hx
    cases hvv
    have hj : j < xs.length * 2 := by have := (List.getElem?_eq_some_iff.1 hu).1; omega
    rcases hc1 with h | ⟨b', off', hb, hlt, h⟩
    · omega
    · cases hb; exact (h j hj).trans hu
  have HX := Lib.hid (cells _ _ _ _ hx)
  have HY := Lib.hid (cells _ _ _ _ hy)
  have HLX := Lib.hid hx.1
  have HLY := Lib.hid hy.1
  obtain ⟨n, hn⟩ : ∃ n, xs.length = n := ⟨_, rfl⟩
  obtain ⟨m, hm⟩ : ∃ m, ys.length = m := ⟨_, rfl⟩
  have HN := Lib.hid hn
  have HM := Lib.hid hm
  rw [hn] at k0 hl
  rw [hm] at k1 hl2
  rw [hn] at HLX
  rw [hm] at HLY
  clear cells hx hy hB hn hm
  go_enter Try.func97, Try.ntmps97
  go_wp2_with fail
  go_loop [3, 11] (fun sz i => (sz = .int .i64 0 ∧ i = .int .i64 0) ∨ (sz = .int .i64 n ∧ i = .int .i64 1) ∨ (sz = .int .i64 (n + m : Nat) ∧ i = .int .i64 2)) (fun _ i => 2 - (intOf i).toNat)
  case atStart => exact .inl ⟨rfl, rfl⟩
  case round =>
    rcases hrel with ⟨rfl, rfl⟩ | ⟨rfl, rfl⟩ | ⟨rfl, rfl⟩
    · go_wp2_with fail
      go_round
      case rel => exact .inr (.inl ⟨by simp, rfl⟩)
      case measure => simp [intOf]
    · go_wp2_with fail
      go_round
      case rel => exact .inr (.inr ⟨by simp, rfl⟩)
      case measure => simp [intOf]
    · go_wp2_with fail
      refine (growRt_nil (n + m) _ (by omega)).mono ?_
      rintro e w1 ⟨v1, rfl, ho1, hb1⟩
      have hz1' := hb1.size
      have hbel1 := hb1
      have HB1 := Lib.hid hb1
      clear hb1
      go_wp2_with fail
      go_loopw [6, 27] (fun v i wr => ∃ (k : Nat) (zs : List Rt), i = .int .i64 k ∧ (k = 0 ∧ zs = [] ∨ k = 1 ∧ zs = xs ∨ k = 2 ∧ zs = xs ++ ys) ∧ wr.ownsRow w.heap.size 32 2 v zs.length (rcells zs) ∧ Below w.heap.size w wr) (fun _ i _ => 2 - (intOf i).toNat)
      case atStart => exact ⟨0, [], rfl, .inl ⟨rfl, rfl⟩, ho1, hbel1⟩
      case round =>
        obtain ⟨k, zs, rfl, hk, hown, hbel⟩ := hrel
        have hz := hbel.size
        rcases hk with ⟨rfl, rfl⟩ | ⟨rfl, rfl⟩ | ⟨rfl, rfl⟩
        · have q0 : wr.cell? ⟨b, 0, none⟩ = some (.slice (some ⟨b1, o1, none⟩) n c1) := by rw [hbel.cell (p := ⟨b, 0, none⟩) lb]; exact k0
          go_wp2_with (at_builtin; refine wpList_append_own _ rfl _ _ 28 rfl w.heap.size 32 i0 _ 2 24 Try.underlying28 hi hz0 hz1 hz2 rfl (by decide) _ _ _ rfl hown ⟨b1, o1, none⟩ n _ (rcells xs) rfl HLX.out (by intro j u hu; rw [Addr.add_spot]; exact keep_below hbel (HX.out j u hu)) (rcells_one xs) (by unfold maxLen; simp; omega) (by simp; omega) hz ?_; intro v' w3 hown' hgrow _)
          have hbel3 : Below w.heap.size w w3 := hbel.grown hgrow hz (own_ge hown)
          clear hgrow hown
          go_roundw
          case rel => exact ⟨1, xs, rfl, .inr (.inl ⟨rfl, rfl⟩), by rw [HN.out]; simpa [rcells] using hown', hbel3⟩
          case measure => simp [intOf]
        · have q1 : wr.cell? ⟨b, 1, none⟩ = some (.slice (some ⟨b2, o2, none⟩) m c2) := by rw [hbel.cell (p := ⟨b, 1, none⟩) lb]; exact k1
          rw [HN.out] at hown
          go_wp2_with (at_builtin; refine wpList_append_own _ rfl _ _ 28 rfl w.heap.size 32 i0 _ 2 24 Try.underlying28 hi hz0 hz1 hz2 rfl (by decide) _ _ _ rfl hown ⟨b2, o2, none⟩ m _ (rcells ys) rfl HLY.out (by intro j u hu; rw [Addr.add_spot]; exact keep_below hbel (HY.out j u hu)) (rcells_one ys) (by unfold maxLen; omega) (by omega) hz ?_; intro v' w3 hown' hgrow _)
          have hbel3 : Below w.heap.size w w3 := hbel.grown hgrow hz (own_ge hown)
          clear hgrow hown
          go_roundw
          case rel => exact ⟨2, _, rfl, .inr (.inr ⟨rfl, rfl⟩), by rw [List.length_append, HN.out, HM.out]; simpa [rcells, List.flatMap_append] using hown', hbel3⟩
          case measure => simp [intOf]
        · go_wp2
          go_returns
          exact ⟨_, rfl, hown, hbel⟩

end Go.Proofs.Ytcacedcbboidoaa
