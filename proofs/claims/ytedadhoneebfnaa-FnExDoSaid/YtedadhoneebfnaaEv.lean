/- Contract of ExchangeValid of the program. -/
import Derived.Test.YtedadhoneebfnaaJ1
import Derived.Test.YtedadhoneebfnaaJ2
import Derived.Test.YtedadhoneebfnaaCv
import Derived.Deep.RegionHeld3
set_option linter.unusedSimpArgs false
set_option linter.unusedVariables false
namespace Go.Proofs.Ytedadhoneebfnaa
open Go.RowKit

theorem lines_wrap {O E M : Int} (h : ShapeOk O E M) : IntKind.i64.wrap (O * E) = O * E := by
 have h1 := lines_le h
 have h0 : 0 ≤ O * E := Int.mul_nonneg (by have := h.o; omega) (by have := h.e; omega)
 exact IntWalk.i64_in _ (by omega)
theorem enoughB_iff (O E M : Int) : enoughB O E M = true ↔ ShapeOk O E M ∧ E ≤ M := by
 unfold enoughB
 rw [Bool.and_eq_true, shapeB_iff, decide_eq_true_eq]
theorem ex_en {O E M : Int} {ps : List ByteArray} {cs : List Cl} (h : enoughB O E M = false) : exB O E M ps cs = false :=
 exB_no fun ok => by have := (enoughB_iff O E M).2 ⟨ok.calls.sh, ok.en⟩; rw [h] at this; cases this
theorem ex_plan {O E M : Int} {ps : List ByteArray} {cs : List Cl} (h : planB ps = false) : exB O E M ps cs = false :=
 exB_no fun ok => by have := (planB_iff ps).2 ok.plan; rw [h] at this; cases this
theorem ex_len {O E M : Int} {ps : List ByteArray} {cs : List Cl} (h : ¬ (ps.length : Int) = O * E) : exB O E M ps cs = false :=
 exB_no fun ok => h ok.len
theorem ex_calls {O E M : Int} {ps : List ByteArray} {cs : List Cl} (h : callsB O E M cs = false) : exB O E M ps cs = false :=
 exB_no fun ok => by have := (callsB_iff O E M cs).2 ok.calls; rw [h] at this; cases this

set_option maxRecDepth 100000 in
set_option maxHeartbeats 4000000 in
theorem iExchangeValid_any (O E M : Int) (vp vc : Value) (ps : List ByteArray) (cs : List Cl) (w : World) (hR : ExRd w vp vc ps cs) (hL : StLen ps) :
  Calls Try.prog 20 #[.agg #[.int .i64 O, .int .i64 E, .int .i64 M, vp, vc]] w fun e w' => e = .returned (.bool (exB O E M ps cs)) ∧ Below w.heap.size w w' := by
 obtain ⟨i0, hi, hz0, hz1, hz2⟩ := info_parts infoB8
 obtain ⟨a1, c1, rfl, hl1, hm1, hn1, hc1⟩ := hR.plan.open1
 obtain ⟨hl2, hm2, a2, c2, rfl, hn2, hc2⟩ := hR.calls
 unfold maxLen at hm1 hm2
 obtain ⟨n, hn⟩ : ∃ n, ps.length = n := ⟨_, rfl⟩
 obtain ⟨m, hm⟩ : ∃ m, cs.length = m := ⟨_, rfl⟩
 have hB := Blk.new (w := w) (cs := #[.int .i64 O, .int .i64 E, .int .i64 M, .slice a1 ps.length c1, .slice a2 cs.length c2]) (T := 33) rfl
 have hbel0 : Below w.heap.size w (w.alloc (.cells #[.int .i64 O, .int .i64 E, .int .i64 M, .slice a1 ps.length c1, .slice a2 cs.length c2] 33)) := by (exact grownA)
 have HR := Lib.hid hR
 have HL := Lib.hid hL
 rw [hn, hm] at hB hbel0 HR ⊢
 rw [hn] at hm1 hn1
 rw [hm] at hm2 hn2 hc2
 have HN := Lib.hid hn
 have HM := Lib.hid hm
 clear hn hm hl1 hl2 hR hL hc1
 obtain ⟨p0, p1, p2, p3, p4, _, _, _, _, _, plt⟩ := hB.five
 go_enter Try.func20, Try.ntmps20
 go_wp2_with fail
 refine (iEnough_any O E M _).mono ?_
 rintro e w1 ⟨rfl, hb⟩
 have hbel1 : Below w.heap.size w w1 := by (exact grownA)
 have hB1 := hB.belowAll hb
 clear hB hb hbel0 p0 p1 p2 p3 p4 plt
 obtain ⟨p0, p1, p2, p3, p4, _, _, _, _, _, plt⟩ := hB1.five
 obtain ⟨d1, hd1⟩ : ∃ d, enoughB O E M = d := ⟨_, rfl⟩
 have HD1 := Lib.hid hd1
 rw [hd1]
 clear hd1
 cases d1
 ·
  have HF := Lib.hid (ex_en (ps := ps) (cs := cs) HD1.out)
  go_wp2
  go_returns
  exact ⟨by rw [HF.out]; rfl, hbel1⟩
 ·
  have HSH := Lib.hid ((enoughB_iff O E M).1 HD1.out).1
  have hwL := lines_wrap HSH.out
  go_wp2_with fail
  refine (iPlanValid_any _ ps _ (by have := HR.out.plan.below hbel1; exact this) HL.out).mono ?_
  rintro e w2 ⟨rfl, rfl⟩
  obtain ⟨d2, hd2⟩ : ∃ d, planB ps = d := ⟨_, rfl⟩
  have HD2 := Lib.hid hd2
  rw [hd2]
  clear hd2
  cases d2
  ·
   have HF := Lib.hid (ex_plan (O := O) (E := E) (M := M) (cs := cs) HD2.out)
   go_wp2
   go_returns
   exact ⟨by rw [HF.out]; rfl, hbel1⟩
  ·
   by_cases hlen : (n : Int) = O * E
   ·
    have hq : ((n : Int) != O * E) = false := by simpa using hlen
    have HLEN := Lib.hid hlen
    clear hlen
    go_wp2_with fail
    refine (iCallsValid_any O E M _ cs _ (by have := HR.out.calls.below hbel1; exact this)).mono ?_
    rintro e w3 ⟨rfl, hb3⟩
    have hbel3 : Below w.heap.size w w3 := by (exact grownA)
    have hB3 := hB1.belowAll hb3
    clear hb3 hB1 p0 p1 p2 p3 p4 plt
    obtain ⟨p0, p1, p2, p3, p4, _, _, _, _, _, plt⟩ := hB3.five
    obtain ⟨d3, hd3⟩ : ∃ d, callsB O E M cs = d := ⟨_, rfl⟩
    have HD3 := Lib.hid hd3
    rw [hd3]
    clear hd3
    cases d3
    ·
     have HF := Lib.hid (ex_calls (ps := ps) HD3.out)
     go_wp2
     go_returns
     exact ⟨by rw [HF.out]; rfl, hbel3⟩
    ·
     have HOK := Lib.hid ((callsB_iff O E M cs).1 HD3.out)
     have hn12 : n ≤ 12 := by have h1 := lines_le HSH.out; have h2 := HLEN.out; omega
     clear hbel1
     go_wp2_with (refine wpList_make_full _ rfl _ _ 90 rfl w3.heap.size 4 i0 _ 1 Try.underlying90 hi hz0 hz1 .i64 .i64 _ _ n rfl rfl rfl rfl (by rw [hz2]; omega) (by unfold maxLen; omega) (Nat.le_refl _) ?_; intro w4 hown hgr; have hbel4 : Below w3.heap.size w3 w4 := (Below.refl w3.heap.size w3).grown hgr (Nat.le_refl _) (by intro k hk; cases hk); obtain ⟨r0, r1, r2, r3, r4, _, _, _, _, _, rlt⟩ := (hB3.belowAll hbel4).five)
     rw [bcells_zero] at hown
     obtain ⟨hO, -⟩ := Own.of hown
     clear hown hgr hB3 p0 p1 p2 p3 p4 plt r0 r1 r2 r3 r4 rlt
     obtain ⟨g, hg⟩ : ∃ g, w3.heap.size = g := ⟨_, rfl⟩
     have hbelA := hbel4
     have hgle : w.heap.size ≤ g := by have := hbel3.size; omega
     have hgl3 : w3.heap.size ≤ g := by omega
     rw [hg] at hO hbel4 ⊢
     clear hg
     go_wp2_with fail
     go_loopw [44] (fun i wr => ∃ k : Nat, k ≤ m ∧ i = .int .i64 k ∧ Hid (PartTo cs k) ∧ Own wr g n n 4 1 (bcells n (engB cs k)) ∧ Below g w3 wr) (fun i _ => m - (intOf i).toNat)
     case atStart => exact ⟨0, by omega, rfl, PartTo.zero cs, by rw [bcells_congr (g := fun _ => false) (fun i _ => engB_zero cs i)]; exact hO, hbel4⟩
     case round =>
      obtain ⟨k, hk, rfl, hpt, hown, hbel⟩ := hrel
      have hz := hbel.size
      by_cases hkn : k < m
      ·
       rcases hc2 with hc2 | ⟨b, off, rfl, hb, hc2⟩
       ·
        omega
       obtain ⟨c, hc⟩ : ∃ c, cs[k]? = some c := ⟨_, List.getElem?_eq_getElem (by rw [HM.out]; omega)⟩
       obtain ⟨g1, g2, g3⟩ := ccells_at cs k c hc
       have hbz : b < w3.heap.size := by have := hbel3.size; omega
       have hcw : ∀ i, wr.cell? ⟨b, off + i, none⟩ = w.cell? ⟨b, off + i, none⟩ := fun i => (hbel.cell (p := ⟨b, off + i, none⟩) (by show b < _; omega)).trans (hbel3.cell (p := ⟨b, off + i, none⟩) hb)
       have k1 : wr.cell? ⟨b, off + k * 3, none⟩ = some (.int .i64 c.1) := by rw [hcw, hc2 _ (by omega), g1]
       have k2 : wr.cell? ⟨b, off + k * 3 + 1, none⟩ = some (.int .i64 c.2.1) := by rw [Nat.add_assoc, hcw, hc2 _ (by omega), g2]
       have k3 : wr.cell? ⟨b, off + k * 3 + 2, none⟩ = some (.int .i64 c.2.2) := by rw [Nat.add_assoc, hcw, hc2 _ (by omega), g3]
       have HC := Lib.hid hc
       have hat := HOK.out.at' k c hc
       have hle := HLEN.out
       obtain ⟨x, y, v⟩ := c
       simp only at k1 k2 k3 hat
       obtain ⟨x, rfl⟩ := Int.eq_ofNat_of_zero_le hat.1.1
       obtain ⟨y, rfl⟩ := Int.eq_ofNat_of_zero_le hat.2.1.1
       have hxn : x < n := by omega
       have hyn : y < n := by omega
       have q1 := hown.cell x (by omega)
       rw [bcells_at _ hxn] at q1
       have q2 := hown.cell y (by omega)
       rw [bcells_at _ hyn] at q2
       have f1 := hown.free x
       have f2 := hown.free y
       have hglt := hown.lt
       obtain ⟨b1, hb1⟩ : ∃ b, engB cs k (x : Nat) = b := ⟨_, rfl⟩
       obtain ⟨b2, hb2⟩ : ∃ b, engB cs k (y : Nat) = b := ⟨_, rfl⟩
       rw [hb1] at q1
       rw [hb2] at q2
       have HB1 := Lib.hid hb1
       have HB2 := Lib.hid hb2
       have HA := Lib.hid hle
       clear hc g1 g2 g3 hcw hc2 hat hb1 hb2 hle
       have i1 : (0 : Int) ≤ (x : Int) := by omega
       have i2 : (x : Int) < (n : Int) := by omega
       have i3 : (0 : Int) ≤ (y : Int) := by omega
       have i4 : (y : Int) < (n : Int) := by omega
       have hbelF : Below w.heap.size w wr := hbel3.trans (Below.mono hbel hgle)
       have hzF := hbelF.size
       by_cases hxy : x = y
       ·
        have HF := Lib.hid (part_no (O := O) (E := E) (M := M) (ps := ps) (List.mem_of_getElem? HC.out) (List.mem_of_getElem? HC.out) (by simp only; rw [hxy]))
        subst hxy
        have hq2 : ((x : Int) == (x : Int)) = true := by simp
        go_wp2
        go_returns
        exact ⟨by rw [HF.out]; rfl, by (exact grownA)⟩
       ·
        have hq2 : ((x : Int) == (y : Int)) = false := by simp; omega
        cases b1
        ·
         cases b2
         ·
          have hHST : ∀ i : Nat, i < n → engB cs (k + 1) i = ((engB cs k i || decide ((x : Int) = i)) || decide ((y : Int) = i)) := by
           intro i _; rw [engB_succ HC.out]; simp [Bool.or_assoc]
          have HST := Lib.hid hHST
          have HPT := Lib.hid (hpt.out.step HC.out (by simp only; omega) HB1.out HB2.out)
          have hxy1 : ¬ (x : Int) = (y : Int) := by omega
          have hxy2 : ¬ y = x := by omega
          clear hHST
          have hcA := Blk.new (w := wr) (cs := #[.int .i64 (x : Nat), .int .i64 (y : Nat), .int .i64 v]) (T := 57) rfl
          obtain ⟨t1, t2, t3, _, _, _, tlt⟩ := hcA.three
          have hg2 : g ≠ wr.heap.size := by omega
          have q3 := keep_alloc (o := .cells #[.int .i64 (x : Nat), .int .i64 (y : Nat), .int .i64 v] 57) q1
          have q4 := keep_alloc (o := .cells #[.int .i64 (x : Nat), .int .i64 (y : Nat), .int .i64 v] 57) q2
          have hOA := hown.alloc (o := .cells #[.int .i64 (x : Nat), .int .i64 (y : Nat), .int .i64 v] 57)
          have f3 := hOA.free x
          have f4 := hOA.free y
          have hB2 : Below g w3 (wr.alloc (.cells #[.int .i64 (x : Nat), .int .i64 (y : Nat), .int .i64 v] 57)) := hbel.alloc (by omega) _
          go_wp2_with fail
          clear k1 k2 k3 hbelF
          refine wp_region_held_drew (S := fun w' => w'.cell? ⟨wr.heap.size, 0, none⟩ = some (.int .i64 (x : Nat)) ∧ w'.cell? ⟨wr.heap.size, 1, none⟩ = some (.int .i64 (y : Nat))) (by kernel_rfl) (by (try dsimp only); (exact keepA)) (fun hHeld => ?_)
          refine take_y 0 67 (v := ?_) rfl ?_ ?_; rotate_left; focus (intro w hSw; (try dsimp only at hSw); go_simp; (try rw [if_neg (by omega)]); (try with_reducible rfl))
          try simp only [Act.put, zp1, zp2, zp3]
          refine take_y 1 68 (v := ?_) rfl ?_ ?_; rotate_left; focus (intro w hSw; (try dsimp only at hSw); go_simp; (try rw [if_neg (by omega)]); (try with_reducible rfl))
          try simp only [Act.put, zp1, zp2, zp3]
          refine take_y 2 69 (v := ?_) rfl ?_ ?_; rotate_left; focus (intro w hSw; (try dsimp only at hSw); go_simp; (try rw [if_neg (by omega)]); (try with_reducible rfl))
          try simp only [Act.put, zp1, zp2, zp3]
          refine take_y 3 70 (v := ?_) rfl ?_ ?_; rotate_left; focus (intro w hSw; (try dsimp only at hSw); go_simp; (try rw [if_neg (by omega)]); (try with_reducible rfl))
          try simp only [Act.put, zp1, zp2, zp3]
          refine take_y 4 71 (v := ?_) rfl ?_ ?_; rotate_left; focus (intro w hSw; (try dsimp only at hSw); go_simp; (try rw [if_neg (by omega)]); (try with_reducible rfl))
          try simp only [Act.put, zp1, zp2, zp3]
          refine take_y 5 72 (v := ?_) rfl ?_ ?_; rotate_left; focus (intro w hSw; (try dsimp only at hSw); go_simp; (try rw [if_neg (by omega)]); (try with_reducible rfl))
          try simp only [Act.put, zp1, zp2, zp3]
          refine take_y 6 73 (v := ?_) rfl ?_ ?_; rotate_left; focus (intro w hSw; (try dsimp only at hSw); go_simp; (try rw [if_neg (by omega)]); (try with_reducible rfl))
          try simp only [Act.put, zp1, zp2, zp3]
          refine wpAnyH_ready (rs := [7]) (by kernel_rfl) (by simp) ?_
          refine AllReadyH.cons rfl (fun K hK => ?_) AllReadyH.nil
          go_simp
          refine hK.out _ _ againA (fun hHeld2 => ?_); clear hHeld hK K; have hHeld := hHeld2; clear hHeld2; (try simp only [Act.put, zp1, zp2, zp3])
          refine take_y 8 74 (v := ?_) rfl ?_ ?_; rotate_left; focus (intro w hSw; (try dsimp only at hSw); go_simp; (try rw [if_neg (by omega)]); (try with_reducible rfl))
          try simp only [Act.put, zp1, zp2, zp3]
          refine wpAnyH_ready (rs := [9]) (by kernel_rfl) (by simp) ?_
          refine AllReadyH.cons rfl (fun K hK => ?_) AllReadyH.nil
          go_simp
          refine hK.out _ _ againA (fun hHeld2 => ?_); clear hHeld hK K; have hHeld := hHeld2; clear hHeld2; (try simp only [Act.put, zp1, zp2, zp3])
          refine wpAnyH_done (by kernel_rfl) ?_ _
          clear hHeld
          go_wp2_with fail
          go_roundw
          case rel =>
           refine ⟨k + 1, by omega, by go_num, HPT.out, ?_, by (exact grownA)⟩
           rw [bcells_congr (g := fun i => (engB cs k i || decide ((x : Int) = i)) || decide ((y : Int) = i)) HST.out, ← bcells_set (fun i => engB cs k i || decide ((x : Int) = i)) hyn, ← bcells_set (engB cs k) hxn]
           (exact ownA)
          case measure => simp [intOf]; omega
         ·
          have HF := Lib.hid (eng_no (O := O) (E := E) (M := M) (ps := ps) HOK.out HC.out (.inr HB2.out))
          go_wp2
          go_returns
          exact ⟨by rw [HF.out]; rfl, by (exact grownA)⟩
        ·
         have HF := Lib.hid (eng_no (O := O) (E := E) (M := M) (ps := ps) HOK.out HC.out (.inl HB1.out))
         go_wp2
         go_returns
         exact ⟨by rw [HF.out]; rfl, by (exact grownA)⟩
      ·
       obtain rfl : k = m := by omega
       have HF : Hid (exB O E M ps cs = true) := (exB_iff _ _ _ _ _).2 ⟨HOK.out, ((enoughB_iff O E M).1 HD1.out).2, (planB_iff ps).1 HD2.out, by rw [HN.out]; exact HLEN.out, PartTo.all (by rw [HM.out]; exact hpt.out)⟩
       have hbelF : Below w.heap.size w wr := hbel3.trans (Below.mono hbel hgle)
       go_wp2
       go_returns
       exact ⟨by rw [HF.out]; rfl, hbelF⟩
   ·
    have HF := Lib.hid (ex_len (E := E) (O := O) (M := M) (ps := ps) (cs := cs) (by rw [HN.out]; exact hlen))
    have hq : ((n : Int) != O * E) = true := by simpa using hlen
    go_wp2
    go_returns
    exact ⟨by rw [HF.out]; rfl, hbel1⟩

end Go.Proofs.Ytedadhoneebfnaa
