/- The walk of the law of ExchangeValid (printed by gen_ax.py). -/
import Derived.Test.YtedadhoneebfnaaDwb
import Derived.Test.YtedadhoneebfnaaLb
import Derived.Test.YtedadhoneebfnaaSm
import Derived.Test.YtedadhoneebfnaaAlive
import Derived.Test.YtedadhoneebfnaaJ7
set_option linter.unusedSimpArgs false
set_option linter.unusedVariables false
namespace Go.Proofs.Ytedadhoneebfnaa
open Go.RowKit

theorem infoI9 : (Try.prog.info? 3).map (fun i => (i.zero, i.size, i.bytes)) = some (some (.int .i64 0), 1, 8) := by kernel_rfl

set_option maxRecDepth 100000 in
set_option maxHeartbeats 8000000 in
theorem wExchangeValid (a : Option Addr) (len cap : Nat) (zs : List Int) (w : World) (h0 : IsRow .u8 w a len cap zs) :
  Calls Try.prog 8 #[.slice a len cap] w fun e w' => e = .returned (.bool true) ∧ Below w.heap.size w w' := by
 have h := h0.code
 have hm := h.bd
 by_cases hbig : len > 1048576
 ·
  go_enter Try.func8, Try.ntmps8
  go_wp2
  go_returns
  exact ⟨rfl, Below.refl _ _⟩
 go_enter Try.func8, Try.ntmps8
 go_wp2_with fail
 refine (DrawExchangeValid_any _ _ _ _ _ h).mono ?_
 rintro e w1 ⟨O, E, M, vp, vc, ps, cs, rfl, hd⟩
 obtain ⟨ap, cp, ac, cc, rfl, rfl⟩ := agg_parts hd.own
 have HL := Lib.hid hd.st.len
 have HD := Lib.hid hd
 have hE := EBx.new (O := O) (E := E) (M := M) hd.own.rd
 have hbel := hd.bel.alloc hd.bel.size (.cells #[.int .i64 O, .int .i64 E, .int .i64 M, .slice ap ps.length cp, .slice ac cs.length cc] 33)
 clear hd h h0 hbig hm
 obtain ⟨i0, hi, hz0, hz1, hz2⟩ := info_parts infoI9
 obtain ⟨d, hx⟩ : ∃ d, exB O E M ps cs = d := ⟨_, rfl⟩
 have HX := Lib.hid hx
 clear hx
 obtain ⟨eq0, eq1, eq2, eq3, eq4, -, -, -, -, -, eqlt⟩ := hE.box.five
 go_wp2_with fail
 refine (iExchangeValid_any O E M _ _ ps cs _ hE.rd HL.out).mono ?_
 rintro e w2 ⟨rfl, hc⟩
 clear eq0 eq1 eq2 eq3 eq4 eqlt
 have hE_ := hE.below hc
 clear hE
 have hE := hE_
 clear hE_
 have hbel_ := hbel.trans (Below.mono hc hbel.size)
 clear hbel hc
 have hbel := hbel_
 clear hbel_
 rw [HX.out]
 obtain ⟨eq0, eq1, eq2, eq3, eq4, -, -, -, -, -, eqlt⟩ := hE.box.five
 go_wp2_with fail
 refine (sExchangeValid_any O E M _ _ ps cs _ hE.rd HL.out).mono ?_
 rintro e w3 ⟨rfl, hc⟩
 clear eq0 eq1 eq2 eq3 eq4 eqlt
 have hE_ := hE.below hc
 clear hE
 have hE := hE_
 clear hE_
 have hbel_ := hbel.trans (Below.mono hc hbel.size)
 clear hbel hc
 have hbel := hbel_
 clear hbel_
 rw [HX.out]
 have hdd : (d != d) = false := by cases d <;> rfl
 cases d
 ·
  clear hdd
  have HL0 : Hid (StLen ([] : List ByteArray)) := fun k s h => by simp at h
  go_wp2_with fail
  refine (iExchangeValid_any 0 0 0 _ _ [] [] _ (ExOwn.nothing _ 0).rd HL0.out).mono ?_
  rintro e w5 ⟨rfl, hc⟩
  rw [exB_zero]
  have hbel_ := hbel.trans (Below.mono hc hbel.size)
  clear hbel hc hE
  have hbel := hbel_
  clear hbel_
  go_wp2_with fail
  refine (alive_any _).mono ?_
  rintro e w4 ⟨rfl, hc⟩
  have hbel_ := hbel.trans (Below.mono hc hbel.size)
  clear hc
  go_wp2
  go_returns
  exact ⟨rfl, hbel_⟩
 have HOK := Lib.hid ((exB_iff _ _ _ _ _).1 HX.out)
 have hcn := HD.out.cn
 obtain ⟨m, hm⟩ : ∃ m, cs.length = m := ⟨_, rfl⟩
 have HM := Lib.hid hm
 rw [hm] at hE hcn ⊢
 clear hm hdd
 have hO0 : (w3.alloc (.cells #[] 3)).ownsRow w3.heap.size 3 1 (.slice (some ⟨w3.heap.size, 0, none⟩) 0 0) 0 (ints []) := by
  have := World.ownsRow_lit (base := w3.heap.size) (e := 3) (size := 1) w3 #[] 0 (Nat.le_refl _) (by unfold maxLen; omega) rfl
  simpa [ints] using this
 obtain ⟨eq0, eq1, eq2, eq3, eq4, -, -, -, -, -, eqlt⟩ := hE.box.five
 have hb0 : Below w3.heap.size w3 (w3.alloc (.cells #[] 3)) := (Below.refl _ _).alloc (Nat.le_refl _) _
 go_wp2_with fail
 clear eq0 eq1 eq2 eq3 eq4 eqlt
 go_loopw [5, 6] (fun v i wr => ∃ k : Nat, i = .int .i64 k ∧ k ≤ m ∧ wr.ownsRow w3.heap.size 3 1 v (2 * k) (ints (endsI cs k)) ∧ Below w3.heap.size w3 wr) (fun _ i _ => m - (intOf i).toNat)
 case atStart => exact ⟨0, rfl, Nat.zero_le _, by rw [endsI_zero]; exact hO0, hb0⟩
 case round =>
  clear hO0 hb0
  obtain ⟨k, rfl, hk, hown, hb⟩ := hrel
  obtain ⟨av, cv, rfl⟩ := own_len9 hown
  have hEr := hE.below hb
  obtain ⟨eq0, eq1, eq2, eq3, eq4, -, -, -, -, -, eqlt⟩ := hEr.box.five
  by_cases hkm : k < m
  ·
   obtain ⟨_, hm1, ac', cc', hsl, hcc, hcell⟩ := hE.rd.calls
   rw [HM.out] at hsl hcc hcell hm1
   cases hsl
   rcases hcell with hcell | ⟨b1, o1, rfl, hb1, hcell⟩
   ·
    omega
   obtain ⟨⟨x, y, z⟩, hc⟩ : ∃ c, cs[k]? = some c := ⟨_, List.getElem?_eq_getElem (by rw [HM.out]; omega)⟩
   obtain ⟨g1, g2, -⟩ := ccells_at cs k _ hc
   have d1 := hcell (k * 3) (by omega)
   rw [g1] at d1
   have d2 := hcell (k * 3 + 1) (by omega)
   rw [g2, ← Nat.add_assoc] at d2
   simp only at d1 d2
   have c1 := keep_below hb d1
   have c2 := keep_below hb d2
   have hno := ends_no HOK.out hc
   have H1 : Hid (∀ z ∈ endsI cs k, z ≠ x) := fun z hz => (hno z hz).1
   have H2 : Hid (∀ z ∈ endsI cs k, z ≠ y) := fun z hz => (hno z hz).2
   have hxy : (x == y) = false := by simpa using HOK.out.apart (List.mem_of_getElem? hc)
   have HST := Lib.hid (endsI_succ hc)
   have hlen : (endsI cs k).length = 2 * k := by have := hown.1; rw [ints_len] at this; omega
   have HRI : Hid (Rds wr (.slice av (2 * k) cv) (endsI cs k).length 1 (ints (endsI cs k))) := by unfold Hid; rw [hlen]; exact Rds.ofOwns hown
   have i1 : (0 : Int) ≤ (k : Int) := by omega
   have i2 : (k : Int) < (m : Int) := by omega
   clear hc g1 g2 hcell hno hlen
   go_upto_region 13 with fail
   go_cut [66] (fun t66 wc => t66 = .bool false ∧ ∃ q, wc = wr.drewN q)
   case first =>
    go_wp2_with fail
    go_quiet ((go_at_call 42; (first | (with_reducible exact Calls.quiet_of_same ((hasInt_any _ _ x _ (HRI.out.drewN _) H1.out).mono (fun e w' h => ⟨h.1, h.2.symm⟩))) | (with_reducible exact Calls.quiet_of_same ((hasInt_any _ _ y _ (HRI.out.drewN _) H2.out).mono (fun e w' h => ⟨h.1, h.2.symm⟩))))))
    go_wp2_with fail
    go_meet
    exact ⟨rfl, _, rfl⟩
   case rest =>
   obtain ⟨rfl, q, rfl⟩ := hcut
   have hown2 : (wr.drewN q).ownsRow w3.heap.size 3 1 (.slice av (2 * k) cv) (2 * k) (ints (endsI cs k)) := hown
   have hb2 : Below w3.heap.size w3 (wr.drewN q) := below_drewN hb q
   have HC : Hid (∀ w' : World, Below w3.heap.size w3 w' → w'.cell? ⟨w1.heap.size, 4, none⟩ = some (.slice (some ⟨b1, o1, none⟩) m cc) ∧ w'.cell? ⟨b1, o1 + k * 3, none⟩ = some (.int .i64 x) ∧ w'.cell? ⟨b1, o1 + k * 3 + 1, none⟩ = some (.int .i64 y)) := fun w' hb => ⟨keep_below hb hE.box.five.2.2.2.2.1, keep_below hb d1, keep_below hb d2⟩
   clear eq0 eq1 eq2 eq3 eq4 eqlt c1 c2 d1 d2 H1 H2 HRI hb hown hEr
   generalize wr.drewN q = W at hown2 hb2 ⊢
   have hcS : Below w3.heap.size w3 W.drew := hb2.drew
   go_wp2_with fail
   refine wp_region_held_drew (S := fun w' => w'.cell? ⟨w1.heap.size, 4, none⟩ = some (.slice (some ⟨b1, o1, none⟩) m cc) ∧ w'.cell? ⟨b1, o1 + k * 3, none⟩ = some (.int .i64 x) ∧ w'.cell? ⟨b1, o1 + k * 3 + 1, none⟩ = some (.int .i64 y)) (by kernel_rfl) (HC.out _ hcS) (fun hHeld => ?_)
   refine take_y 0 67 (v := ?_) rfl ?_ ?_; rotate_left; focus (intro w hSw; (try dsimp only at hSw); go_simp; (try rw [if_neg (by omega)]); (try with_reducible rfl))
   try simp only [Act.put, zp1, zp2, zp3]
   refine take_y 1 68 (v := ?_) rfl ?_ ?_; rotate_left; focus (intro w hSw; (try dsimp only at hSw); go_simp; (try rw [if_neg (by omega)]); (try with_reducible rfl))
   try simp only [Act.put, zp1, zp2, zp3]
   refine take_y 2 69 (v := ?_) rfl ?_ ?_; rotate_left; focus (intro w hSw; (try dsimp only at hSw); go_simp; (try rw [if_neg (by omega)]); (try with_reducible rfl))
   try simp only [Act.put, zp1, zp2, zp3]
   refine take_y 3 70 (v := ?_) rfl ?_ ?_; rotate_left; focus (intro w hSw; (try dsimp only at hSw); go_simp; (try rw [if_neg (by omega)]); (try with_reducible rfl))
   try simp only [Act.put, zp1, zp2, zp3]
   refine take_y 4 71 (v := ?_) rfl ?_ ?_; rotate_left; focus (intro w hSw; (try dsimp only at hSw); go_simp; (try rw [if_neg (by omega)]); (try with_reducible rfl))
   try simp only [Act.put, zp1, zp2, zp3]
   refine take_y 5 72 (v := ?_) rfl ?_ ?_; rotate_left; focus (intro w hSw; (try dsimp only at hSw); go_simp; (try rw [if_neg (by omega)]); (try with_reducible rfl))
   try simp only [Act.put, zp1, zp2, zp3]
   refine take_y 6 73 (v := ?_) rfl ?_ ?_; rotate_left; focus (intro w hSw; (try dsimp only at hSw); go_simp; (try rw [if_neg (by omega)]); (try with_reducible rfl))
   try simp only [Act.put, zp1, zp2, zp3]
   refine take_y 7 74 (v := ?_) rfl ?_ ?_; rotate_left; focus (intro w hSw; (try dsimp only at hSw); go_simp; (try rw [if_neg (by omega)]); (try with_reducible rfl))
   try simp only [Act.put, zp1, zp2, zp3]
   refine take_y 8 75 (v := ?_) rfl ?_ ?_; rotate_left; focus (intro w hSw; (try dsimp only at hSw); go_simp; (try rw [if_neg (by omega)]); (try with_reducible rfl))
   try simp only [Act.put, zp1, zp2, zp3]
   refine take_y 9 76 (v := ?_) rfl ?_ ?_; rotate_left; focus (intro w hSw; (try dsimp only at hSw); go_simp; (try rw [if_neg (by omega)]); (try with_reducible rfl))
   try simp only [Act.put, zp1, zp2, zp3]
   refine take_y 10 77 (v := ?_) rfl ?_ ?_; rotate_left; focus (intro w hSw; (try dsimp only at hSw); go_simp; (try rw [if_neg (by omega)]); (try with_reducible rfl))
   try simp only [Act.put, zp1, zp2, zp3]
   refine take_y 11 78 (v := ?_) rfl ?_ ?_; rotate_left; focus (intro w hSw; (try dsimp only at hSw); go_simp; (try rw [if_neg (by omega)]); (try with_reducible rfl))
   try simp only [Act.put, zp1, zp2, zp3]
   refine take_y 12 79 (v := ?_) rfl ?_ ?_; rotate_left; focus (intro w hSw; (try dsimp only at hSw); go_simp; (try rw [if_neg (by omega)]); (try with_reducible rfl))
   try simp only [Act.put, zp1, zp2, zp3]
   refine wpAnyH_ready (rs := [13]) (by kernel_rfl) (by simp) ?_
   refine AllReadyH.cons rfl (fun K hK => ?_) AllReadyH.nil
   go_simp
   have hb4 : Below w3.heap.size w3 (W.drew.alloc (.cells #[.int .i64 x, .int .i64 y] 3)) := hcS.alloc hcS.size _
   have hnw : Rds (W.drew.alloc (.cells #[.int .i64 x, .int .i64 y] 3)) (.slice (some ⟨W.heap.size, 0, none⟩) 2 2) 2 1 [.int .i64 x, .int .i64 y] :=
    ⟨rfl, by unfold maxLen; omega, _, 2, rfl, by omega, .inr ⟨_, 0, rfl, by simp, fun i hi => by
     have hB := Blk.new (w := W.drew) (cs := #[.int .i64 x, .int .i64 y]) (T := 3) rfl
     have h2 : i = 0 ∨ i = 1 := by omega
     rcases h2 with rfl | rfl
     ·
      exact hB.at 0
     ·
      exact hB.at 1⟩⟩
   refine hK.out _ _ (HC.out _ hb4) (fun hHeld2 => ?_)
   clear hHeld hK K; have hHeld := hHeld2; clear hHeld2; try simp only [Act.put, zp1, zp2, zp3]
   refine wpAnyH_ready (rs := [14]) (by kernel_rfl) (by simp) ?_
   refine AllReadyH.cons rfl (fun K hK => ?_) AllReadyH.nil
   refine step_append_rds _ (by rfl) _ _ _ (by rfl) w3.heap.size 3 i0 _ 1 8 Try.underlying54 hi hz0 hz1 hz2 rfl (by decide) _ (2 * k) _ (by rfl) (hown2.alloc _) _ 2 [.int .i64 x, .int .i64 y] (by rfl) hnw (by intro u hu; simp at hu; rcases hu with rfl | rfl <;> rfl) (by unfold maxLen; omega) (by omega) (by exact hb4.size) ?_
   intro vq w7 hoq hgq hvq
   have hb7 : Below w3.heap.size w3 w7 := Below.grown hb4 hgq hb4.size (own_ge hown2)
   obtain ⟨aq, cq, rfl⟩ := own_len9 hoq
   refine hK.out _ _ (HC.out _ hb7) (fun hHeld2 => ?_)
   clear hHeld hK K; have hHeld := hHeld2; clear hHeld2; try simp only [Act.put, zp1, zp2, zp3]
   refine take_y 15 5 (v := ?_) rfl ?_ ?_; rotate_left; focus (intro w hSw; (try dsimp only at hSw); go_simp; (try rw [if_neg (by omega)]); (try with_reducible rfl))
   try simp only [Act.put, zp1, zp2, zp3]
   refine wpAnyH_done (by kernel_rfl) ?_ _
   clear hHeld
   go_wp2_with fail
   go_roundw
   case rel =>
    refine ⟨k + 1, by go_num, by omega, ?_, hb7⟩
    have e9 : ints (endsI cs k ++ [x, y]) = ints (endsI cs k) ++ [.int .i64 x, .int .i64 y] := by simp [ints]
    rw [HST.out, e9]
    exact hoq
   case measure => simp [intOf]; omega
  ·
   obtain rfl : k = m := by omega
   go_wp2_with fail
   refine (iExchangeValid_any O E M _ _ ps [] _ ⟨hEr.rd.plan, (ExOwn.nothing _ 0).rd.calls⟩ HL.out).mono ?_
   rintro e w8 ⟨rfl, hc⟩
   rw [exB_bare HX.out]
   have hbel2 := (hbel.trans (Below.mono hb hbel.size)).trans (Below.mono hc (hbel.trans (Below.mono hb hbel.size)).size)
   clear eq0 eq1 eq2 eq3 eq4 eqlt hEr hc
   go_wp2
   go_returns
   exact ⟨rfl, hbel2⟩

end Go.Proofs.Ytedadhoneebfnaa
