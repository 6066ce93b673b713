/- The walks of the laws of NightDeeds and ExchangeNew (printed by gen_ax.py). -/
import Derived.Test.YtedadhoneebfnaaDwb
import Derived.Test.YtedadhoneebfnaaDwf
import Derived.Test.YtedadhoneebfnaaLb
import Derived.Test.YtedadhoneebfnaaSm
import Derived.Test.YtedadhoneebfnaaAlive
import Derived.Test.YtedadhoneebfnaaJ10
import Derived.Test.YtedadhoneebfnaaEs
set_option linter.unusedSimpArgs false
set_option linter.unusedVariables false
namespace Go.Proofs.Ytedadhoneebfnaa
open Go.RowKit

set_option maxRecDepth 100000 in
set_option maxHeartbeats 8000000 in
theorem wNightDeeds (a : Option Addr) (len cap : Nat) (zs : List Int) (w : World) (h0 : IsRow .u8 w a len cap zs) :
  Calls Try.prog 14 #[.slice a len cap] w fun e w' => e = .returned (.bool true) ∧ Below w.heap.size w w' := by
 have h := h0.code
 have hm := h.bd
 by_cases hbig : len > 1048576
 ·
  go_enter Try.func14, Try.ntmps14
  go_wp2
  go_returns
  exact ⟨rfl, Below.refl _ _⟩
 go_enter Try.func14, Try.ntmps14
 go_wp2_with fail
 refine (DrawNightDeeds_any _ _ _ _ _ h).mono ?_
 rintro e w1 ⟨O, E, M, vp, vc, ps, cs, rfl, hd⟩
 obtain ⟨ap, cp, ac, cc, rfl, rfl⟩ := agg_parts hd.own
 have HL := Lib.hid hd.st.len
 have HD := Lib.hid hd
 have hE := EBx.new (O := O) (E := E) (M := M) hd.own.rd
 have hbel := hd.bel.alloc hd.bel.size (.cells #[.int .i64 O, .int .i64 E, .int .i64 M, .slice ap ps.length cp, .slice ac cs.length cc] 33)
 clear hd h h0 hbig hm
 obtain ⟨ds, hds⟩ : ∃ ds, nightX O E M ps cs = ds := ⟨_, rfl⟩
 have HDS := Lib.hid hds
 clear hds
 obtain ⟨eq0, eq1, eq2, eq3, eq4, -, -, -, -, -, eqlt⟩ := hE.box.five
 go_wp2_with fail
 refine (iNightDeeds_any O E M _ _ ps cs _ hE.rd HL.out).mono ?_
 rintro e w2 ⟨vd, rfl, hod, hc⟩
 clear eq0 eq1 eq2 eq3 eq4 eqlt
 have hE_ := hE.below hc
 clear hE
 have hE := hE_
 clear hE_
 have hbel_ := hbel.trans (Below.mono hc hbel.size)
 clear hbel hc
 have hbel := hbel_
 clear hbel_
 rw [HDS.out] at hod
 have HR := Lib.hid (Rds.ofOwns hod)
 obtain ⟨_, _, ad, cd, rfl, _⟩ := Rds.ofOwns hod
 clear hod
 obtain ⟨eq0, eq1, eq2, eq3, eq4, -, -, -, -, -, eqlt⟩ := hE.box.five
 go_wp2_with fail
 refine (sNightDeeds_any O E M _ _ ps cs _ hE.rd HL.out).mono ?_
 rintro e w3 ⟨vd, rfl, hod, hc⟩
 clear eq0 eq1 eq2 eq3 eq4 eqlt
 have hE_ := hE.below hc
 clear hE
 have hE := hE_
 clear hE_
 have HR_ := Lib.hid (HR.out.below hc)
 clear HR
 have HR := HR_
 clear HR_
 have hbel_ := hbel.trans (Below.mono hc hbel.size)
 clear hbel hc
 have hbel := hbel_
 clear hbel_
 rw [HDS.out] at hod
 have HQ := Lib.hid (Rds.ofOwns hod)
 obtain ⟨_, _, ad2, cd2, rfl, _⟩ := Rds.ofOwns hod
 clear hod
 obtain ⟨eq0, eq1, eq2, eq3, eq4, -, -, -, -, -, eqlt⟩ := hE.box.five
 go_wp2_with fail
 refine (sameExDeeds_any _ _ ds ds _ HR.out HQ.out).mono ?_
 rintro e w4 ⟨rfl, hc⟩
 clear eq0 eq1 eq2 eq3 eq4 eqlt
 have hE_ := hE.below hc
 clear hE
 have hE := hE_
 clear hE_
 have HR_ := Lib.hid (HR.out.below hc)
 clear HR
 have HR := HR_
 clear HR_
 have hbel_ := hbel.trans (Below.mono hc hbel.size)
 clear hbel hc
 have hbel := hbel_
 clear hbel_
 rw [decide_eq_true (rfl : ds = ds)]
 clear HQ
 obtain ⟨eq0, eq1, eq2, eq3, eq4, -, -, -, -, -, eqlt⟩ := hE.box.five
 go_wp2_with fail
 refine (sExchangeValid_any O E M _ _ ps cs _ hE.rd HL.out).mono ?_
 rintro e w5 ⟨rfl, hc⟩
 clear eq0 eq1 eq2 eq3 eq4 eqlt
 have hE_ := hE.below hc
 clear hE
 have hE := hE_
 clear hE_
 have HR_ := Lib.hid (HR.out.below hc)
 clear HR
 have HR := HR_
 clear HR_
 have hbel_ := hbel.trans (Below.mono hc hbel.size)
 clear hbel hc
 have hbel := hbel_
 clear hbel_
 obtain ⟨d, hd⟩ : ∃ d, exB O E M ps cs = d := ⟨_, rfl⟩
 have HX := Lib.hid hd
 rw [hd]
 clear hd
 cases d
 ·
  have hn0 : ds = [] := by rw [← HDS.out]; unfold nightX; rw [HX.out]; rfl
  have hn1 : (ds.length : Int) = 0 := by rw [hn0]; rfl
  have hn2 : ((ds.length : Int) == 0) = true := by simp [hn1]
  clear hn0
  go_wp2_with fail
  refine (alive_any _).mono ?_
  rintro e w6 ⟨rfl, hc⟩
  have hbel_ := hbel.trans (Below.mono hc hbel.size)
  clear hc
  go_wp2
  go_returns
  exact ⟨rfl, hbel_⟩
 have hOK := (exB_iff _ _ _ _ _).1 HX.out
 have hn0 : ds = nightL cs := by rw [← HDS.out]; unfold nightX; rw [HX.out]; rfl
 have hlen : ds.length = cs.length := by rw [hn0]; simp [nightL]
 have hrun : runX O E M ps cs ds = ((O, E, M), (ps, []), cs.length) := by rw [runX_yes HX.out, hn0, night_run hOK]
 have hdl : DdLen ds := by
  rw [hn0]
  intro k d hd
  obtain ⟨c, _, rfl⟩ := List.mem_map.1 (List.mem_of_getElem? hd)
  exact Nat.zero_le _
 have HRUN := Lib.hid hrun
 have HDL := Lib.hid hdl
 have HLEN := Lib.hid hlen
 have hsome : SomeV (.slice ap ps.length cp) ps.length := own_somev HD.out.own.plan
 clear hn0 hrun hdl hOK hlen
 obtain ⟨eq0, eq1, eq2, eq3, eq4, -, -, -, -, -, eqlt⟩ := hE.box.five
 go_wp2_with fail
 refine (iExRun_any O E M _ _ _ ps cs ds _ hE.rd hsome HL.out HR.out HDL.out).mono ?_
 rintro e w9 hq
 rw [HRUN.out] at hq
 obtain ⟨vq, vr, rfl, ho, hc⟩ := hq
 simp only at ho
 clear eq0 eq1 eq2 eq3 eq4 eqlt
 have hE_ := hE.below hc
 clear hE
 have hE := hE_
 clear hE_
 have hbel_ := hbel.trans (Below.mono hc hbel.size)
 clear hbel hc
 have hbel := hbel_
 clear hbel_
 obtain ⟨aq, cq, ar, cr, rfl, hvr⟩ := agg_parts ho
 have hvr2 : vr = .slice ar 0 cr := hvr
 subst hvr2
 have hX := EBx.new (O := O) (E := E) (M := M) ho.rd
 have hF := hE.alloc (.cells #[.int .i64 O, .int .i64 E, .int .i64 M, .slice aq ps.length cq, .slice ar 0 cr] 33)
 have hbel2 := hbel.alloc hbel.size (.cells #[.int .i64 O, .int .i64 E, .int .i64 M, .slice aq ps.length cq, .slice ar 0 cr] 33)
 have hcl : ((cs.length : Int) == (ds.length : Int)) = true := by rw [HLEN.out]; simp
 clear hE ho hbel
 obtain ⟨fq0, fq1, fq2, fq3, fq4, -, -, -, -, -, fqlt⟩ := hF.box.five
 obtain ⟨xq0, xq1, xq2, xq3, xq4, -, -, -, -, -, xqlt⟩ := hX.box.five
 go_wp2_with fail
 refine (sameTexts_any _ _ ps ps _ hX.rd.plan hF.rd.plan).mono ?_
 rintro e w10 ⟨rfl, hc⟩
 rw [decide_eq_true (rfl : ps = ps)]
 have hbel3 := hbel2.trans (Below.mono hc hbel2.size)
 clear fq0 fq1 fq2 fq3 fq4 xq0 xq1 xq2 xq3 xq4 fqlt xqlt
 go_wp2
 go_returns
 exact ⟨rfl, hbel3⟩

set_option maxRecDepth 100000 in
set_option maxHeartbeats 8000000 in
theorem wExchangeNew (a : Option Addr) (len cap : Nat) (zs : List Int) (w : World) (h0 : IsRow .u8 w a len cap zs) :
  Calls Try.prog 11 #[.slice a len cap] w fun e w' => e = .returned (.bool true) ∧ Below w.heap.size w w' := by
 have h := h0.code
 have hm := h.bd
 by_cases hbig : len > 1048576
 ·
  go_enter Try.func11, Try.ntmps11
  go_wp2
  go_returns
  exact ⟨rfl, Below.refl _ _⟩
 go_enter Try.func11, Try.ntmps11
 go_wp2_with fail
 refine (DrawExchangeNew_any _ _ _ _ _ h).mono ?_
 rintro e w1 ⟨O, E, M, vp, ps, rfl, hop, hln, hst, hb1⟩
 obtain ⟨ap, cp, rfl⟩ := own_len9 hop
 have HL := Lib.hid hst.len
 have hsv := own_somev hop
 have hN := Blk.new (w := w1) (cs := #[.int .i64 O, .int .i64 E, .int .i64 M]) (T := 30) rfl
 have hbel := hb1.alloc hb1.size (.cells #[.int .i64 O, .int .i64 E, .int .i64 M] 30)
 have HR := Lib.hid ((Rds.ofOwns hop).below ((Below.refl w1.heap.size w1).alloc (Nat.le_refl _) (.cells #[.int .i64 O, .int .i64 E, .int .i64 M] 30)))
 clear hop h h0 hbig hm hb1
 obtain ⟨⟨O2, E2, M2, qs⟩, hne⟩ : ∃ z, newE O E M ps = z := ⟨_, rfl⟩
 have HNE := Lib.hid hne
 clear hne
 obtain ⟨n0, n1, n2, -, -, -, nlt⟩ := hN.three
 go_wp2_with fail
 refine (iExchangeNew_any O E M _ ps _ HR.out hsv (by omega) HL.out).mono ?_
 rintro e w2 hq
 unfold NewPost at hq
 rw [HNE.out] at hq
 obtain ⟨vq, vr, rfl, ho, hc⟩ := hq
 simp only at ho
 obtain ⟨aq, cq, ar, cr, rfl, hvr⟩ := agg_parts ho
 have hvr2 : vr = .slice ar 0 cr := hvr
 subst hvr2
 clear n0 n1 n2 nlt
 have hN2 := (hN.belowAll hc).alloc (.cells #[.int .i64 O2, .int .i64 E2, .int .i64 M2, .slice aq qs.length cq, .slice ar 0 cr] 33)
 have hal : Below w2.heap.size w2 (w2.alloc (.cells #[.int .i64 O2, .int .i64 E2, .int .i64 M2, .slice aq qs.length cq, .slice ar 0 cr] 33)) := (Below.refl _ _).alloc (Nat.le_refl _) _
 have HR2 := Lib.hid ((HR.out.below hc).below hal)
 have hE := EBx.new (O := O2) (E := E2) (M := M2) ho.rd
 have hbel2 := (hbel.trans (Below.mono hc hbel.size)).trans (Below.mono hal (hbel.trans (Below.mono hc hbel.size)).size)
 clear hN hbel ho hc hal HR
 obtain ⟨n0, n1, n2, -, -, -, nlt⟩ := hN2.three
 obtain ⟨eq0, eq1, eq2, eq3, eq4, -, -, -, -, -, eqlt⟩ := hE.box.five
 go_upto_region 5 with fail
 go_cut [23] (fun t23 wc => t23 = .bool false ∧ Below (w2.alloc (.cells #[.int .i64 O2, .int .i64 E2, .int .i64 M2, .slice aq qs.length cq, .slice ar 0 cr] 33)).heap.size (w2.alloc (.cells #[.int .i64 O2, .int .i64 E2, .int .i64 M2, .slice aq qs.length cq, .slice ar 0 cr] 33)) wc)
 case first =>
  have HC : Hid (∀ w' : World, Below (w2.alloc (.cells #[.int .i64 O2, .int .i64 E2, .int .i64 M2, .slice aq qs.length cq, .slice ar 0 cr] 33)).heap.size (w2.alloc (.cells #[.int .i64 O2, .int .i64 E2, .int .i64 M2, .slice aq qs.length cq, .slice ar 0 cr] 33)) w' → w'.cell? ⟨w2.heap.size, 0, none⟩ = some (.int .i64 O2) ∧ w'.cell? ⟨w2.heap.size, 1, none⟩ = some (.int .i64 E2) ∧ w'.cell? ⟨w2.heap.size, 2, none⟩ = some (.int .i64 M2) ∧ w'.cell? ⟨w2.heap.size, 3, none⟩ = some (.slice aq qs.length cq) ∧ w'.cell? ⟨w2.heap.size, 4, none⟩ = some (.slice ar 0 cr) ∧ w'.cell? ⟨w1.heap.size, 0, none⟩ = some (.int .i64 O) ∧ w'.cell? ⟨w1.heap.size, 1, none⟩ = some (.int .i64 E) ∧ w'.cell? ⟨w1.heap.size, 2, none⟩ = some (.int .i64 M)) := fun w' hb => ⟨keep_below hb eq0, keep_below hb eq1, keep_below hb eq2, keep_below hb eq3, keep_below hb eq4, keep_below hb n0, keep_below hb n1, keep_below hb n2⟩
  have hcS : Below (w2.alloc (.cells #[.int .i64 O2, .int .i64 E2, .int .i64 M2, .slice aq qs.length cq, .slice ar 0 cr] 33)).heap.size (w2.alloc (.cells #[.int .i64 O2, .int .i64 E2, .int .i64 M2, .slice aq qs.length cq, .slice ar 0 cr] 33)) (w2.alloc (.cells #[.int .i64 O2, .int .i64 E2, .int .i64 M2, .slice aq qs.length cq, .slice ar 0 cr] 33)).drew := (Below.refl _ _).drew
  clear eq0 eq1 eq2 eq3 eq4 eqlt n0 n1 n2 nlt
  go_wp2_with fail
  refine wp_region_held_drew (S := fun w' => w'.cell? ⟨w2.heap.size, 0, none⟩ = some (.int .i64 O2) ∧ w'.cell? ⟨w2.heap.size, 1, none⟩ = some (.int .i64 E2) ∧ w'.cell? ⟨w2.heap.size, 2, none⟩ = some (.int .i64 M2) ∧ w'.cell? ⟨w2.heap.size, 3, none⟩ = some (.slice aq qs.length cq) ∧ w'.cell? ⟨w2.heap.size, 4, none⟩ = some (.slice ar 0 cr) ∧ w'.cell? ⟨w1.heap.size, 0, none⟩ = some (.int .i64 O) ∧ w'.cell? ⟨w1.heap.size, 1, none⟩ = some (.int .i64 E) ∧ w'.cell? ⟨w1.heap.size, 2, none⟩ = some (.int .i64 M)) (by kernel_rfl) (HC.out _ hcS) (fun hHeld => ?_)
  refine take_y 0 18 (v := ?_) rfl ?_ ?_; rotate_left; focus (intro w hSw; (try dsimp only at hSw); go_simp; (try rw [if_neg (by omega)]); (try with_reducible rfl))
  try simp only [Act.put, zp1, zp2, zp3]
  refine take_y 1 19 (v := ?_) rfl ?_ ?_; rotate_left; focus (intro w hSw; (try dsimp only at hSw); go_simp; (try rw [if_neg (by omega)]); (try with_reducible rfl))
  try simp only [Act.put, zp1, zp2, zp3]
  refine take_y 2 20 (v := ?_) rfl ?_ ?_; rotate_left; focus (intro w hSw; (try dsimp only at hSw); go_simp; (try rw [if_neg (by omega)]); (try with_reducible rfl))
  try simp only [Act.put, zp1, zp2, zp3]
  refine wpAnyH_ready (rs := [3]) (by kernel_rfl) (by simp) ?_
  refine AllReadyH.cons rfl (fun K hK => ?_) AllReadyH.nil
  go_simp
  refine (sExchangeNew_any O E M _ ps _ (HR2.out.below hcS) (by omega) HL.out).mono ?_
  rintro e w4 hq
  unfold NewPost at hq
  rw [HNE.out] at hq
  obtain ⟨vq2, vr2, rfl, ho2, hc4⟩ := hq
  simp only at ho2
  obtain ⟨aq2, cq2, ar2, cr2, rfl, rfl⟩ := agg_parts ho2
  have hc5 : Below (w2.alloc (.cells #[.int .i64 O2, .int .i64 E2, .int .i64 M2, .slice aq qs.length cq, .slice ar 0 cr] 33)).heap.size (w2.alloc (.cells #[.int .i64 O2, .int .i64 E2, .int .i64 M2, .slice aq qs.length cq, .slice ar 0 cr] 33)) w4 := hcS.trans (Below.mono hc4 hcS.size)
  refine hK.out _ _ (HC.out _ hc5) (fun hHeld2 => ?_)
  clear hHeld hK K; have hHeld := hHeld2; clear hHeld2; try simp only [Act.put, zp1, zp2, zp3]
  refine wpAnyH_ready (rs := [4]) (by kernel_rfl) (by simp) ?_
  refine AllReadyH.cons rfl (fun K hK => ?_) AllReadyH.nil
  go_simp
  refine (sameExchange_any O2 E2 M2 O2 E2 M2 _ _ _ _ qs qs [] [] _ (hE.rd.below hc5) ho2.rd).mono ?_
  rintro e w5 ⟨rfl, hc6⟩
  rw [sameB_yes]
  have hc7 : Below (w2.alloc (.cells #[.int .i64 O2, .int .i64 E2, .int .i64 M2, .slice aq qs.length cq, .slice ar 0 cr] 33)).heap.size (w2.alloc (.cells #[.int .i64 O2, .int .i64 E2, .int .i64 M2, .slice aq qs.length cq, .slice ar 0 cr] 33)) w5 := hc5.trans (Below.mono hc6 hc5.size)
  refine hK.out _ _ (HC.out _ hc7) (fun hHeld2 => ?_)
  clear hHeld hK K; have hHeld := hHeld2; clear hHeld2; try simp only [Act.put, zp1, zp2, zp3]
  refine take_y 5 23 (v := ?_) rfl ?_ ?_; rotate_left; focus (intro w hSw; (try dsimp only at hSw); go_simp; (try rw [if_neg (by omega)]); (try with_reducible rfl))
  try simp only [Act.put, zp1, zp2, zp3]
  refine wpAnyH_done (by kernel_rfl) ?_ _
  clear hHeld
  go_wp2_with fail
  go_meet
  exact ⟨rfl, hc7⟩
 case rest =>
 clear eq0 eq1 eq2 eq3 eq4 eqlt n0 n1 n2 nlt hN2
 obtain ⟨rfl, hc⟩ := hcut
 have hE4 := hE.below hc
 have HR4 := Lib.hid (HR2.out.below hc)
 have hbel4 := hbel2.trans (Below.mono hc hbel2.size)
 clear hE HR2 hbel2 hc
 generalize wc = w4 at *
 rcases newX_cases O E M ps with ⟨hx, he⟩ | ⟨hx, he⟩
 ·
  rw [HNE.out] at he
  simp only [Prod.mk.injEq] at he
  obtain ⟨rfl, rfl, rfl, rfl⟩ := he
  have HX := Lib.hid hx
  have hOK := (exB_iff _ _ _ _ _).1 hx
  have hln1 := hOK.lines.1
  have hln2 := hOK.lines.2
  have HP := Lib.hid hOK.plan
  have hlb : ((qs.length : Int) == 0) = false := beq_eq_false_iff_ne.2 (by omega)
  clear hx hOK HNE
  obtain ⟨eq0, eq1, eq2, eq3, eq4, -, -, -, -, -, eqlt⟩ := hE4.box.five
  have hmx : (qs.length : Int) ≤ 10 := by omega
  go_wp2_with fail
  clear eq0 eq1 eq2 eq3 eq4 eqlt
  go_loopw [6] (fun i wr => ∃ k : Nat, i = .int .i64 k ∧ k ≤ qs.length ∧ EBx wr w2.heap.size O2 E2 M2 (.slice aq qs.length cq) (.slice ar 0 cr) qs [] ∧ Hid (Rds wr (.slice ap qs.length cp) qs.length 1 (strs qs)) ∧ Below w.heap.size w wr) (fun i _ => qs.length - (intOf i).toNat)
  case atStart => exact ⟨0, rfl, Nat.zero_le _, hE4, HR4, hbel4⟩
  case round =>
   clear hE4 HR4 hbel4
   obtain ⟨k, rfl, hk, hE, HR, hbel⟩ := hrel
   by_cases hkn : k < qs.length
   ·
    obtain ⟨_, _, hsl, _, _, _, hcell⟩ := HR.out.open1
    cases hsl
    rcases hcell with hcell | ⟨b1, o1, rfl, hb1, hcell⟩
    ·
     omega
    obtain ⟨s, hs⟩ : ∃ s, qs[k]? = some s := ⟨_, List.getElem?_eq_getElem hkn⟩
    have c1 := hcell k hkn
    rw [strs_at _ _ _ hs] at c1
    have HLN : Hid (lineX O2 E2 M2 qs [] s = (k : Int)) := by unfold Hid; rw [lineX_yes _ HX.out, line_self HP.out hs]
    have HPN : Hid (peerX O2 E2 M2 qs [] (k : Int) = -1) := by unfold Hid; rw [peerX_yes _ HX.out]; rfl
    have i1 : (0 : Int) ≤ (k : Int) := by omega
    have i2 : (k : Int) < (qs.length : Int) := by omega
    obtain ⟨eq0, eq1, eq2, eq3, eq4, -, -, -, -, -, eqlt⟩ := hE.box.five
    have HC : Hid (∀ w' : World, Below wr.heap.size wr w' → w'.cell? ⟨w2.heap.size, 0, none⟩ = some (.int .i64 O2) ∧ w'.cell? ⟨w2.heap.size, 1, none⟩ = some (.int .i64 E2) ∧ w'.cell? ⟨w2.heap.size, 2, none⟩ = some (.int .i64 M2) ∧ w'.cell? ⟨w2.heap.size, 3, none⟩ = some (.slice aq qs.length cq) ∧ w'.cell? ⟨w2.heap.size, 4, none⟩ = some (.slice ar 0 cr) ∧ w'.cell? ⟨b1, o1 + k, none⟩ = some (.string s)) := fun w' hb => ⟨keep_below hb eq0, keep_below hb eq1, keep_below hb eq2, keep_below hb eq3, keep_below hb eq4, keep_below hb c1⟩
    have hcS : Below wr.heap.size wr wr.drew := (Below.refl _ _).drew
    have hkk : ((k : Int) != (k : Int)) = false := by simp
    clear eq0 eq1 eq2 eq3 eq4 eqlt hcell hs
    go_wp2_with fail
    refine wp_region_held_drew (S := fun w' => w'.cell? ⟨w2.heap.size, 0, none⟩ = some (.int .i64 O2) ∧ w'.cell? ⟨w2.heap.size, 1, none⟩ = some (.int .i64 E2) ∧ w'.cell? ⟨w2.heap.size, 2, none⟩ = some (.int .i64 M2) ∧ w'.cell? ⟨w2.heap.size, 3, none⟩ = some (.slice aq qs.length cq) ∧ w'.cell? ⟨w2.heap.size, 4, none⟩ = some (.slice ar 0 cr) ∧ w'.cell? ⟨b1, o1 + k, none⟩ = some (.string s)) (by kernel_rfl) (HC.out _ hcS) (fun hHeld => ?_)
    refine take_y 0 39 (v := ?_) rfl ?_ ?_; rotate_left; focus (intro w hSw; (try dsimp only at hSw); go_simp; (try rw [if_neg (by omega)]); (try with_reducible rfl))
    try simp only [Act.put, zp1, zp2, zp3]
    refine take_y 1 40 (v := ?_) rfl ?_ ?_; rotate_left; focus (intro w hSw; (try dsimp only at hSw); go_simp; (try rw [if_neg (by omega)]); (try with_reducible rfl))
    try simp only [Act.put, zp1, zp2, zp3]
    refine take_y 2 41 (v := ?_) rfl ?_ ?_; rotate_left; focus (intro w hSw; (try dsimp only at hSw); go_simp; (try rw [if_neg (by omega)]); (try with_reducible rfl))
    try simp only [Act.put, zp1, zp2, zp3]
    refine take_y 3 42 (v := ?_) rfl ?_ ?_; rotate_left; focus (intro w hSw; (try dsimp only at hSw); go_simp; (try rw [if_neg (by omega)]); (try with_reducible rfl))
    try simp only [Act.put, zp1, zp2, zp3]
    refine take_y 4 43 (v := ?_) rfl ?_ ?_; rotate_left; focus (intro w hSw; (try dsimp only at hSw); go_simp; (try rw [if_neg (by omega)]); (try with_reducible rfl))
    try simp only [Act.put, zp1, zp2, zp3]
    refine take_y 6 45 (v := ?_) rfl ?_ ?_; rotate_left; focus (intro w hSw; (try dsimp only at hSw); go_simp; (try rw [if_neg (by omega)]); (try with_reducible rfl))
    try simp only [Act.put, zp1, zp2, zp3]
    clear c1
    refine wpAnyH_ready (rs := [5]) (by kernel_rfl) (by simp) ?_
    refine AllReadyH.cons rfl (fun K hK => ?_) AllReadyH.nil
    go_simp
    refine (iLineOf_any O2 E2 M2 _ _ qs [] s _ (hE.rd.below hcS) HL.out).mono ?_
    rintro e w5 ⟨rfl, hc6⟩
    rw [HLN.out]
    have hc7 : Below wr.heap.size wr w5 := hcS.trans (Below.mono hc6 hcS.size)
    refine hK.out _ _ (HC.out _ hc7) (fun hHeld2 => ?_)
    clear hHeld hK K; have hHeld := hHeld2; clear hHeld2; try simp only [Act.put, zp1, zp2, zp3]
    refine take_y 7 46 (v := ?_) rfl ?_ ?_; rotate_left; focus (intro w hSw; (try dsimp only at hSw); go_simp; (try rw [if_neg (by omega)]); (try with_reducible rfl))
    try simp only [Act.put, zp1, zp2, zp3]
    refine take_y 8 47 (v := ?_) rfl ?_ ?_; rotate_left; focus (intro w hSw; (try dsimp only at hSw); go_simp; (try rw [if_neg (by omega)]); (try with_reducible rfl))
    try simp only [Act.put, zp1, zp2, zp3]
    refine take_y 9 48 (v := ?_) rfl ?_ ?_; rotate_left; focus (intro w hSw; (try dsimp only at hSw); go_simp; (try rw [if_neg (by omega)]); (try with_reducible rfl))
    try simp only [Act.put, zp1, zp2, zp3]
    refine take_y 10 49 (v := ?_) rfl ?_ ?_; rotate_left; focus (intro w hSw; (try dsimp only at hSw); go_simp; (try rw [if_neg (by omega)]); (try with_reducible rfl))
    try simp only [Act.put, zp1, zp2, zp3]
    refine wpAnyH_ready (rs := [11]) (by kernel_rfl) (by simp) ?_
    refine AllReadyH.cons rfl (fun K hK => ?_) AllReadyH.nil
    go_simp
    refine (iPeerOf_any O2 E2 M2 _ _ qs [] k _ (hE.rd.below hc7) HL.out).mono ?_
    rintro e w6 ⟨rfl, hc8⟩
    rw [HPN.out]
    have hc9 : Below wr.heap.size wr w6 := hc7.trans (Below.mono hc8 hc7.size)
    refine hK.out _ _ (HC.out _ hc9) (fun hHeld2 => ?_)
    clear hHeld hK K; have hHeld := hHeld2; clear hHeld2; try simp only [Act.put, zp1, zp2, zp3]
    refine take_y 12 51 (v := ?_) rfl ?_ ?_; rotate_left; focus (intro w hSw; (try dsimp only at hSw); go_simp; (try rw [if_neg (by omega)]); (try with_reducible rfl))
    try simp only [Act.put, zp1, zp2, zp3]
    refine take_y 13 52 (v := ?_) rfl ?_ ?_; rotate_left; focus (intro w hSw; (try dsimp only at hSw); go_simp; (try rw [if_neg (by omega)]); (try with_reducible rfl))
    try simp only [Act.put, zp1, zp2, zp3]
    refine wpAnyH_done (by kernel_rfl) ?_ _
    clear hHeld
    go_wp2_with fail
    go_roundw
    case rel => exact ⟨k + 1, by go_num, by omega, hE.below hc9, Lib.hid (HR.out.below hc9), hbel.trans (Below.mono hc9 hbel.size)⟩
    case measure => simp [intOf]; omega
   ·
    obtain rfl : k = qs.length := by omega
    obtain ⟨eq0, eq1, eq2, eq3, eq4, -, -, -, -, -, eqlt⟩ := hE.box.five
    go_wp2_with fail
    refine (iExchangeValid_any O2 E2 M2 _ _ qs [] _ hE.rd HL.out).mono ?_
    rintro e w7 ⟨rfl, hc⟩
    rw [HX.out]
    have hE7 := hE.below hc
    have hbel7 := hbel.trans (Below.mono hc hbel.size)
    clear eq0 eq1 eq2 eq3 eq4 eqlt hE hbel hc
    obtain ⟨eq0, eq1, eq2, eq3, eq4, -, -, -, -, -, eqlt⟩ := hE7.box.five
    go_wp2
    go_returns
    exact ⟨rfl, hbel7⟩
 ·
  rw [HNE.out] at he
  simp only [Prod.mk.injEq] at he
  obtain ⟨rfl, rfl, rfl, rfl⟩ := he
  obtain ⟨eq0, eq1, eq2, eq3, eq4, -, -, -, -, -, eqlt⟩ := hE4.box.five
  go_wp2_with fail
  refine (noExchange_any 0 0 0 _ _ [] [] _ hE4.rd).mono ?_
  rintro e w7 ⟨rfl, hc⟩
  rw [sameB_yes]
  have hbel7 := hbel4.trans (Below.mono hc hbel4.size)
  clear eq0 eq1 eq2 eq3 eq4 eqlt hE4 hbel4 hc
  go_wp2_with fail
  refine (alive_any _).mono ?_
  rintro e w8 ⟨rfl, hc⟩
  have hbel_ := hbel7.trans (Below.mono hc hbel7.size)
  clear hc
  go_wp2
  go_returns
  exact ⟨rfl, hbel_⟩

end Go.Proofs.Ytedadhoneebfnaa
