/- The walk of the law of ExRun (printed by gen_ax.py). -/
import Derived.Test.YtedadhoneebfnaaDwe
import Derived.Test.YtedadhoneebfnaaLb
import Derived.Test.YtedadhoneebfnaaSm
import Derived.Test.YtedadhoneebfnaaAlive
import Derived.Test.YtedadhoneebfnaaJ10
import Derived.Test.YtedadhoneebfnaaRy
set_option linter.unusedSimpArgs false
set_option linter.unusedVariables false
namespace Go.Proofs.Ytedadhoneebfnaa
open Go.RowKit

theorem dcells_take3 (ds : List Ded) : ∀ k : Nat, dcells (ds.take k) = (dcells ds).take (k * 3) := by
 induction ds with
 | nil => intro k; simp [dcells]
 | cons d ds ih =>
  intro k
  cases k with
  | zero => simp [dcells]
  | succ k =>
   have := ih k
   rw [show (k + 1) * 3 = k * 3 + 3 by omega]
   simp only [dcells, List.take_succ_cons, List.flatMap_cons] at this ⊢
   rw [this]
   simp
theorem dcells_drop3 (ds : List Ded) : ∀ k : Nat, dcells (ds.drop k) = (dcells ds).drop (k * 3) := by
 induction ds with
 | nil => intro k; simp [dcells]
 | cons d ds ih =>
  intro k
  cases k with
  | zero => simp [dcells]
  | succ k =>
   have := ih k
   rw [show (k + 1) * 3 = k * 3 + 3 by omega]
   simp only [dcells, List.drop_succ_cons, List.flatMap_cons] at this ⊢
   rw [this]
   simp

set_option maxRecDepth 100000 in
set_option maxHeartbeats 8000000 in
theorem wExRun (a : Option Addr) (len cap : Nat) (zs : List Int) (w : World) (h0 : IsRow .u8 w a len cap zs) :
  Calls Try.prog 15 #[.slice a len cap] w fun e w' => e = .returned (.bool true) ∧ Below w.heap.size w w' := by
 have h := h0.code
 have hm := h.bd
 by_cases hbig : len > 1048576
 ·
  go_enter Try.func15, Try.ntmps15
  go_wp2
  go_returns
  exact ⟨rfl, Below.refl _ _⟩
 go_enter Try.func15, Try.ntmps15
 go_wp2_with fail
 refine (DrawExRun_any _ _ _ _ _ h).mono ?_
 rintro e w1 ⟨O, E, M, vd, vp, vc, ps, cs, ds, rfl, hod, hdl, hds, hd⟩
 obtain ⟨ap, cp, ac, cc, rfl, rfl⟩ := agg_parts hd.own
 have HL := Lib.hid hd.st.len
 have HD := Lib.hid hd
 have hE := EBx.new (O := O) (E := E) (M := M) hd.own.rd
 have hbel := hd.bel.alloc hd.bel.size (.cells #[.int .i64 O, .int .i64 E, .int .i64 M, .slice ap ps.length cp, .slice ac cs.length cc] 33)
 clear hd h h0 hbig hm
 obtain ⟨ad, cd, rfl⟩ := own_len9 hod
 have had : (ad = none ∧ ds.length = 0 ∧ cd = 0) ∨ ∃ g, ad = some ⟨g, 0, none⟩ := by
  rcases hod.2 with ⟨h, h0⟩ | ⟨g, cap, cur, h, _⟩
  ·
   simp only [Value.slice.injEq] at h
   exact .inl ⟨h.1, h0, h.2.2⟩
  ·
   simp only [Value.slice.injEq] at h
   exact .inr ⟨g, h.1⟩
 have HAD := Lib.hid had
 clear had
 have HR := Lib.hid ((Rds.ofOwns hod).below ((Below.refl w1.heap.size w1).alloc (Nat.le_refl _) (.cells #[.int .i64 O, .int .i64 E, .int .i64 M, .slice ap ps.length cp, .slice ac cs.length cc] 33)))
 have hdd : DdLen ds := fun k d hk => by have := hds d (List.mem_of_getElem? hk); unfold maxLen; omega
 have HDL := Lib.hid hdd
 have hsv : SomeV (.slice ap ps.length cp) ps.length := own_somev HD.out.own.plan
 have HSV := Lib.hid hsv
 clear hod hds hdd hsv
 obtain ⟨⟨⟨O', E', M'⟩, ⟨ps', cs'⟩, n⟩, hr⟩ : ∃ r : (Int × Int × Int) × (List ByteArray × List Cl) × Nat, runX O E M ps cs ds = r := ⟨_, rfl⟩
 have HRR := Lib.hid hr
 clear hr
 obtain ⟨eq0, eq1, eq2, eq3, eq4, -, -, -, -, -, eqlt⟩ := hE.box.five
 go_wp2_with fail
 refine (iExRun_any O E M _ _ _ ps cs ds _ hE.rd HSV.out HL.out HR.out HDL.out).mono ?_
 intro e w2 hq
 rw [HRR.out] at hq
 obtain ⟨vqX, vrX, rfl, hoX, hc⟩ := hq
 simp only at hoX
 clear eq0 eq1 eq2 eq3 eq4 eqlt
 have hE_ := hE.below hc
 clear hE
 have hE := hE_
 clear hE_
 have HR_ := Lib.hid (HR.out.below hc)
 clear HR
 have HR := HR_
 clear HR_
 have hbel_ := hbel.trans (Below.mono hc hbel.size)
 clear hbel hc
 have hbel := hbel_
 clear hbel_
 obtain ⟨aqX, cqX, arX, crX, rfl, rfl⟩ := agg_parts hoX
 have hX := EBx.new (O := O') (E := E') (M := M') hoX.rd
 clear hoX
 have hal : Below w2.heap.size w2 (w2.alloc (.cells #[.int .i64 O', .int .i64 E', .int .i64 M', .slice aqX ps'.length cqX, .slice arX cs'.length crX] 33)) := (Below.refl _ _).alloc (Nat.le_refl _) _
 have hE_ := hE.below hal
 clear hE
 have hE := hE_
 clear hE_
 have HR_ := Lib.hid (HR.out.below hal)
 clear HR
 have HR := HR_
 clear HR_
 have hbel_ := hbel.trans (Below.mono hal hbel.size)
 clear hbel hal
 have hbel := hbel_
 clear hbel_
 obtain ⟨eq0, eq1, eq2, eq3, eq4, -, -, -, -, -, eqlt⟩ := hE.box.five
 obtain ⟨xq0, xq1, xq2, xq3, xq4, -, -, -, -, -, xqlt⟩ := hX.box.five
 go_wp2_with fail
 refine (sExRun_any O E M _ _ _ ps cs ds _ hE.rd HSV.out HL.out HR.out HDL.out).mono ?_
 intro e w3 hq
 rw [HRR.out] at hq
 obtain ⟨vqY, vrY, rfl, hoY, hc⟩ := hq
 simp only at hoY
 clear eq0 eq1 eq2 eq3 eq4 xq0 xq1 xq2 xq3 xq4 eqlt xqlt
 have hE_ := hE.below hc
 clear hE
 have hE := hE_
 clear hE_
 have hX_ := hX.below hc
 clear hX
 have hX := hX_
 clear hX_
 have HR_ := Lib.hid (HR.out.below hc)
 clear HR
 have HR := HR_
 clear HR_
 have hbel_ := hbel.trans (Below.mono hc hbel.size)
 clear hbel hc
 have hbel := hbel_
 clear hbel_
 obtain ⟨aqY, cqY, arY, crY, rfl, rfl⟩ := agg_parts hoY
 have hY := EBx.new (O := O') (E := E') (M := M') hoY.rd
 clear hoY
 have hal : Below w3.heap.size w3 (w3.alloc (.cells #[.int .i64 O', .int .i64 E', .int .i64 M', .slice aqY ps'.length cqY, .slice arY cs'.length crY] 33)) := (Below.refl _ _).alloc (Nat.le_refl _) _
 have hE_ := hE.below hal
 clear hE
 have hE := hE_
 clear hE_
 have hX_ := hX.below hal
 clear hX
 have hX := hX_
 clear hX_
 have HR_ := Lib.hid (HR.out.below hal)
 clear HR
 have HR := HR_
 clear HR_
 have hbel_ := hbel.trans (Below.mono hal hbel.size)
 clear hbel hal
 have hbel := hbel_
 clear hbel_
 have hnn : ((n : Int) != (n : Int)) = false := by simp
 obtain ⟨eq0, eq1, eq2, eq3, eq4, -, -, -, -, -, eqlt⟩ := hE.box.five
 obtain ⟨xq0, xq1, xq2, xq3, xq4, -, -, -, -, -, xqlt⟩ := hX.box.five
 obtain ⟨yq0, yq1, yq2, yq3, yq4, -, -, -, -, -, yqlt⟩ := hY.box.five
 go_wp2_with fail
 refine (sameExchange_any O' E' M' O' E' M' _ _ _ _ ps' ps' cs' cs' _ hX.rd hY.rd).mono ?_
 rintro e w2 ⟨rfl, hc⟩
 clear eq0 eq1 eq2 eq3 eq4 xq0 xq1 xq2 xq3 xq4 yq0 yq1 yq2 yq3 yq4 eqlt xqlt yqlt
 have hE_ := hE.below hc
 clear hE
 have hE := hE_
 clear hE_
 have hX_ := hX.below hc
 clear hX
 have hX := hX_
 clear hX_
 have hY_ := hY.below hc
 clear hY
 have hY := hY_
 clear hY_
 have HR_ := Lib.hid (HR.out.below hc)
 clear HR
 have HR := HR_
 clear HR_
 have hbel_ := hbel.trans (Below.mono hc hbel.size)
 clear hbel hc
 have hbel := hbel_
 clear hbel_
 rw [sameB_yes]
 clear hY
 obtain ⟨eq0, eq1, eq2, eq3, eq4, -, -, -, -, -, eqlt⟩ := hE.box.five
 obtain ⟨xq0, xq1, xq2, xq3, xq4, -, -, -, -, -, xqlt⟩ := hX.box.five
 go_wp2_with fail
 refine (sExchangeValid_any O E M _ _ ps cs _ hE.rd HL.out).mono ?_
 rintro e w3 ⟨rfl, hc⟩
 clear eq0 eq1 eq2 eq3 eq4 xq0 xq1 xq2 xq3 xq4 eqlt xqlt
 have hE_ := hE.below hc
 clear hE
 have hE := hE_
 clear hE_
 have hX_ := hX.below hc
 clear hX
 have hX := hX_
 clear hX_
 have HR_ := Lib.hid (HR.out.below hc)
 clear HR
 have HR := HR_
 clear HR_
 have hbel_ := hbel.trans (Below.mono hc hbel.size)
 clear hbel hc
 have hbel := hbel_
 clear hbel_
 clear hnn
 obtain ⟨d, hd⟩ : ∃ d, exB O E M ps cs = d := ⟨_, rfl⟩
 have HX := Lib.hid hd
 rw [hd]
 clear hd
 cases d
 ·
  have hz : runX O E M ps cs ds = ((0, 0, 0), ([], []), 0) := runX_no HX.out
  rw [HRR.out] at hz
  simp only [Prod.mk.injEq] at hz
  obtain ⟨⟨rfl, rfl, rfl⟩, ⟨rfl, rfl⟩, rfl⟩ := hz
  obtain ⟨eq0, eq1, eq2, eq3, eq4, -, -, -, -, -, eqlt⟩ := hE.box.five
  obtain ⟨xq0, xq1, xq2, xq3, xq4, -, -, -, -, -, xqlt⟩ := hX.box.five
  go_wp2_with fail
  refine (noExchange_any 0 0 0 _ _ [] [] _ hX.rd).mono ?_
  rintro e w7 ⟨rfl, hc⟩
  rw [sameB_yes]
  clear eq0 eq1 eq2 eq3 eq4 xq0 xq1 xq2 xq3 xq4 eqlt xqlt
  have hbel_ := hbel.trans (Below.mono hc hbel.size)
  clear hbel hc hE hX
  have hbel := hbel_
  clear hbel_
  go_wp2_with fail
  refine (alive_any _).mono ?_
  rintro e w4 ⟨rfl, hc⟩
  have hbel_ := hbel.trans (Below.mono hc hbel.size)
  clear hc
  go_wp2
  go_returns
  exact ⟨rfl, hbel_⟩
 have HOK := Lib.hid ((exB_iff _ _ _ _ _).1 HX.out)
 obtain ⟨hrun, rfl, rfl, rfl⟩ : runL E M ps cs ds = ((ps', cs'), n) ∧ O' = O ∧ E' = E ∧ M' = M := by
  have h := HRR.out
  rw [runX_yes HX.out] at h
  simp only [Prod.mk.injEq] at h
  obtain ⟨⟨h1, h2, h3⟩, h4⟩ := h
  exact ⟨h4, h1.symm, h2.symm, h3.symm⟩
 obtain ⟨hf, hhf⟩ : ∃ hf : Nat, ds.length / 2 = hf := ⟨_, rfl⟩
 have hf1 : hf ≤ ds.length := by omega
 obtain ⟨⟨⟨pa, ca⟩, na⟩, hra⟩ : ∃ r, runL E' M' ps cs (ds.take hf) = r := ⟨_, rfl⟩
 obtain ⟨⟨⟨pb, cb⟩, nb⟩, hrb⟩ : ∃ r, runL E' M' pa ca (ds.drop hf) = r := ⟨_, rfl⟩
 have hokA : ExOk O' E' M' pa ca := by have := run_ok HOK.out (ds.take hf); rw [hra] at this; exact this
 have happ := run_app (E := E') (M := M') ps cs (ds.take hf) (ds.drop hf)
 rw [List.take_append_drop, hrun, hra] at happ
 simp only at happ
 rw [hrb] at happ
 simp only [Prod.mk.injEq] at happ
 obtain ⟨⟨rfl, rfl⟩, hnab⟩ := happ
 have HRA : Hid (runX O' E' M' ps cs (ds.take hf) = ((O', E', M'), (pa, ca), na)) := by unfold Hid; rw [runX_yes HX.out, hra]
 have HXA : Hid (exB O' E' M' pa ca = true) := (exB_iff _ _ _ _ _).2 hokA
 have HRB : Hid (runX O' E' M' pa ca (ds.drop hf) = ((O', E', M'), (ps', cs'), nb)) := by unfold Hid; rw [runX_yes HXA.out, hrb]
 have hokB : ExOk O' E' M' ps' cs' := by have := run_ok hokA (ds.drop hf); rw [hrb] at this; exact this
 have HXB : Hid (exB O' E' M' ps' cs' = true) := (exB_iff _ _ _ _ _).2 hokB
 have HLA : Hid (StLen pa) := fun j t ht => by have := (numB_size (hokA.plan.at j t ht)).2.1; unfold maxLen; omega
 have HLB : Hid (StLen ps') := fun j t ht => by have := (numB_size (hokB.plan.at j t ht)).2.1; unfold maxLen; omega
 have hlenB : ps'.length = ps.length := by have h1 := HOK.out.len; have h2 := hokB.len; omega
 have HLENB := Lib.hid hlenB
 have hnb1 := run_le (E := E') (M := M') ps cs (ds.take hf)
 rw [hra] at hnb1
 have hnb2 := run_le (E := E') (M := M') pa ca (ds.drop hf)
 rw [hrb] at hnb2
 simp only [List.length_take, List.length_drop] at hnb1 hnb2
 have HNAB := Lib.hid hnab
 clear hrun hra hrb hokA hokB HRR hlenB hnab
 obtain ⟨m, hm⟩ : ∃ m, ds.length = m := ⟨_, rfl⟩
 have HM := Lib.hid hm
 rw [hm] at HR hdl hhf hf1 hnb1 hnb2 ⊢
 clear hm
 go_upto_region 10 with fail
 go_cut [9] (fun t9 wc => t9 = .int .i64 (hf : Nat) ∧ wc = w3)
 case first =>
  go_wp2_with fail
  go_meet
  exact ⟨by first | (congr 1; omega) | go_num, rfl⟩
 case rest =>
 obtain ⟨rfl, rfl⟩ := hcut
 have hcap : m ≤ cd := by
  obtain ⟨_, _, a', c', hsl, hcap, _⟩ := HR.out
  cases hsl
  exact hcap
 have htl : (ds.take hf).length = hf := by rw [List.length_take, HM.out]; omega
 have hdl2 : (ds.drop hf).length = m - hf := by rw [List.length_drop, HM.out]
 have HRT : Hid (Rds wc (.slice ad hf cd) (ds.take hf).length 3 (dcells (ds.take hf))) := by
  have h := Rds.take HR.out hf1
  unfold Hid
  rw [htl, dcells_take3]
  exact h
 have HDT : Hid (DdLen (ds.take hf)) := fun k d h => by
  obtain ⟨j, hj⟩ := List.mem_iff_getElem?.1 (List.mem_of_mem_take (List.mem_of_getElem? h))
  exact HDL.out j d hj
 have HDR : Hid (DdLen (ds.drop hf)) := fun k d h => by
  obtain ⟨j, hj⟩ := List.mem_iff_getElem?.1 (List.mem_of_mem_drop (List.mem_of_getElem? h))
  exact HDL.out j d hj
 have HTL := Lib.hid htl
 have HDL2 := Lib.hid hdl2
 have i1 : (0 : Int) ≤ (hf : Int) := by omega
 have i2 : (hf : Int) ≤ (cd : Int) := by omega
 clear htl hdl2
 generalize wc = W at *
 go_upto_region 11 with fail
 go_cut [10, 11] (fun tb tx wc => ∃ (b : Nat) (vq vr : Value), tb = .pointer (some ⟨b, 0, none⟩) ∧ tx = .int .i64 (na : Nat) ∧ ExRes W wc b O' E' M' vq vr pa ca)
 case first =>
  obtain ⟨eq0, eq1, eq2, eq3, eq4, -, -, -, -, -, eqlt⟩ := hE.box.five
  have HC : Hid (∀ w' : World, Below W.heap.size W w' → w'.cell? ⟨w1.heap.size, 0, none⟩ = some (.int .i64 O') ∧ w'.cell? ⟨w1.heap.size, 1, none⟩ = some (.int .i64 E') ∧ w'.cell? ⟨w1.heap.size, 2, none⟩ = some (.int .i64 M') ∧ w'.cell? ⟨w1.heap.size, 3, none⟩ = some (.slice ap ps.length cp) ∧ w'.cell? ⟨w1.heap.size, 4, none⟩ = some (.slice ac cs.length cc)) := fun w' hb => ⟨keep_below hb eq0, keep_below hb eq1, keep_below hb eq2, keep_below hb eq3, keep_below hb eq4⟩
  have hcS : Below W.heap.size W W.drew := (Below.refl _ _).drew
  clear eq0 eq1 eq2 eq3 eq4 eqlt
  go_wp2_with fail
  refine wp_region_held_drew (S := fun w' => w'.cell? ⟨w1.heap.size, 0, none⟩ = some (.int .i64 O') ∧ w'.cell? ⟨w1.heap.size, 1, none⟩ = some (.int .i64 E') ∧ w'.cell? ⟨w1.heap.size, 2, none⟩ = some (.int .i64 M') ∧ w'.cell? ⟨w1.heap.size, 3, none⟩ = some (.slice ap ps.length cp) ∧ w'.cell? ⟨w1.heap.size, 4, none⟩ = some (.slice ac cs.length cc)) (by kernel_rfl) (HC.out _ hcS) (fun hHeld => ?_)
  refine take_y 0 59 (v := ?_) rfl ?_ ?_; rotate_left; focus (intro w hSw; (try dsimp only at hSw); go_simp; (try rw [if_neg (by omega)]); (try with_reducible rfl))
  try simp only [Act.put, zp1, zp2, zp3]
  refine take_y 1 60 (v := ?_) rfl ?_ ?_; rotate_left; focus (intro w hSw; (try dsimp only at hSw); go_simp; (try rw [if_neg (by omega)]); (try with_reducible rfl))
  try simp only [Act.put, zp1, zp2, zp3]
  refine take_y 2 61 (v := ?_) rfl ?_ ?_; rotate_left; focus (intro w hSw; (try dsimp only at hSw); go_simp; (try rw [if_neg (by omega)]); (try with_reducible rfl))
  try simp only [Act.put, zp1, zp2, zp3]
  refine take_y 3 62 (v := ?_) rfl ?_ ?_; rotate_left; focus (intro w hSw; (try dsimp only at hSw); go_simp; (try rw [if_neg (by omega)]); (try with_reducible rfl))
  try simp only [Act.put, zp1, zp2, zp3]
  refine wpAnyH_ready (rs := [4, 8]) (by kernel_rfl) (by simp) ?_
  refine AllReadyH.cons rfl (fun K hK => ?_) (AllReadyH.cons rfl (fun K hK => ?_) AllReadyH.nil)
  focus
   go_simp
   refine (iExRun_any O' E' M' _ _ _ ps cs (ds.take hf) _ (hE.rd.below hcS) HSV.out HL.out (HRT.out.below hcS) HDT.out).mono ?_
   intro e w8 hq
   rw [HRA.out] at hq
   obtain ⟨vq, vr, rfl, ho, hc8⟩ := hq
   simp only at ho
   obtain ⟨aq, cq, ar, cr, rfl, rfl⟩ := agg_parts ho
   have hcA : Below W.heap.size W w8 := hcS.trans (Below.mono hc8 hcS.size)
   refine hK.out _ _ (HC.out _ hcA) (fun hHeld2 => ?_)
   clear hHeld hK K; have hHeld := hHeld2; clear hHeld2; try simp only [Act.put, zp1, zp2, zp3]
   refine take_y 5 58 (v := ?_) rfl ?_ ?_; rotate_left; focus (intro w hSw; (try dsimp only at hSw); go_simp; (try rw [if_neg (by omega)]); (try with_reducible rfl))
   try simp only [Act.put, zp1, zp2, zp3]
   refine take_y 6 64 (v := ?_) rfl ?_ ?_; rotate_left; focus (intro w hSw; (try dsimp only at hSw); go_simp; (try rw [if_neg (by omega)]); (try with_reducible rfl))
   try simp only [Act.put, zp1, zp2, zp3]
   refine take_y 7 65 (v := ?_) rfl ?_ ?_; rotate_left; focus (intro w hSw; (try dsimp only at hSw); go_simp; (try rw [if_neg (by omega)]); (try with_reducible rfl))
   try simp only [Act.put, zp1, zp2, zp3]
   refine wpAnyH_ready (rs := [8]) (by kernel_rfl) (by simp) ?_
   refine AllReadyH.cons rfl (fun K hK => ?_) AllReadyH.nil
   go_simp
   refine hK.out _ _ (HC.out _ (hcA.alloc hcA.size _)) (fun hHeld2 => ?_)
   clear hHeld hK K; have hHeld := hHeld2; clear hHeld2; try simp only [Act.put, zp1, zp2, zp3]
   refine wpAnyH_ready (rs := [9]) (by kernel_rfl) (by simp) ?_
   refine AllReadyH.cons rfl (fun K hK => ?_) AllReadyH.nil
   go_simp
   refine hK.out _ _ (HC.out _ (hcA.alloc hcA.size _)) (fun hHeld2 => ?_)
   clear hHeld hK K; have hHeld := hHeld2; clear hHeld2; try simp only [Act.put, zp1, zp2, zp3]
   have hRS := ExRes.mkA (O := O') (E := E') (M := M') hcA ho hcS.size
   refine take_y 10 11 (v := ?_) rfl ?_ ?_; rotate_left; focus (intro w hSw; (try dsimp only at hSw); go_simp; (try rw [if_neg (by omega)]); (try with_reducible rfl))
   try simp only [Act.put, zp1, zp2, zp3]
   refine wpAnyH_done (by kernel_rfl) ?_ _
   clear hHeld
   go_wp2_with fail
   go_meet
   exact ⟨_, _, _, rfl, rfl, hRS⟩
  focus
   go_simp
   have hXb := Blk.new (w := W.drew) (cs := #[.int .i64 0, .int .i64 0, .int .i64 0, .slice none 0 0, .slice none 0 0]) (T := 33) (b := W.heap.size) rfl
   have hal : Below W.drew.heap.size W.drew (W.drew.alloc (.cells #[.int .i64 0, .int .i64 0, .int .i64 0, .slice none 0 0, .slice none 0 0] 33)) := (Below.refl _ _).alloc (Nat.le_refl _) _
   have hcB : Below W.heap.size W (W.drew.alloc (.cells #[.int .i64 0, .int .i64 0, .int .i64 0, .slice none 0 0, .slice none 0 0] 33)) := hcS.trans (Below.mono hal hcS.size)
   refine hK.out _ _ (HC.out _ hcB) (fun hHeld2 => ?_)
   clear hHeld hK K; have hHeld := hHeld2; clear hHeld2; try simp only [Act.put, zp1, zp2, zp3]
   refine wpAnyH_ready (rs := [4]) (by kernel_rfl) (by simp) ?_
   refine AllReadyH.cons rfl (fun K hK => ?_) AllReadyH.nil
   go_simp
   refine (iExRun_any O' E' M' _ _ _ ps cs (ds.take hf) _ (hE.rd.below hcB) HSV.out HL.out (HRT.out.below hcB) HDT.out).mono ?_
   intro e w8 hq
   rw [HRA.out] at hq
   obtain ⟨vq, vr, rfl, ho, hc8⟩ := hq
   simp only at ho
   obtain ⟨aq, cq, ar, cr, rfl, rfl⟩ := agg_parts ho
   have hcA : Below W.heap.size W w8 := hcB.trans (Below.mono hc8 hcB.size)
   have hbF := hXb.lt
   have gX := hXb.belowAll hc8
   refine hK.out _ _ (HC.out _ hcA) (fun hHeld2 => ?_)
   clear hHeld hK K; have hHeld := hHeld2; clear hHeld2; try simp only [Act.put, zp1, zp2, zp3]
   refine take_y 5 58 (v := ?_) rfl ?_ ?_; rotate_left; focus (intro w hSw; (try dsimp only at hSw); go_simp; (try rw [if_neg (by omega)]); (try with_reducible rfl))
   try simp only [Act.put, zp1, zp2, zp3]
   refine take_y 6 64 (v := ?_) rfl ?_ ?_; rotate_left; focus (intro w hSw; (try dsimp only at hSw); go_simp; (try rw [if_neg (by omega)]); (try with_reducible rfl))
   try simp only [Act.put, zp1, zp2, zp3]
   refine take_y 7 65 (v := ?_) rfl ?_ ?_; rotate_left; focus (intro w hSw; (try dsimp only at hSw); go_simp; (try rw [if_neg (by omega)]); (try with_reducible rfl))
   try simp only [Act.put, zp1, zp2, zp3]
   have hRS := ExRes.mkB (O := O') (E := E') (M := M') hcA gX (Nat.le_refl _) ho hbF
   obtain ⟨X0, X1, X2, X3, X4, Y0, Y1, Y2, Y3, Y4, Xlt⟩ := gX.five
   refine wpAnyH_ready (rs := [9]) (by kernel_rfl) (by simp) ?_
   refine AllReadyH.cons rfl (fun K hK => ?_) AllReadyH.nil
   go_simp
   refine hK.out _ _ (HC.out _ (by exact hRS.bel)) (fun hHeld2 => ?_)
   clear hHeld hK K; have hHeld := hHeld2; clear hHeld2; try simp only [Act.put, zp1, zp2, zp3]
   refine take_y 10 11 (v := ?_) rfl ?_ ?_; rotate_left; focus (intro w hSw; (try dsimp only at hSw); go_simp; (try rw [if_neg (by omega)]); (try with_reducible rfl))
   try simp only [Act.put, zp1, zp2, zp3]
   refine wpAnyH_done (by kernel_rfl) ?_ _
   clear hHeld
   go_wp2_with fail
   go_meet
   exact ⟨_, _, _, rfl, rfl, hRS⟩
 case rest =>
 obtain ⟨bA, vqA, vrA, rfl, rfl, hRS⟩ := hcut
 have hA : EBx wc bA O' E' M' vqA vrA pa ca := ⟨hRS.box, hRS.own.rd⟩
 have hsvA := Lib.hid (own_somev hRS.own.plan)
 have hc := hRS.bel
 clear hRS HRT
 have hE_ := hE.below hc
 clear hE
 have hE := hE_
 clear hE_
 have hX_ := hX.below hc
 clear hX
 have hX := hX_
 clear hX_
 have HR_ := Lib.hid (HR.out.below hc)
 clear HR
 have HR := HR_
 clear HR_
 have hbel_ := hbel.trans (Below.mono hc hbel.size)
 clear hbel hc
 have hbel := hbel_
 clear hbel_
 obtain ⟨aqA, cqA, arA, crA, rfl, rfl⟩ : ∃ a1 c1 a2 c2, vqA = .slice a1 pa.length c1 ∧ vrA = .slice a2 ca.length c2 := by
  obtain ⟨_, _, a1, c1, h1, _⟩ := hA.rd.plan
  obtain ⟨_, _, a2, c2, h2, _⟩ := hA.rd.calls
  exact ⟨a1, c1, a2, c2, h1, h2⟩
 clear W
 generalize wc = W at *
 go_upto_region 12 with fail
 go_cut [12, 13] (fun tb tx wc => ∃ (b : Nat) (vq vr : Value), tb = .pointer (some ⟨b, 0, none⟩) ∧ tx = .int .i64 (nb : Nat) ∧ ExRes W wc b O' E' M' vq vr ps' cs')
 case first =>
  rcases HAD.out with ⟨rfl, hm0, hcd0⟩ | ⟨g, rfl⟩
  ·
   rw [HM.out] at hm0
   subst hm0 hcd0
   have hf0 : hf = 0 := by omega
   subst hf0
   have HRD : Hid (Rds W (.slice none 0 0) (ds.drop 0).length 3 (dcells (ds.drop 0))) := by unfold Hid; rw [HDL2.out]; exact HR.out
   obtain ⟨aq0, aq1, aq2, aq3, aq4, -, -, -, -, -, aqlt⟩ := hA.box.five
   have HC : Hid (∀ w' : World, Below W.heap.size W w' → w'.cell? ⟨bA, 0, none⟩ = some (.int .i64 O') ∧ w'.cell? ⟨bA, 1, none⟩ = some (.int .i64 E') ∧ w'.cell? ⟨bA, 2, none⟩ = some (.int .i64 M') ∧ w'.cell? ⟨bA, 3, none⟩ = some (.slice aqA pa.length cqA) ∧ w'.cell? ⟨bA, 4, none⟩ = some (.slice arA ca.length crA)) := fun w' hb => ⟨keep_below hb aq0, keep_below hb aq1, keep_below hb aq2, keep_below hb aq3, keep_below hb aq4⟩
   have hcS : Below W.heap.size W W.drew := (Below.refl _ _).drew
   clear aq0 aq1 aq2 aq3 aq4 aqlt
   go_wp2_with fail
   refine wp_region_held_drew (S := fun w' => w'.cell? ⟨bA, 0, none⟩ = some (.int .i64 O') ∧ w'.cell? ⟨bA, 1, none⟩ = some (.int .i64 E') ∧ w'.cell? ⟨bA, 2, none⟩ = some (.int .i64 M') ∧ w'.cell? ⟨bA, 3, none⟩ = some (.slice aqA pa.length cqA) ∧ w'.cell? ⟨bA, 4, none⟩ = some (.slice arA ca.length crA)) (by kernel_rfl) (HC.out _ hcS) (fun hHeld => ?_)
   refine take_y 0 67 (v := ?_) rfl ?_ ?_; rotate_left; focus (intro w hSw; (try dsimp only at hSw); go_simp; (try rw [if_neg (by omega)]); (try with_reducible rfl))
   try simp only [Act.put, zp1, zp2, zp3]
   refine take_y 1 68 (v := ?_) rfl ?_ ?_; rotate_left; focus (intro w hSw; (try dsimp only at hSw); go_simp; (try rw [if_neg (by omega)]); (try with_reducible rfl))
   try simp only [Act.put, zp1, zp2, zp3]
   refine take_y 2 69 (v := ?_) rfl ?_ ?_; rotate_left; focus (intro w hSw; (try dsimp only at hSw); go_simp; (try rw [if_neg (by omega)]); (try with_reducible rfl))
   try simp only [Act.put, zp1, zp2, zp3]
   refine take_y 3 70 (v := ?_) rfl ?_ ?_; rotate_left; focus (intro w hSw; (try dsimp only at hSw); go_simp; (try rw [if_neg (by omega)]); (try with_reducible rfl))
   try simp only [Act.put, zp1, zp2, zp3]
   refine wpAnyH_ready (rs := [4, 8]) (by kernel_rfl) (by simp) ?_
   refine AllReadyH.cons rfl (fun K hK => ?_) (AllReadyH.cons rfl (fun K hK => ?_) AllReadyH.nil)
   focus
    go_simp
    refine (iExRun_any O' E' M' _ _ _ pa ca (ds.drop 0) _ (hA.rd.below hcS) hsvA.out HLA.out (HRD.out.below hcS) HDR.out).mono ?_
    intro e w8 hq
    rw [HRB.out] at hq
    obtain ⟨vq, vr, rfl, ho, hc8⟩ := hq
    simp only at ho
    obtain ⟨aq, cq, ar, cr, rfl, rfl⟩ := agg_parts ho
    have hcA : Below W.heap.size W w8 := hcS.trans (Below.mono hc8 hcS.size)
    refine hK.out _ _ (HC.out _ hcA) (fun hHeld2 => ?_)
    clear hHeld hK K; have hHeld := hHeld2; clear hHeld2; try simp only [Act.put, zp1, zp2, zp3]
    refine take_y 5 66 (v := ?_) rfl ?_ ?_; rotate_left; focus (intro w hSw; (try dsimp only at hSw); go_simp; (try rw [if_neg (by omega)]); (try with_reducible rfl))
    try simp only [Act.put, zp1, zp2, zp3]
    refine take_y 6 72 (v := ?_) rfl ?_ ?_; rotate_left; focus (intro w hSw; (try dsimp only at hSw); go_simp; (try rw [if_neg (by omega)]); (try with_reducible rfl))
    try simp only [Act.put, zp1, zp2, zp3]
    refine take_y 7 73 (v := ?_) rfl ?_ ?_; rotate_left; focus (intro w hSw; (try dsimp only at hSw); go_simp; (try rw [if_neg (by omega)]); (try with_reducible rfl))
    try simp only [Act.put, zp1, zp2, zp3]
    refine wpAnyH_ready (rs := [8]) (by kernel_rfl) (by simp) ?_
    refine AllReadyH.cons rfl (fun K hK => ?_) AllReadyH.nil
    go_simp
    refine hK.out _ _ (HC.out _ (hcA.alloc hcA.size _)) (fun hHeld2 => ?_)
    clear hHeld hK K; have hHeld := hHeld2; clear hHeld2; try simp only [Act.put, zp1, zp2, zp3]
    refine wpAnyH_ready (rs := [9]) (by kernel_rfl) (by simp) ?_
    refine AllReadyH.cons rfl (fun K hK => ?_) AllReadyH.nil
    go_simp
    refine hK.out _ _ (HC.out _ (hcA.alloc hcA.size _)) (fun hHeld2 => ?_)
    clear hHeld hK K; have hHeld := hHeld2; clear hHeld2; try simp only [Act.put, zp1, zp2, zp3]
    have hRS := ExRes.mkA (O := O') (E := E') (M := M') hcA ho hcS.size
    refine take_y 10 13 (v := ?_) rfl ?_ ?_; rotate_left; focus (intro w hSw; (try dsimp only at hSw); go_simp; (try rw [if_neg (by omega)]); (try with_reducible rfl))
    try simp only [Act.put, zp1, zp2, zp3]
    refine wpAnyH_done (by kernel_rfl) ?_ _
    clear hHeld
    go_wp2_with fail
    go_meet
    exact ⟨_, _, _, rfl, rfl, hRS⟩
   focus
    go_simp
    have hXb := Blk.new (w := W.drew) (cs := #[.int .i64 0, .int .i64 0, .int .i64 0, .slice none 0 0, .slice none 0 0]) (T := 33) (b := W.heap.size) rfl
    have hal : Below W.drew.heap.size W.drew (W.drew.alloc (.cells #[.int .i64 0, .int .i64 0, .int .i64 0, .slice none 0 0, .slice none 0 0] 33)) := (Below.refl _ _).alloc (Nat.le_refl _) _
    have hcB : Below W.heap.size W (W.drew.alloc (.cells #[.int .i64 0, .int .i64 0, .int .i64 0, .slice none 0 0, .slice none 0 0] 33)) := hcS.trans (Below.mono hal hcS.size)
    refine hK.out _ _ (HC.out _ hcB) (fun hHeld2 => ?_)
    clear hHeld hK K; have hHeld := hHeld2; clear hHeld2; try simp only [Act.put, zp1, zp2, zp3]
    refine wpAnyH_ready (rs := [4]) (by kernel_rfl) (by simp) ?_
    refine AllReadyH.cons rfl (fun K hK => ?_) AllReadyH.nil
    go_simp
    refine (iExRun_any O' E' M' _ _ _ pa ca (ds.drop 0) _ (hA.rd.below hcB) hsvA.out HLA.out (HRD.out.below hcB) HDR.out).mono ?_
    intro e w8 hq
    rw [HRB.out] at hq
    obtain ⟨vq, vr, rfl, ho, hc8⟩ := hq
    simp only at ho
    obtain ⟨aq, cq, ar, cr, rfl, rfl⟩ := agg_parts ho
    have hcA : Below W.heap.size W w8 := hcB.trans (Below.mono hc8 hcB.size)
    have hbF := hXb.lt
    have gX := hXb.belowAll hc8
    refine hK.out _ _ (HC.out _ hcA) (fun hHeld2 => ?_)
    clear hHeld hK K; have hHeld := hHeld2; clear hHeld2; try simp only [Act.put, zp1, zp2, zp3]
    refine take_y 5 66 (v := ?_) rfl ?_ ?_; rotate_left; focus (intro w hSw; (try dsimp only at hSw); go_simp; (try rw [if_neg (by omega)]); (try with_reducible rfl))
    try simp only [Act.put, zp1, zp2, zp3]
    refine take_y 6 72 (v := ?_) rfl ?_ ?_; rotate_left; focus (intro w hSw; (try dsimp only at hSw); go_simp; (try rw [if_neg (by omega)]); (try with_reducible rfl))
    try simp only [Act.put, zp1, zp2, zp3]
    refine take_y 7 73 (v := ?_) rfl ?_ ?_; rotate_left; focus (intro w hSw; (try dsimp only at hSw); go_simp; (try rw [if_neg (by omega)]); (try with_reducible rfl))
    try simp only [Act.put, zp1, zp2, zp3]
    have hRS := ExRes.mkB (O := O') (E := E') (M := M') hcA gX (Nat.le_refl _) ho hbF
    obtain ⟨X0, X1, X2, X3, X4, Y0, Y1, Y2, Y3, Y4, Xlt⟩ := gX.five
    refine wpAnyH_ready (rs := [9]) (by kernel_rfl) (by simp) ?_
    refine AllReadyH.cons rfl (fun K hK => ?_) AllReadyH.nil
    go_simp
    refine hK.out _ _ (HC.out _ (by exact hRS.bel)) (fun hHeld2 => ?_)
    clear hHeld hK K; have hHeld := hHeld2; clear hHeld2; try simp only [Act.put, zp1, zp2, zp3]
    refine take_y 10 13 (v := ?_) rfl ?_ ?_; rotate_left; focus (intro w hSw; (try dsimp only at hSw); go_simp; (try rw [if_neg (by omega)]); (try with_reducible rfl))
    try simp only [Act.put, zp1, zp2, zp3]
    refine wpAnyH_done (by kernel_rfl) ?_ _
    clear hHeld
    go_wp2_with fail
    go_meet
    exact ⟨_, _, _, rfl, rfl, hRS⟩
  ·
   obtain ⟨a2, ha2⟩ : ∃ a2, (if cd = hf then some (⟨g, 0, none⟩ : Addr) else some ⟨g, hf * 3, none⟩) = a2 := ⟨_, rfl⟩
   have HRD : Hid (Rds W (.slice a2 (m - hf) (cd - hf)) (ds.drop hf).length 3 (dcells (ds.drop hf))) := by
    have h := Rds.drop (m := hf) (cap' := cd - hf) (a' := a2) HR.out hf1 (by omega) (by intro _; rw [← ha2, if_neg (by omega)]; simp)
    unfold Hid
    rw [HDL2.out, dcells_drop3]
    exact h
   obtain ⟨aq0, aq1, aq2, aq3, aq4, -, -, -, -, -, aqlt⟩ := hA.box.five
   have HC : Hid (∀ w' : World, Below W.heap.size W w' → w'.cell? ⟨bA, 0, none⟩ = some (.int .i64 O') ∧ w'.cell? ⟨bA, 1, none⟩ = some (.int .i64 E') ∧ w'.cell? ⟨bA, 2, none⟩ = some (.int .i64 M') ∧ w'.cell? ⟨bA, 3, none⟩ = some (.slice aqA pa.length cqA) ∧ w'.cell? ⟨bA, 4, none⟩ = some (.slice arA ca.length crA)) := fun w' hb => ⟨keep_below hb aq0, keep_below hb aq1, keep_below hb aq2, keep_below hb aq3, keep_below hb aq4⟩
   have hcS : Below W.heap.size W W.drew := (Below.refl _ _).drew
   clear aq0 aq1 aq2 aq3 aq4 aqlt
   go_wp2_with fail
   refine wp_region_held_drew (S := fun w' => w'.cell? ⟨bA, 0, none⟩ = some (.int .i64 O') ∧ w'.cell? ⟨bA, 1, none⟩ = some (.int .i64 E') ∧ w'.cell? ⟨bA, 2, none⟩ = some (.int .i64 M') ∧ w'.cell? ⟨bA, 3, none⟩ = some (.slice aqA pa.length cqA) ∧ w'.cell? ⟨bA, 4, none⟩ = some (.slice arA ca.length crA)) (by kernel_rfl) (HC.out _ hcS) (fun hHeld => ?_)
   refine take_y 0 67 (v := ?_) rfl ?_ ?_; rotate_left; focus (intro w hSw; (try dsimp only at hSw); go_simp; (try rw [if_neg (by omega)]); (try with_reducible rfl))
   try simp only [Act.put, zp1, zp2, zp3]
   refine take_y 1 68 (v := ?_) rfl ?_ ?_; rotate_left; focus (intro w hSw; (try dsimp only at hSw); go_simp; (try rw [if_neg (by omega)]); (try with_reducible rfl))
   try simp only [Act.put, zp1, zp2, zp3]
   refine take_y 2 69 (v := ?_) rfl ?_ ?_; rotate_left; focus (intro w hSw; (try dsimp only at hSw); go_simp; (try rw [if_neg (by omega)]); (try with_reducible rfl))
   try simp only [Act.put, zp1, zp2, zp3]
   refine take_y 3 70 (v := ?_) rfl ?_ ?_; rotate_left; focus (intro w hSw; (try dsimp only at hSw); go_simp; (try rw [if_neg (by omega)]); (try with_reducible rfl))
   try simp only [Act.put, zp1, zp2, zp3]
   refine wpAnyH_ready (rs := [4, 8]) (by kernel_rfl) (by simp) ?_
   refine AllReadyH.cons rfl (fun K hK => ?_) (AllReadyH.cons rfl (fun K hK => ?_) AllReadyH.nil)
   focus
    go_simp
    refine (iExRun_any O' E' M' _ _ _ pa ca (ds.drop hf) _ (hA.rd.below hcS) hsvA.out HLA.out (HRD.out.below hcS) HDR.out).mono ?_
    intro e w8 hq
    rw [HRB.out] at hq
    obtain ⟨vq, vr, rfl, ho, hc8⟩ := hq
    simp only at ho
    obtain ⟨aq, cq, ar, cr, rfl, rfl⟩ := agg_parts ho
    have hcA : Below W.heap.size W w8 := hcS.trans (Below.mono hc8 hcS.size)
    refine hK.out _ _ (HC.out _ hcA) (fun hHeld2 => ?_)
    clear hHeld hK K; have hHeld := hHeld2; clear hHeld2; try simp only [Act.put, zp1, zp2, zp3]
    refine take_y 5 66 (v := ?_) rfl ?_ ?_; rotate_left; focus (intro w hSw; (try dsimp only at hSw); go_simp; (try rw [if_neg (by omega)]); (try with_reducible rfl))
    try simp only [Act.put, zp1, zp2, zp3]
    refine take_y 6 72 (v := ?_) rfl ?_ ?_; rotate_left; focus (intro w hSw; (try dsimp only at hSw); go_simp; (try rw [if_neg (by omega)]); (try with_reducible rfl))
    try simp only [Act.put, zp1, zp2, zp3]
    refine take_y 7 73 (v := ?_) rfl ?_ ?_; rotate_left; focus (intro w hSw; (try dsimp only at hSw); go_simp; (try rw [if_neg (by omega)]); (try with_reducible rfl))
    try simp only [Act.put, zp1, zp2, zp3]
    refine wpAnyH_ready (rs := [8]) (by kernel_rfl) (by simp) ?_
    refine AllReadyH.cons rfl (fun K hK => ?_) AllReadyH.nil
    go_simp
    refine hK.out _ _ (HC.out _ (hcA.alloc hcA.size _)) (fun hHeld2 => ?_)
    clear hHeld hK K; have hHeld := hHeld2; clear hHeld2; try simp only [Act.put, zp1, zp2, zp3]
    refine wpAnyH_ready (rs := [9]) (by kernel_rfl) (by simp) ?_
    refine AllReadyH.cons rfl (fun K hK => ?_) AllReadyH.nil
    go_simp
    refine hK.out _ _ (HC.out _ (hcA.alloc hcA.size _)) (fun hHeld2 => ?_)
    clear hHeld hK K; have hHeld := hHeld2; clear hHeld2; try simp only [Act.put, zp1, zp2, zp3]
    have hRS := ExRes.mkA (O := O') (E := E') (M := M') hcA ho hcS.size
    refine take_y 10 13 (v := ?_) rfl ?_ ?_; rotate_left; focus (intro w hSw; (try dsimp only at hSw); go_simp; (try rw [if_neg (by omega)]); (try with_reducible rfl))
    try simp only [Act.put, zp1, zp2, zp3]
    refine wpAnyH_done (by kernel_rfl) ?_ _
    clear hHeld
    go_wp2_with fail
    go_meet
    exact ⟨_, _, _, rfl, rfl, hRS⟩
   focus
    go_simp
    have hXb := Blk.new (w := W.drew) (cs := #[.int .i64 0, .int .i64 0, .int .i64 0, .slice none 0 0, .slice none 0 0]) (T := 33) (b := W.heap.size) rfl
    have hal : Below W.drew.heap.size W.drew (W.drew.alloc (.cells #[.int .i64 0, .int .i64 0, .int .i64 0, .slice none 0 0, .slice none 0 0] 33)) := (Below.refl _ _).alloc (Nat.le_refl _) _
    have hcB : Below W.heap.size W (W.drew.alloc (.cells #[.int .i64 0, .int .i64 0, .int .i64 0, .slice none 0 0, .slice none 0 0] 33)) := hcS.trans (Below.mono hal hcS.size)
    refine hK.out _ _ (HC.out _ hcB) (fun hHeld2 => ?_)
    clear hHeld hK K; have hHeld := hHeld2; clear hHeld2; try simp only [Act.put, zp1, zp2, zp3]
    refine wpAnyH_ready (rs := [4]) (by kernel_rfl) (by simp) ?_
    refine AllReadyH.cons rfl (fun K hK => ?_) AllReadyH.nil
    go_simp
    refine (iExRun_any O' E' M' _ _ _ pa ca (ds.drop hf) _ (hA.rd.below hcB) hsvA.out HLA.out (HRD.out.below hcB) HDR.out).mono ?_
    intro e w8 hq
    rw [HRB.out] at hq
    obtain ⟨vq, vr, rfl, ho, hc8⟩ := hq
    simp only at ho
    obtain ⟨aq, cq, ar, cr, rfl, rfl⟩ := agg_parts ho
    have hcA : Below W.heap.size W w8 := hcB.trans (Below.mono hc8 hcB.size)
    have hbF := hXb.lt
    have gX := hXb.belowAll hc8
    refine hK.out _ _ (HC.out _ hcA) (fun hHeld2 => ?_)
    clear hHeld hK K; have hHeld := hHeld2; clear hHeld2; try simp only [Act.put, zp1, zp2, zp3]
    refine take_y 5 66 (v := ?_) rfl ?_ ?_; rotate_left; focus (intro w hSw; (try dsimp only at hSw); go_simp; (try rw [if_neg (by omega)]); (try with_reducible rfl))
    try simp only [Act.put, zp1, zp2, zp3]
    refine take_y 6 72 (v := ?_) rfl ?_ ?_; rotate_left; focus (intro w hSw; (try dsimp only at hSw); go_simp; (try rw [if_neg (by omega)]); (try with_reducible rfl))
    try simp only [Act.put, zp1, zp2, zp3]
    refine take_y 7 73 (v := ?_) rfl ?_ ?_; rotate_left; focus (intro w hSw; (try dsimp only at hSw); go_simp; (try rw [if_neg (by omega)]); (try with_reducible rfl))
    try simp only [Act.put, zp1, zp2, zp3]
    have hRS := ExRes.mkB (O := O') (E := E') (M := M') hcA gX (Nat.le_refl _) ho hbF
    obtain ⟨X0, X1, X2, X3, X4, Y0, Y1, Y2, Y3, Y4, Xlt⟩ := gX.five
    refine wpAnyH_ready (rs := [9]) (by kernel_rfl) (by simp) ?_
    refine AllReadyH.cons rfl (fun K hK => ?_) AllReadyH.nil
    go_simp
    refine hK.out _ _ (HC.out _ (by exact hRS.bel)) (fun hHeld2 => ?_)
    clear hHeld hK K; have hHeld := hHeld2; clear hHeld2; try simp only [Act.put, zp1, zp2, zp3]
    refine take_y 10 13 (v := ?_) rfl ?_ ?_; rotate_left; focus (intro w hSw; (try dsimp only at hSw); go_simp; (try rw [if_neg (by omega)]); (try with_reducible rfl))
    try simp only [Act.put, zp1, zp2, zp3]
    refine wpAnyH_done (by kernel_rfl) ?_ _
    clear hHeld
    go_wp2_with fail
    go_meet
    exact ⟨_, _, _, rfl, rfl, hRS⟩
 case rest =>
 obtain ⟨bB, vqB, vrB, rfl, rfl, hRS⟩ := hcut
 have hB : EBx wc bB O' E' M' vqB vrB ps' cs' := ⟨hRS.box, hRS.own.rd⟩
 have hc := hRS.bel
 clear hRS hA hsvA HR
 have hE_ := hE.below hc
 clear hE
 have hE := hE_
 clear hE_
 have hX_ := hX.below hc
 clear hX
 have hX := hX_
 clear hX_
 have hbel_ := hbel.trans (Below.mono hc hbel.size)
 clear hbel hc
 have hbel := hbel_
 clear hbel_
 obtain ⟨aqB, cqB, arB, crB, rfl, rfl⟩ : ∃ a1 c1 a2 c2, vqB = .slice a1 ps'.length c1 ∧ vrB = .slice a2 cs'.length c2 := by
  obtain ⟨_, _, a1, c1, h1, _⟩ := hB.rd.plan
  obtain ⟨_, _, a2, c2, h2, _⟩ := hB.rd.calls
  exact ⟨a1, c1, a2, c2, h1, h2⟩
 clear W
 generalize wc = W at *
 have hsum : ((na : Int) + (nb : Int) == (n : Int)) = true := by rw [HNAB.out]; simp
 have hlen : ((ps'.length : Int) == (ps.length : Int)) = true := by rw [HLENB.out]; simp
 have hna : (na : Int) + (nb : Int) ≤ 26 := by omega
 obtain ⟨eq0, eq1, eq2, eq3, eq4, -, -, -, -, -, eqlt⟩ := hE.box.five
 obtain ⟨xq0, xq1, xq2, xq3, xq4, -, -, -, -, -, xqlt⟩ := hX.box.five
 obtain ⟨bq0, bq1, bq2, bq3, bq4, -, -, -, -, -, bqlt⟩ := hB.box.five
 go_wp2_with fail
 refine (iExchangeValid_any O' E' M' _ _ ps' cs' _ hX.rd HLB.out).mono ?_
 rintro e w5 ⟨rfl, hc⟩
 clear eq0 eq1 eq2 eq3 eq4 xq0 xq1 xq2 xq3 xq4 bq0 bq1 bq2 bq3 bq4 eqlt xqlt bqlt
 have hE_ := hE.below hc
 clear hE
 have hE := hE_
 clear hE_
 have hX_ := hX.below hc
 clear hX
 have hX := hX_
 clear hX_
 have hB_ := hB.below hc
 clear hB
 have hB := hB_
 clear hB_
 have hbel_ := hbel.trans (Below.mono hc hbel.size)
 clear hbel hc
 have hbel := hbel_
 clear hbel_
 rw [HXB.out]
 obtain ⟨eq0, eq1, eq2, eq3, eq4, -, -, -, -, -, eqlt⟩ := hE.box.five
 obtain ⟨xq0, xq1, xq2, xq3, xq4, -, -, -, -, -, xqlt⟩ := hX.box.five
 obtain ⟨bq0, bq1, bq2, bq3, bq4, -, -, -, -, -, bqlt⟩ := hB.box.five
 go_wp2_with fail
 refine (sameExchange_any O' E' M' O' E' M' _ _ _ _ ps' ps' cs' cs' _ hB.rd hX.rd).mono ?_
 rintro e w6 ⟨rfl, hc⟩
 clear eq0 eq1 eq2 eq3 eq4 xq0 xq1 xq2 xq3 xq4 bq0 bq1 bq2 bq3 bq4 eqlt xqlt bqlt
 have hE_ := hE.below hc
 clear hE
 have hE := hE_
 clear hE_
 have hX_ := hX.below hc
 clear hX
 have hX := hX_
 clear hX_
 have hB_ := hB.below hc
 clear hB
 have hB := hB_
 clear hB_
 have hbel_ := hbel.trans (Below.mono hc hbel.size)
 clear hbel hc
 have hbel := hbel_
 clear hbel_
 rw [sameB_yes]
 go_wp2
 go_returns
 exact ⟨rfl, hbel⟩

end Go.Proofs.Ytedadhoneebfnaa
