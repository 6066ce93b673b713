/- The walk of the law of ExDo (printed by gen_ax.py). -/
import Derived.Test.YtedadhoneebfnaaDwd
import Derived.Test.YtedadhoneebfnaaLb
import Derived.Test.YtedadhoneebfnaaSm
import Derived.Test.YtedadhoneebfnaaAlive
set_option linter.unusedSimpArgs false
set_option linter.unusedVariables false
namespace Go.Proofs.Ytedadhoneebfnaa
open Go.RowKit

set_option maxRecDepth 100000 in
set_option maxHeartbeats 16000000 in
theorem wExDo (a : Option Addr) (len cap : Nat) (zs : List Int) (w : World) (h0 : IsRow .u8 w a len cap zs) :
  Calls Try.prog 12 #[.slice a len cap] w fun e w' => e = .returned (.bool true) ∧ Below w.heap.size w w' := by
 have h := h0.code
 have hm := h.bd
 by_cases hbig : len > 1048576
 ·
  go_enter Try.func12, Try.ntmps12
  go_wp2
  go_returns
  exact ⟨rfl, Below.refl _ _⟩
 go_enter Try.func12, Try.ntmps12
 go_wp2_with fail
 refine (DrawExDo_any _ _ _ _ _ h).mono ?_
 rintro e w1 ⟨O, E, M, k, l, s, vp, vc, ps, cs, rfl, hs8, hd⟩
 obtain ⟨ap, cp, ac, cc, rfl, rfl⟩ := agg_parts hd.own
 have HL := Lib.hid hd.st.len
 have HLN := Lib.hid (And.intro hd.ln hd.cn)
 have hln := hd.ln
 have hsm : s.size ≤ maxLen := by unfold maxLen; omega
 have HSM := Lib.hid hsm
 have hsv : SomeV (.slice ap ps.length cp) ps.length := own_somev hd.own.plan
 have HSV := Lib.hid hsv
 have hE := (EBx.new (O := O) (E := E) (M := M) hd.own.rd).alloc (.cells #[.int .i64 k, .int .i64 l, .string s] 68)
 have hD := Blk.new (w := w1.alloc (.cells #[.int .i64 O, .int .i64 E, .int .i64 M, .slice ap ps.length cp, .slice ac cs.length cc] 33)) (cs := #[.int .i64 k, .int .i64 l, .string s]) (T := 68) (b := w1.heap.size + 1) (by simp)
 have hbel := (hd.bel.alloc hd.bel.size (.cells #[.int .i64 O, .int .i64 E, .int .i64 M, .slice ap ps.length cp, .slice ac cs.length cc] 33)).alloc (hd.bel.alloc hd.bel.size (.cells #[.int .i64 O, .int .i64 E, .int .i64 M, .slice ap ps.length cp, .slice ac cs.length cc] 33)).size (.cells #[.int .i64 k, .int .i64 l, .string s] 68)
 clear hd h h0 hbig hm hsm hsv
 obtain ⟨⟨⟨O', E', M'⟩, ⟨ps', cs'⟩, x⟩, hr⟩ : ∃ r : (Int × Int × Int) × (List ByteArray × List Cl) × Bool, doR O E M ps cs k l s = r := ⟨_, rfl⟩
 have HRR := Lib.hid hr
 clear hr
 obtain ⟨eq0, eq1, eq2, eq3, eq4, -, -, -, -, -, eqlt⟩ := hE.box.five
 obtain ⟨dq0, dq1, dq2, -, -, -, dqlt⟩ := hD.three
 go_wp2_with fail
 refine (iExDo_any O E M _ _ ps cs k l s _ hE.rd HSV.out HL.out HSM.out).mono ?_
 intro e w2 hq
 have hq4 := doXQ_res hq
 rw [HRR.out] at hq4
 obtain ⟨vqX, vrX, rfl, hoX, hc⟩ := hq4
 simp only at hoX
 clear hq
 clear eq0 eq1 eq2 eq3 eq4 eqlt
 clear dq0 dq1 dq2 dqlt
 have hE_ := hE.below hc
 clear hE
 have hE := hE_
 clear hE_
 have hD_ := hD.belowAll hc
 clear hD
 have hD := hD_
 clear hD_
 have hbel_ := hbel.trans (Below.mono hc hbel.size)
 clear hbel hc
 have hbel := hbel_
 clear hbel_
 obtain ⟨aqX, cqX, arX, crX, rfl, rfl⟩ := agg_parts hoX
 have hX := EBx.new (O := O') (E := E') (M := M') hoX.rd
 clear hoX
 have hal : Below w2.heap.size w2 (w2.alloc (.cells #[.int .i64 O', .int .i64 E', .int .i64 M', .slice aqX ps'.length cqX, .slice arX cs'.length crX] 33)) := (Below.refl _ _).alloc (Nat.le_refl _) _
 have hE_ := hE.below hal
 clear hE
 have hE := hE_
 clear hE_
 have hD_ := hD.belowAll hal
 clear hD
 have hD := hD_
 clear hD_
 have hbel_ := hbel.trans (Below.mono hal hbel.size)
 clear hbel hal
 have hbel := hbel_
 clear hbel_
 obtain ⟨eq0, eq1, eq2, eq3, eq4, -, -, -, -, -, eqlt⟩ := hE.box.five
 obtain ⟨xq0, xq1, xq2, xq3, xq4, -, -, -, -, -, xqlt⟩ := hX.box.five
 obtain ⟨dq0, dq1, dq2, -, -, -, dqlt⟩ := hD.three
 go_wp2_with fail
 refine (sExDo_any O E M _ _ ps cs k l s _ hE.rd HSV.out HL.out HSM.out).mono ?_
 intro e w3 hq
 have hq4 := doXQ_res hq
 rw [HRR.out] at hq4
 obtain ⟨vqY, vrY, rfl, hoY, hc⟩ := hq4
 simp only at hoY
 clear hq
 clear eq0 eq1 eq2 eq3 eq4 xq0 xq1 xq2 xq3 xq4 eqlt xqlt
 clear dq0 dq1 dq2 dqlt
 have hE_ := hE.below hc
 clear hE
 have hE := hE_
 clear hE_
 have hX_ := hX.below hc
 clear hX
 have hX := hX_
 clear hX_
 have hD_ := hD.belowAll hc
 clear hD
 have hD := hD_
 clear hD_
 have hbel_ := hbel.trans (Below.mono hc hbel.size)
 clear hbel hc
 have hbel := hbel_
 clear hbel_
 obtain ⟨aqY, cqY, arY, crY, rfl, rfl⟩ := agg_parts hoY
 have hY := EBx.new (O := O') (E := E') (M := M') hoY.rd
 clear hoY
 have hal : Below w3.heap.size w3 (w3.alloc (.cells #[.int .i64 O', .int .i64 E', .int .i64 M', .slice aqY ps'.length cqY, .slice arY cs'.length crY] 33)) := (Below.refl _ _).alloc (Nat.le_refl _) _
 have hE_ := hE.below hal
 clear hE
 have hE := hE_
 clear hE_
 have hX_ := hX.below hal
 clear hX
 have hX := hX_
 clear hX_
 have hD_ := hD.belowAll hal
 clear hD
 have hD := hD_
 clear hD_
 have hbel_ := hbel.trans (Below.mono hal hbel.size)
 clear hbel hal
 have hbel := hbel_
 clear hbel_
 have hxx : (x != x) = false := by cases x <;> rfl
 obtain ⟨eq0, eq1, eq2, eq3, eq4, -, -, -, -, -, eqlt⟩ := hE.box.five
 obtain ⟨xq0, xq1, xq2, xq3, xq4, -, -, -, -, -, xqlt⟩ := hX.box.five
 obtain ⟨yq0, yq1, yq2, yq3, yq4, -, -, -, -, -, yqlt⟩ := hY.box.five
 obtain ⟨dq0, dq1, dq2, -, -, -, dqlt⟩ := hD.three
 go_wp2_with fail
 refine (sameExchange_any O' E' M' O' E' M' _ _ _ _ ps' ps' cs' cs' _ hX.rd hY.rd).mono ?_
 rintro e w2 ⟨rfl, hc⟩
 clear eq0 eq1 eq2 eq3 eq4 xq0 xq1 xq2 xq3 xq4 yq0 yq1 yq2 yq3 yq4 eqlt xqlt yqlt
 clear dq0 dq1 dq2 dqlt
 have hE_ := hE.below hc
 clear hE
 have hE := hE_
 clear hE_
 have hX_ := hX.below hc
 clear hX
 have hX := hX_
 clear hX_
 have hY_ := hY.below hc
 clear hY
 have hY := hY_
 clear hY_
 have hD_ := hD.belowAll hc
 clear hD
 have hD := hD_
 clear hD_
 have hbel_ := hbel.trans (Below.mono hc hbel.size)
 clear hbel hc
 have hbel := hbel_
 clear hbel_
 rw [sameB_yes]
 clear hY
 obtain ⟨eq0, eq1, eq2, eq3, eq4, -, -, -, -, -, eqlt⟩ := hE.box.five
 obtain ⟨xq0, xq1, xq2, xq3, xq4, -, -, -, -, -, xqlt⟩ := hX.box.five
 obtain ⟨dq0, dq1, dq2, -, -, -, dqlt⟩ := hD.three
 go_wp2_with fail
 refine (sExchangeValid_any O E M _ _ ps cs _ hE.rd HL.out).mono ?_
 rintro e w3 ⟨rfl, hc⟩
 clear eq0 eq1 eq2 eq3 eq4 xq0 xq1 xq2 xq3 xq4 eqlt xqlt
 clear dq0 dq1 dq2 dqlt
 have hE_ := hE.below hc
 clear hE
 have hE := hE_
 clear hE_
 have hX_ := hX.below hc
 clear hX
 have hX := hX_
 clear hX_
 have hD_ := hD.belowAll hc
 clear hD
 have hD := hD_
 clear hD_
 have hbel_ := hbel.trans (Below.mono hc hbel.size)
 clear hbel hc
 have hbel := hbel_
 clear hbel_
 clear hxx
 obtain ⟨d, hd⟩ : ∃ d, exB O E M ps cs = d := ⟨_, rfl⟩
 have HX := Lib.hid hd
 rw [hd]
 clear hd
 cases d
 ·
  have hz : doR O E M ps cs k l s = ((0, 0, 0), ([], []), false) := by unfold doR; rw [HX.out]; rfl
  rw [HRR.out] at hz
  simp only [Prod.mk.injEq] at hz
  obtain ⟨⟨rfl, rfl, rfl⟩, ⟨rfl, rfl⟩, rfl⟩ := hz
  obtain ⟨eq0, eq1, eq2, eq3, eq4, -, -, -, -, -, eqlt⟩ := hE.box.five
  obtain ⟨xq0, xq1, xq2, xq3, xq4, -, -, -, -, -, xqlt⟩ := hX.box.five
  obtain ⟨dq0, dq1, dq2, -, -, -, dqlt⟩ := hD.three
  go_wp2_with fail
  refine (noExchange_any 0 0 0 _ _ [] [] _ hX.rd).mono ?_
  rintro e w7 ⟨rfl, hc⟩
  rw [sameB_yes]
  clear eq0 eq1 eq2 eq3 eq4 xq0 xq1 xq2 xq3 xq4 eqlt xqlt
  clear dq0 dq1 dq2 dqlt
  have hbel_ := hbel.trans (Below.mono hc hbel.size)
  clear hbel hc hE hX hD
  have hbel := hbel_
  clear hbel_
  go_wp2_with fail
  refine (alive_any _).mono ?_
  rintro e w4 ⟨rfl, hc⟩
  have hbel_ := hbel.trans (Below.mono hc hbel.size)
  clear hc
  go_wp2
  go_returns
  exact ⟨rfl, hbel_⟩
 have HOK := Lib.hid ((exB_iff _ _ _ _ _).1 HX.out)
 obtain ⟨tn, htn⟩ : ∃ tn, lineL ps s = tn := ⟨_, rfl⟩
 have HTN : Hid (lineX O E M ps cs s = tn) := by unfold Hid; rw [lineX_yes _ HX.out, htn]
 have HT := Lib.hid htn
 clear htn
 obtain ⟨eq0, eq1, eq2, eq3, eq4, -, -, -, -, -, eqlt⟩ := hE.box.five
 obtain ⟨xq0, xq1, xq2, xq3, xq4, -, -, -, -, -, xqlt⟩ := hX.box.five
 obtain ⟨dq0, dq1, dq2, -, -, -, dqlt⟩ := hD.three
 go_wp2_with fail
 refine (iLineOf_any O E M _ _ ps cs s _ hE.rd HL.out).mono ?_
 rintro e w5 ⟨rfl, hc⟩
 clear eq0 eq1 eq2 eq3 eq4 xq0 xq1 xq2 xq3 xq4 eqlt xqlt
 clear dq0 dq1 dq2 dqlt
 have hE_ := hE.below hc
 clear hE
 have hE := hE_
 clear hE_
 have hX_ := hX.below hc
 clear hX
 have hX := hX_
 clear hX_
 have hD_ := hD.belowAll hc
 clear hD
 have hD := hD_
 clear hD_
 have hbel_ := hbel.trans (Below.mono hc hbel.size)
 clear hbel hc
 have hbel := hbel_
 clear hbel_
 rw [HTN.out]
 obtain ⟨p1, hp1⟩ : ∃ p1, peerL cs l = p1 := ⟨_, rfl⟩
 obtain ⟨p2, hp2⟩ : ∃ p2, peerL cs tn = p2 := ⟨_, rfl⟩
 have HP1 : Hid (peerX O E M ps cs l = p1) := by unfold Hid; rw [peerX_yes _ HX.out, hp1]
 have HP2 : Hid (peerX O E M ps cs tn = p2) := by unfold Hid; rw [peerX_yes _ HX.out, hp2]
 obtain ⟨F, hF⟩ : ∃ F, decide (0 ≤ l ∧ l < ps.length ∧ 0 ≤ tn ∧ tn ≠ l ∧ p1 < 0 ∧ p2 < 0) = F := ⟨_, rfl⟩
 have HF := Lib.hid hF
 have HCALL : Hid (k = 0 → x = F) := by
  intro hk
  subst hk
  have h1 := call_done (E := E) (M := M) (ps := ps) (cs := cs) (line := l) (num := s)
  rw [HT.out, hp1, hp2] at h1
  have h2 : doR O E M ps cs 0 l s = ((O', E', M'), (ps', cs'), x) := HRR.out
  unfold doR at h2
  rw [if_pos HX.out] at h2
  rw [← hF]
  cases hdo : doL E M ps cs 0 l s with
  | none =>
   rw [hdo] at h1 h2
   simp only [Prod.mk.injEq] at h2
   rw [← h2.2.2]
   symm
   rw [decide_eq_false_iff_not]
   intro h3
   have := h1.2 h3
   simp at this
  | some y =>
   rw [hdo] at h1 h2
   simp only [Prod.mk.injEq] at h2
   rw [← h2.2.2]
   symm
   rw [decide_eq_true_iff]
   exact h1.1 rfl
 clear hp1 hp2 hF

 go_upto_region 11 with fail
 go_cut [10] (fun t10 wc => t10 = .bool F ∧ Below w5.heap.size w5 wc)
 case first =>
  by_cases h1 : 0 ≤ l
  case neg =>
   have hFf : F = false := by rw [← HF.out, decide_eq_false_iff_not]; exact fun h => h1 h.1
   subst hFf
   obtain ⟨eq0, eq1, eq2, eq3, eq4, -, -, -, -, -, eqlt⟩ := hE.box.five
   obtain ⟨dq0, dq1, dq2, -, -, -, dqlt⟩ := hD.three
   go_wp2_with fail
   go_meet
   exact ⟨rfl, Below.refl _ _⟩
  by_cases h2 : l < (ps.length : Int)
  case neg =>
   have hFf : F = false := by rw [← HF.out, decide_eq_false_iff_not]; exact fun h => h2 h.2.1
   subst hFf
   obtain ⟨eq0, eq1, eq2, eq3, eq4, -, -, -, -, -, eqlt⟩ := hE.box.five
   obtain ⟨dq0, dq1, dq2, -, -, -, dqlt⟩ := hD.three
   go_wp2_with fail
   go_meet
   exact ⟨rfl, Below.refl _ _⟩
  by_cases h3 : 0 ≤ tn
  case neg =>
   have hFf : F = false := by rw [← HF.out, decide_eq_false_iff_not]; exact fun h => h3 h.2.2.1
   subst hFf
   obtain ⟨eq0, eq1, eq2, eq3, eq4, -, -, -, -, -, eqlt⟩ := hE.box.five
   obtain ⟨dq0, dq1, dq2, -, -, -, dqlt⟩ := hD.three
   go_wp2_with fail
   go_meet
   exact ⟨rfl, Below.refl _ _⟩
  by_cases h4 : tn ≠ l
  case neg =>
   have hFf : F = false := by rw [← HF.out, decide_eq_false_iff_not]; exact fun h => h4 h.2.2.2.1
   subst hFf
   have h4' : (tn != l) = false := by simpa using h4
   clear h4
   obtain ⟨eq0, eq1, eq2, eq3, eq4, -, -, -, -, -, eqlt⟩ := hE.box.five
   obtain ⟨dq0, dq1, dq2, -, -, -, dqlt⟩ := hD.three
   go_wp2_with fail
   go_meet
   exact ⟨rfl, Below.refl _ _⟩
  have h4' : (tn != l) = true := by simpa using h4
  have H4 := Lib.hid h4
  clear h4
  obtain ⟨eq0, eq1, eq2, eq3, eq4, -, -, -, -, -, eqlt⟩ := hE.box.five
  obtain ⟨dq0, dq1, dq2, -, -, -, dqlt⟩ := hD.three
  go_wp2_with fail
  refine (iPeerOf_any O E M _ _ ps cs l _ hE.rd HL.out).mono ?_
  rintro e w7 ⟨rfl, hc7⟩
  rw [HP1.out]
  clear eq0 eq1 eq2 eq3 eq4 eqlt
  clear dq0 dq1 dq2 dqlt
  have hE7 := hE.below hc7
  have hD7 := hD.belowAll hc7
  by_cases h5 : p1 < 0
  case neg =>
   have hFf : F = false := by rw [← HF.out, decide_eq_false_iff_not]; exact fun h => h5 h.2.2.2.2.1
   subst hFf
   go_wp2_with fail
   go_meet
   exact ⟨rfl, hc7⟩
  obtain ⟨eq0, eq1, eq2, eq3, eq4, -, -, -, -, -, eqlt⟩ := hE7.box.five
  obtain ⟨dq0, dq1, dq2, -, -, -, dqlt⟩ := hD7.three
  go_wp2_with fail
  refine (iPeerOf_any O E M _ _ ps cs tn _ hE7.rd HL.out).mono ?_
  rintro e w8 ⟨rfl, hc8⟩
  rw [HP2.out]
  clear eq0 eq1 eq2 eq3 eq4 eqlt
  clear dq0 dq1 dq2 dqlt
  have hc9 := hc7.trans (Below.mono hc8 hc7.size)
  by_cases h6 : p2 < 0
  ·
   have hFf : F = true := by rw [← HF.out, decide_eq_true_iff]; exact ⟨h1, h2, h3, H4.out, h5, h6⟩
   subst hFf
   go_wp2_with fail
   go_meet
   exact ⟨by first | rfl | simp [h6], hc9⟩
  ·
   have hFf : F = false := by rw [← HF.out, decide_eq_false_iff_not]; exact fun h => h6 h.2.2.2.2.2
   subst hFf
   go_wp2_with fail
   go_meet
   exact ⟨by first | rfl | simp [h6], hc9⟩
 case rest =>
 obtain ⟨rfl, hc⟩ := hcut
 have hE_ := hE.below hc
 clear hE
 have hE := hE_
 clear hE_
 have hX_ := hX.below hc
 clear hX
 have hX := hX_
 clear hX_
 have hD_ := hD.belowAll hc
 clear hD
 have hD := hD_
 clear hD_
 have hbel_ := hbel.trans (Below.mono hc hbel.size)
 clear hbel hc
 have hbel := hbel_
 clear hbel_
 generalize wc = w10 at *
 have hkx : ((k == 0) = true ∧ (x != F) = false) ∨ (k == 0) = false := by
  by_cases hk : k = 0
  ·
   have := HCALL.out hk
   subst this
   exact .inl ⟨by simp [hk], by cases x <;> rfl⟩
  ·
   exact .inr (by simpa using hk)
 clear HCALL HF HP1 HP2
 go_upto_region 12 with fail
 go_cut [101] (fun t101 wc => t101 = .bool false ∧ wc = w10)
 case first =>
  obtain ⟨dq0, dq1, dq2, -, -, -, dqlt⟩ := hD.three
  rcases hkx with ⟨h1, h2⟩ | h1
  ·
   go_wp2_with fail
   go_meet
   exact ⟨by first | rfl | (show Value.bool (x != F) = _; rw [h2]), rfl⟩
  ·
   go_wp2_with fail
   go_meet
   exact ⟨rfl, rfl⟩
 case rest =>
 obtain ⟨rfl, rfl⟩ := hcut
 obtain ⟨w10, rfl⟩ : ∃ wo : World, wo = wc := ⟨_, rfl⟩
 clear hkx
 cases x
 ·
  have hz : ((O', E', M'), (ps', cs'), false) = ((O, E, M), (ps, cs), false) := by
   rw [← HRR.out]
   have h2 := HRR.out
   unfold doR at h2 ⊢
   rw [if_pos HX.out] at h2 ⊢
   cases hdo : doL E M ps cs k l s with
   | none => rfl
   | some y => rw [hdo] at h2; simp at h2
  simp only [Prod.mk.injEq] at hz
  obtain ⟨⟨rfl, rfl, rfl⟩, ⟨rfl, rfl⟩, -⟩ := hz
  obtain ⟨eq0, eq1, eq2, eq3, eq4, -, -, -, -, -, eqlt⟩ := hE.box.five
  obtain ⟨xq0, xq1, xq2, xq3, xq4, -, -, -, -, -, xqlt⟩ := hX.box.five
  go_wp2_with fail
  refine (sameExchange_any _ _ _ _ _ _ _ _ _ _ _ _ _ _ _ hX.rd hE.rd).mono ?_
  rintro e w11 ⟨rfl, hc⟩
  rw [sameB_yes]
  have hbel_ := hbel.trans (Below.mono hc hbel.size)
  clear eq0 eq1 eq2 eq3 eq4 xq0 xq1 xq2 xq3 xq4 eqlt xqlt
  go_wp2
  go_returns
  exact ⟨rfl, hbel_⟩
 obtain ⟨hdo, rfl, rfl, rfl⟩ : doL E M ps cs k l s = some (ps', cs') ∧ O' = O ∧ E' = E ∧ M' = M := by
  have h2 := HRR.out
  unfold doR at h2
  rw [if_pos HX.out] at h2
  cases hdo : doL E M ps cs k l s with
  | none => rw [hdo] at h2; simp at h2
  | some y =>
   rw [hdo] at h2
   simp only [Prod.mk.injEq] at h2
   obtain ⟨⟨h3, h4, h5⟩, h6, -⟩ := h2
   exact ⟨by rw [h6], h3.symm, h4.symm, h5.symm⟩
 have hOK' := do_ok HOK.out hdo
 have HX' : Hid (exB O' E' M' ps' cs' = true) := (exB_iff _ _ _ _ _).2 hOK'
 have HSD := Lib.hid (do_said HOK.out hdo)
 have HL' : Hid (StLen ps') := fun j t ht => by have := (numB_size (hOK'.plan.at j t ht)).2.1; unfold maxLen; omega
 have hlen' := do_plan_len hdo
 have HNE : Hid (sameB O' E' M' ps' cs' O' E' M' ps cs = false) := by
  unfold Hid sameB
  rw [decide_eq_false_iff_not]
  exact fun h => HSD.out.differ ⟨h.2.2.2.1, h.2.2.2.2⟩
 clear hOK' hdo HRR HOK hlen'
 have hbelL := hbel
 clear hbel
 obtain ⟨eq0, eq1, eq2, eq3, eq4, -, -, -, -, -, eqlt⟩ := hE.box.five
 go_wp2_with fail
 clear eq0 eq1 eq2 eq3 eq4 eqlt
 go_loopw [11] (fun i wr => ∃ j : Nat, i = .int .i64 j ∧ j ≤ ps.length ∧ Below w10.heap.size w10 wr) (fun i _ => ps.length - (intOf i).toNat)
 case atStart => exact ⟨0, rfl, Nat.zero_le _, Below.refl _ _⟩
 case round =>
  obtain ⟨j, rfl, hj, hbr⟩ := hrel
  have hE' := hE.below hbr
  have hX' := hX.below hbr
  have hD' := hD.belowAll hbr
  obtain ⟨eq0, eq1, eq2, eq3, eq4, -, -, -, -, -, eqlt⟩ := hE'.box.five
  obtain ⟨xq0, xq1, xq2, xq3, xq4, -, -, -, -, -, xqlt⟩ := hX'.box.five
  obtain ⟨dq0, dq1, dq2, -, -, -, dqlt⟩ := hD'.three
  by_cases hjn : j < ps.length
  ·
   obtain ⟨b, hb⟩ : ∃ b, peerL cs (j : Int) = b := ⟨_, rfl⟩
   obtain ⟨f, hf⟩ : ∃ f, peerL cs' (j : Int) = f := ⟨_, rfl⟩
   have HB : Hid (peerX O' E' M' ps cs (j : Int) = b) := by unfold Hid; rw [peerX_yes _ HX.out, hb]
   have HFf : Hid (peerX O' E' M' ps' cs' (j : Int) = f) := by unfold Hid; rw [peerX_yes _ HX'.out, hf]
   have HO : Hid (¬ ((j : Int) = l ∨ k = 0 ∧ (j : Int) = tn ∨ k = 1 ∧ b = l) → f = b) := by
    intro h
    have := HSD.out.other (j : Int)
    rw [HT.out, hb, hf] at this
    exact this h
   have HN : Hid (k = 2 → f = b) := by
    intro h
    have := HSD.out.number h (j : Int)
    rw [hb, hf] at this
    exact this
   clear hb hf
   go_wp2_with fail
   refine (iPeerOf_any O' E' M' _ _ ps cs (j : Int) _ hE'.rd HL.out).mono ?_
   rintro e w11 ⟨rfl, hc11⟩
   rw [HB.out]
   have hX2 := hX'.below hc11
   have hD2 := hD'.belowAll hc11
   have hE2 := hE'.below hc11
   clear eq0 eq1 eq2 eq3 eq4 eqlt xq0 xq1 xq2 xq3 xq4 xqlt dq0 dq1 dq2 dqlt hE' hX' hD'
   obtain ⟨xq0, xq1, xq2, xq3, xq4, -, -, -, -, -, xqlt⟩ := hX2.box.five
   go_wp2_with fail
   refine (iPeerOf_any O' E' M' _ _ ps' cs' (j : Int) _ hX2.rd HL'.out).mono ?_
   rintro e w12 ⟨rfl, hc12⟩
   rw [HFf.out]
   have hD3 := hD2.belowAll hc12
   have hbr3 := (hbr.trans (Below.mono hc11 hbr.size)).trans (Below.mono hc12 (hbr.trans (Below.mono hc11 hbr.size)).size)
   clear xq0 xq1 xq2 xq3 xq4 xqlt hX2 hD2 hE2 hbr hc11 hc12
   obtain ⟨dq0, dq1, dq2, -, -, -, dqlt⟩ := hD3.three
   go_upto_region 21 with fail
   go_cut [14] (fun t14 wc => wc = w12 ∧ ∃ m : Bool, t14 = .bool m ∧ (m = false → f = b))
   case first =>
    by_cases m1 : (j : Int) = l
    ·
     have m1' : ((j : Int) == l) = true := by simpa using m1
     clear m1
     go_wp2_with fail
     go_meet
     exact ⟨rfl, true, rfl, fun h => by cases h⟩
    have m1' : ((j : Int) == l) = false := by simpa using m1
    by_cases m2 : k = 0
    ·
     by_cases m3 : (j : Int) = tn
     ·
      have m3' : ((j : Int) == tn) = true := by simpa using m3
      have m2' : (k == 0) = true := by simpa using m2
      clear m1 m2 m3
      go_wp2_with fail
      go_meet
      exact ⟨rfl, true, rfl, fun h => by cases h⟩
     ·
      have m3' : ((j : Int) == tn) = false := by simpa using m3
      have hfb := HO.out (by omega)
      have HFB := Lib.hid hfb
      clear m1 m3 hfb
      subst m2
      go_wp2_with fail
      go_meet
      exact ⟨rfl, false, rfl, fun _ => HFB.out⟩
    have m2' : (k == 0) = false := by simpa using m2
    by_cases m4 : k = 1
    ·
     by_cases m5 : b = l
     ·
      have m5' : (b == l) = true := by simpa using m5
      clear m1 m2 m5
      subst m4
      go_wp2_with fail
      go_meet
      exact ⟨rfl, true, rfl, fun h => by cases h⟩
     ·
      have m5' : (b == l) = false := by simpa using m5
      have hfb := HO.out (by omega)
      have HFB := Lib.hid hfb
      clear m1 m2 m5 hfb
      subst m4
      go_wp2_with fail
      go_meet
      exact ⟨rfl, false, rfl, fun _ => HFB.out⟩
    ·
     have m4' : (k == 1) = false := by simpa using m4
     have hfb := HO.out (by omega)
     have HFB := Lib.hid hfb
     clear m1 m2 m4 hfb
     go_wp2_with fail
     go_meet
     exact ⟨rfl, false, rfl, fun _ => HFB.out⟩
   case rest =>
   obtain ⟨rfl, m, rfl, hm⟩ := hcut
   have hcase : (m = false ∧ (f != b) = false) ∨ (m = true ∧ ((k == 2) = false ∨ (k == 2) = true ∧ (f != b) = false)) := by
    cases m
    ·
     exact .inl ⟨rfl, by simpa using hm rfl⟩
    ·
     refine .inr ⟨rfl, ?_⟩
     by_cases h2 : k = 2
     ·
      exact .inr ⟨by simpa using h2, by simpa using HN.out h2⟩
     ·
      exact .inl (by simpa using h2)
   clear hm HO HN HB HFf
   go_upto_region 22 with fail
   go_cut [161] (fun t161 wc' => wc' = wc ∧ t161 = .bool false)
   case first =>
    rcases hcase with ⟨rfl, h1⟩ | ⟨rfl, h1 | ⟨h1, h2⟩⟩
    ·
     by_cases h2 : (k == 2) = true
     ·
      go_wp2_with fail
      go_meet
      exact ⟨rfl, rfl⟩
     ·
      have h2' : (k == 2) = false := by simpa using h2
      clear h2
      go_wp2_with fail
      go_meet
      exact ⟨rfl, rfl⟩
    ·
     go_wp2_with fail
     go_meet
     exact ⟨rfl, rfl⟩
    ·
     go_wp2_with fail
     go_meet
     exact ⟨rfl, rfl⟩
   case rest =>
   obtain ⟨hcc, rfl⟩ := hcut
   subst hcc
   clear hcase dq0 dq1 dq2 dqlt
   go_wp2_with fail
   go_roundw
   case rel => exact ⟨j + 1, by go_num, by omega, hbr3⟩
   case measure => simp [intOf]; omega
  ·
   obtain rfl : j = ps.length := by omega
   have hbel := hbelL.trans (Below.mono hbr hbelL.size)
   go_wp2_with fail
   refine (iExchangeValid_any O' E' M' _ _ ps' cs' _ hX'.rd HL'.out).mono ?_
   rintro e w11 ⟨rfl, hc⟩
   rw [HX'.out]
   have hE := hE'.below hc
   have hX := hX'.below hc
   have hD := hD'.belowAll hc
   have hbel2 := hbel.trans (Below.mono hc hbel.size)
   clear eq0 eq1 eq2 eq3 eq4 eqlt xq0 xq1 xq2 xq3 xq4 xqlt dq0 dq1 dq2 dqlt hE' hX' hD' hbel hc hbelL hbr
   obtain ⟨eq0, eq1, eq2, eq3, eq4, -, -, -, -, -, eqlt⟩ := hE.box.five
   obtain ⟨xq0, xq1, xq2, xq3, xq4, -, -, -, -, -, xqlt⟩ := hX.box.five
   go_wp2_with fail
   refine (sameExchange_any O' E' M' O' E' M' _ _ _ _ ps' ps cs' cs _ hX.rd hE.rd).mono ?_
   rintro e w12 ⟨rfl, hc⟩
   rw [HNE.out]
   have hX3 := hX.below hc
   have hD3 := hD.belowAll hc
   have hbel3 := hbel2.trans (Below.mono hc hbel2.size)
   clear eq0 eq1 eq2 eq3 eq4 eqlt xq0 xq1 xq2 xq3 xq4 xqlt hE hX hD hbel2 hc
   obtain ⟨xq0, xq1, xq2, xq3, xq4, -, -, -, -, -, xqlt⟩ := hX3.box.five
   obtain ⟨dq0, dq1, dq2, -, -, -, dqlt⟩ := hD3.three
   rcases HSD.out.kinds with hk | hk | hk
   ·
    have HP : Hid (peerX O' E' M' ps' cs' l = tn) := by unfold Hid; rw [peerX_yes _ HX'.out, HSD.out.call hk, HT.out]
    subst hk
    have htt : (tn == tn) = true := by simp
    go_wp2_with fail
    refine (iPeerOf_any O' E' M' _ _ ps' cs' l _ hX3.rd HL'.out).mono ?_
    rintro e w13 ⟨rfl, hc⟩
    rw [HP.out]
    have hbel4 := hbel3.trans (Below.mono hc hbel3.size)
    have hD4 := hD3.belowAll hc
    clear xq0 xq1 xq2 xq3 xq4 xqlt dq0 dq1 dq2 dqlt hX3 hD3 hc
    obtain ⟨dq0, dq1, dq2, -, -, -, dqlt⟩ := hD4.three
    go_wp2
    go_returns
    exact ⟨rfl, hbel4⟩
   ·
    have HP : Hid (peerX O' E' M' ps' cs' l = -1) := by unfold Hid; rw [peerX_yes _ HX'.out, HSD.out.drop hk]
    subst hk
    go_wp2_with fail
    refine (iPeerOf_any O' E' M' _ _ ps' cs' l _ hX3.rd HL'.out).mono ?_
    rintro e w13 ⟨rfl, hc⟩
    rw [HP.out]
    have hbel4 := hbel3.trans (Below.mono hc hbel3.size)
    clear xq0 xq1 xq2 xq3 xq4 xqlt dq0 dq1 dq2 dqlt hX3 hD3 hc
    go_wp2
    go_returns
    exact ⟨rfl, hbel4⟩
   ·
    subst hk
    go_wp2
    go_returns
    exact ⟨rfl, hbel3⟩

end Go.Proofs.Ytedadhoneebfnaa
