/- The walk of the law of ExLine (printed by gen_ay.py). -/
import Derived.Test.YtedadhoneebfnaaGreatDoorLy
import Derived.Test.YtedadhoneebfnaaGreatDoorSs
import Derived.Test.YtedadhoneebfnaaGreatDoorSm
import Derived.Test.YtedadhoneebfnaaGreatDoorAlive
set_option linter.unusedSimpArgs false
set_option linter.unusedVariables false
namespace Go.Proofs.YtedadhoneebfnaaGreatDoor
open Go.RowKit

set_option maxRecDepth 100000 in
set_option maxHeartbeats 8000000 in
theorem wExLine (a : Option Addr) (len cap : Nat) (zs : List Int) (w : World) (h0 : IsRow .u8 w a len cap zs) :
  Calls Tryz.prog 7 #[.slice a len cap] w fun e w' => e = .returned (.bool true) ∧ Below w.heap.size w w' := by
 have h := h0.code
 have hm := h.bd
 by_cases hbig : len > 1048576
 ·
  go_enter Tryz.func7, Tryz.ntmps7
  go_wp2
  go_returns
  exact ⟨rfl, Below.refl _ _⟩
 go_enter Tryz.func7, Tryz.ntmps7
 go_wp2_with fail
 refine (DrawExLine_any _ _ _ _ _ h).mono ?_
 rintro e w1 ⟨O, E, M, s, vp, vc, ps, cs, rfl, hs8, hd⟩
 obtain ⟨ap, cp, ac, cc, rfl, rfl⟩ := agg_parts hd.own
 have HL := Lib.hid hd.st.len
 have HD := Lib.hid hd
 have hE := EBx.new (O := O) (E := E) (M := M) hd.own.rd
 have hbel := hd.bel.alloc hd.bel.size (.cells #[.int .i64 O, .int .i64 E, .int .i64 M, .slice ap ps.length cp, .slice ac cs.length cc] 33)
 clear hd h h0 hbig hm
 have hsm : s.size ≤ 1100000 := by omega
 have HSM := Lib.hid hsm
 have HSV : Hid (SomeV (.slice ap ps.length cp) ps.length) := own_somev HD.out.own.plan
 have HSP : Hid ((⟨#[32]⟩ : ByteArray).size ≤ 1100000) := by unfold Hid; show 1 ≤ 1100000; omega
 clear HD hsm
 obtain ⟨⟨⟨O', E', M'⟩, ⟨ps', cs'⟩, t⟩, hr⟩ : ∃ r : (Int × Int × Int) × (List ByteArray × List Cl) × ByteArray, lineR O E M ps cs s = r := ⟨_, rfl⟩
 have HRR := Lib.hid hr
 clear hr
 obtain ⟨eq0, eq1, eq2, eq3, eq4, -, -, -, -, -, eqlt⟩ := hE.box.five
 go_wp2_with fail
 refine (iExLine_any O E M _ _ ps cs s _ hE.rd HSV.out HL.out HSM.out).mono ?_
 intro e w2 hq
 have hq4 := LineQ.res hq
 rw [HRR.out] at hq4
 obtain ⟨vqX, vrX, rfl, hoX, hc⟩ := hq4
 simp only at hoX
 clear hq
 clear eq0 eq1 eq2 eq3 eq4 eqlt
 replace hE := hE.below hc
 replace hbel := hbel.trans (Below.mono hc hbel.size)
 clear hc
 obtain ⟨aqX, cqX, arX, crX, rfl, rfl⟩ := agg_parts hoX
 have hX := EBx.new (O := O') (E := E') (M := M') hoX.rd
 have HSVX := Lib.hid (own_somev hoX.plan)
 clear hoX
 have hal : Below w2.heap.size w2 (w2.alloc (.cells #[.int .i64 O', .int .i64 E', .int .i64 M', .slice aqX ps'.length cqX, .slice arX cs'.length crX] 33)) := (Below.refl _ _).alloc (Nat.le_refl _) _
 replace hE := hE.below hal
 replace hbel := hbel.trans (Below.mono hal hbel.size)
 clear hal
 obtain ⟨eq0, eq1, eq2, eq3, eq4, -, -, -, -, -, eqlt⟩ := hE.box.five
 obtain ⟨xq0, xq1, xq2, xq3, xq4, -, -, -, -, -, xqlt⟩ := hX.box.five
 go_wp2_with fail
 refine (sExLine_any O E M _ _ ps cs s _ hE.rd HSV.out HL.out HSM.out).mono ?_
 intro e w3 hq
 have hq4 := LineQ.res hq
 rw [HRR.out] at hq4
 obtain ⟨vqY, vrY, rfl, hoY, hc⟩ := hq4
 simp only at hoY
 clear hq
 clear eq0 eq1 eq2 eq3 eq4 xq0 xq1 xq2 xq3 xq4 eqlt xqlt
 replace hE := hE.below hc
 replace hX := hX.below hc
 replace hbel := hbel.trans (Below.mono hc hbel.size)
 clear hc
 obtain ⟨aqY, cqY, arY, crY, rfl, rfl⟩ := agg_parts hoY
 have hY := EBx.new (O := O') (E := E') (M := M') hoY.rd
 have HSVY := Lib.hid (own_somev hoY.plan)
 clear hoY
 have hal : Below w3.heap.size w3 (w3.alloc (.cells #[.int .i64 O', .int .i64 E', .int .i64 M', .slice aqY ps'.length cqY, .slice arY cs'.length crY] 33)) := (Below.refl _ _).alloc (Nat.le_refl _) _
 replace hE := hE.below hal
 replace hX := hX.below hal
 replace hbel := hbel.trans (Below.mono hal hbel.size)
 clear hal
 have htt := str_eq (rfl : t = t)
 obtain ⟨eq0, eq1, eq2, eq3, eq4, -, -, -, -, -, eqlt⟩ := hE.box.five
 obtain ⟨xq0, xq1, xq2, xq3, xq4, -, -, -, -, -, xqlt⟩ := hX.box.five
 obtain ⟨yq0, yq1, yq2, yq3, yq4, -, -, -, -, -, yqlt⟩ := hY.box.five
 go_wp2_with fail
 refine (sameExchange_any O' E' M' O' E' M' _ _ _ _ ps' ps' cs' cs' _ hX.rd hY.rd).mono ?_
 rintro e w2 ⟨rfl, hc⟩
 clear eq0 eq1 eq2 eq3 eq4 xq0 xq1 xq2 xq3 xq4 yq0 yq1 yq2 yq3 yq4 eqlt xqlt yqlt
 replace hE := hE.below hc
 replace hX := hX.below hc
 replace hY := hY.below hc
 replace hbel := hbel.trans (Below.mono hc hbel.size)
 clear hc
 rw [sameB_yes]
 clear hY
 obtain ⟨eq0, eq1, eq2, eq3, eq4, -, -, -, -, -, eqlt⟩ := hE.box.five
 obtain ⟨xq0, xq1, xq2, xq3, xq4, -, -, -, -, -, xqlt⟩ := hX.box.five
 go_wp2_with fail
 refine (sExchangeValid_any O E M _ _ ps cs _ hE.rd HL.out).mono ?_
 rintro e w3 ⟨rfl, hc⟩
 clear eq0 eq1 eq2 eq3 eq4 xq0 xq1 xq2 xq3 xq4 eqlt xqlt
 replace hE := hE.below hc
 replace hX := hX.below hc
 replace hbel := hbel.trans (Below.mono hc hbel.size)
 clear hc
 clear htt
 obtain ⟨d, hd⟩ : ∃ d, exB O E M ps cs = d := ⟨_, rfl⟩
 have HX := Lib.hid hd
 rw [hd]
 clear hd
 cases d
 ·
  have hz := HRR.out
  rw [lineR_no _ HX.out] at hz
  simp only [Prod.mk.injEq] at hz
  obtain ⟨⟨rfl, rfl, rfl⟩, ⟨rfl, rfl⟩, rfl⟩ := hz
  obtain ⟨eq0, eq1, eq2, eq3, eq4, -, -, -, -, -, eqlt⟩ := hE.box.five
  obtain ⟨xq0, xq1, xq2, xq3, xq4, -, -, -, -, -, xqlt⟩ := hX.box.five
  go_wp2_with fail
  refine (noExchange_any 0 0 0 _ _ [] [] _ hX.rd).mono ?_
  rintro e w7 ⟨rfl, hc⟩
  rw [sameB_yes]
  have hbel_ := hbel.trans (Below.mono hc hbel.size)
  clear hbel hc hE
  have hbel := hbel_
  clear hbel_
  clear eq0 eq1 eq2 eq3 eq4 xq0 xq1 xq2 xq3 xq4 eqlt xqlt
  go_wp2_with fail
  refine (alive_any _).mono ?_
  rintro e w4 ⟨rfl, hc⟩
  have hbel_ := hbel.trans (Below.mono hc hbel.size)
  clear hc
  go_wp2
  go_returns
  exact ⟨rfl, hbel_⟩
 have HOK := Lib.hid ((exB_iff _ _ _ _ _).1 HX.out)
 have HSPR : Hid (lineR O E M ps cs ⟨#[32]⟩ = ((O, E, M), (ps, cs), awhat)) := by unfold Hid; rw [lineR_yes _ HX.out, line_space]
 have hz := HRR.out
 rw [lineR_yes _ HX.out] at hz
 simp only [Prod.mk.injEq] at hz
 obtain ⟨⟨hz1, hz2, hz3⟩, hz4⟩ := hz
 subst hz1 hz2 hz3
 have HLQ := Lib.hid hz4
 clear hz4
 have HOK2 : Hid (ExOk O E M ps' cs') := by have := line_ok HOK.out s; rw [HLQ.out] at this; exact this
 have HX2 : Hid (exB O E M ps' cs' = true) := (exB_iff _ _ _ _ _).2 HOK2.out
 have HL2 := Lib.hid HOK2.out.lens
 have HSAME : Hid (t ≠ aok → ps' = ps ∧ cs' = cs) := fun h => by
  have := line_same (E := E) (M := M) (ps := ps) (cs := cs) s (by rw [HLQ.out]; exact h)
  rw [HLQ.out] at this
  simpa using this
 obtain ⟨eq0, eq1, eq2, eq3, eq4, -, -, -, -, -, eqlt⟩ := hE.box.five
 obtain ⟨xq0, xq1, xq2, xq3, xq4, -, -, -, -, -, xqlt⟩ := hX.box.five
 go_wp2_with fail
 refine (iExLine_any O E M _ _ ps cs ⟨#[32]⟩ _ hE.rd HSV.out HL.out HSP.out).mono ?_
 intro e w6 hq
 have hq4 := LineQ.res hq
 rw [HSPR.out] at hq4
 obtain ⟨vqZ, vrZ, rfl, hoZ, hc⟩ := hq4
 simp only at hoZ
 clear hq
 clear eq0 eq1 eq2 eq3 eq4 xq0 xq1 xq2 xq3 xq4 eqlt xqlt
 replace hE := hE.below hc
 replace hX := hX.below hc
 replace hbel := hbel.trans (Below.mono hc hbel.size)
 clear hc
 obtain ⟨aqZ, cqZ, arZ, crZ, rfl, rfl⟩ := agg_parts hoZ
 have hZ := EBx.new (O := O) (E := E) (M := M) hoZ.rd
 have HSVZ := Lib.hid (own_somev hoZ.plan)
 clear hoZ
 have hal : Below w6.heap.size w6 (w6.alloc (.cells #[.int .i64 O, .int .i64 E, .int .i64 M, .slice aqZ ps.length cqZ, .slice arZ cs.length crZ] 33)) := (Below.refl _ _).alloc (Nat.le_refl _) _
 replace hE := hE.below hal
 replace hX := hX.below hal
 replace hbel := hbel.trans (Below.mono hal hbel.size)
 clear hal
 obtain ⟨eq0, eq1, eq2, eq3, eq4, -, -, -, -, -, eqlt⟩ := hE.box.five
 obtain ⟨xq0, xq1, xq2, xq3, xq4, -, -, -, -, -, xqlt⟩ := hX.box.five
 obtain ⟨zq0, zq1, zq2, zq3, zq4, -, -, -, -, -, zqlt⟩ := hZ.box.five
 go_wp2_with fail
 refine (iExchangeValid_any O E M _ _ ps' cs' _ hX.rd HL2.out).mono ?_
 rintro e w5 ⟨rfl, hc⟩
 clear eq0 eq1 eq2 eq3 eq4 xq0 xq1 xq2 xq3 xq4 zq0 zq1 zq2 zq3 zq4 eqlt xqlt zqlt
 replace hE := hE.below hc
 replace hX := hX.below hc
 replace hZ := hZ.below hc
 replace hbel := hbel.trans (Below.mono hc hbel.size)
 clear hc
 rw [HX2.out]
 have hww : (awhat.toList == [119, 104, 97, 116]) = true := by rw [ByteArray.toList_eq]; rfl
 by_cases ht : t = aok
 ·
  subst ht
  have hta : (aok.toList == [111, 107]) = true := by rw [ByteArray.toList_eq]; rfl
  clear HSAME HLQ HRR HOK2 HX2 HL2
  obtain ⟨eq0, eq1, eq2, eq3, eq4, -, -, -, -, -, eqlt⟩ := hE.box.five
  obtain ⟨xq0, xq1, xq2, xq3, xq4, -, -, -, -, -, xqlt⟩ := hX.box.five
  obtain ⟨zq0, zq1, zq2, zq3, zq4, -, -, -, -, -, zqlt⟩ := hZ.box.five
  go_wp2_with fail
  refine (sameExchange_any O E M O E M _ _ _ _ ps ps cs cs _ hZ.rd hE.rd).mono ?_
  rintro e w9 ⟨rfl, hc⟩
  rw [sameB_yes]
  have hbel_ := hbel.trans (Below.mono hc hbel.size)
  clear eq0 eq1 eq2 eq3 eq4 xq0 xq1 xq2 xq3 xq4 zq0 zq1 zq2 zq3 zq4 eqlt xqlt zqlt
  go_wp2
  go_returns
  exact ⟨by first | rfl | exact congrArg (fun b => Ending.returned (Value.bool b)) hww, hbel_⟩
 ·
  obtain ⟨rfl, rfl⟩ := HSAME.out ht
  have hta := str_ne ht
  rw [show aok.toList = [111, 107] from by rw [ByteArray.toList_eq]; rfl] at hta
  clear ht
  clear HSAME HLQ HRR HOK2 HX2 HL2
  obtain ⟨eq0, eq1, eq2, eq3, eq4, -, -, -, -, -, eqlt⟩ := hE.box.five
  obtain ⟨xq0, xq1, xq2, xq3, xq4, -, -, -, -, -, xqlt⟩ := hX.box.five
  obtain ⟨zq0, zq1, zq2, zq3, zq4, -, -, -, -, -, zqlt⟩ := hZ.box.five
  go_wp2_with fail
  refine (sameExchange_any O E M O E M _ _ _ _ _ _ _ _ _ hX.rd hE.rd).mono ?_
  rintro e w8 ⟨rfl, hc⟩
  rw [sameB_yes]
  clear eq0 eq1 eq2 eq3 eq4 xq0 xq1 xq2 xq3 xq4 zq0 zq1 zq2 zq3 zq4 eqlt xqlt zqlt
  replace hE := hE.below hc
  replace hX := hX.below hc
  replace hZ := hZ.below hc
  replace hbel := hbel.trans (Below.mono hc hbel.size)
  clear hc
  obtain ⟨eq0, eq1, eq2, eq3, eq4, -, -, -, -, -, eqlt⟩ := hE.box.five
  obtain ⟨xq0, xq1, xq2, xq3, xq4, -, -, -, -, -, xqlt⟩ := hX.box.five
  obtain ⟨zq0, zq1, zq2, zq3, zq4, -, -, -, -, -, zqlt⟩ := hZ.box.five
  go_wp2_with fail
  refine (sameExchange_any O E M O E M _ _ _ _ _ _ _ _ _ hZ.rd hE.rd).mono ?_
  rintro e w9 ⟨rfl, hc⟩
  rw [sameB_yes]
  have hbel_ := hbel.trans (Below.mono hc hbel.size)
  clear eq0 eq1 eq2 eq3 eq4 xq0 xq1 xq2 xq3 xq4 zq0 zq1 zq2 zq3 zq4 eqlt xqlt zqlt
  go_wp2
  go_returns
  exact ⟨by first | rfl | exact congrArg (fun b => Ending.returned (Value.bool b)) hww, hbel_⟩

end Go.Proofs.YtedadhoneebfnaaGreatDoor
