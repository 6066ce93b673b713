/- The walk of the law of ExLines (printed by gen_ay.py). -/
import Derived.Test.YtedadhoneebfnaaGreatDoorLy
import Derived.Test.YtedadhoneebfnaaGreatDoorLq2
import Derived.Test.YtedadhoneebfnaaGreatDoorSm
import Derived.Test.YtedadhoneebfnaaGreatDoorAlive
import Derived.Test.YtedadhoneebfnaaGreatDoorJ10
set_option linter.unusedSimpArgs false
set_option linter.unusedVariables false
namespace Go.Proofs.YtedadhoneebfnaaGreatDoor
open Go.RowKit

theorem strs_take (ps : List ByteArray) (k : Nat) : strs (ps.take k) = (strs ps).take k := by simp [strs, List.map_take]
theorem strs_drop (ps : List ByteArray) (k : Nat) : strs (ps.drop k) = (strs ps).drop k := by simp [strs, List.map_drop]
section
variable {P : Program} (w : World)
theorem wpList_append_rds_g {ops : Array Oper} {rest : List Oper} {o : Oper} {a : Act} {Q : Exit → Act → World → Prop} (hw : Region.wanted o (yielded ops a.tmps) = true) (s x : Operand) (t : TypeId)
  (ho : o.op = .call { callee := .builtin .append, args := #[s, x], argTypes := #[t, t] })
  (base : Nat) (e : TypeId) (i : TypeInfo) (z : Value) (size bytes : Nat) (ht : P.underlying t = some (.slice e)) (hi : P.info? e = some i) (hz : i.zero = some z)
  (hsize : i.size = size) (hby : i.bytes = bytes) (hzs : z.cells.size = size) (hsz : 0 < size)
  (v : Value) (n : Nat) (xs : List Value) (hs : a.eval s = v) (hown : w.ownsRow base e size v n xs)
  (u : Value) (m : Nat) (news : List Value) (hx : a.eval x = u) (hr : Rds w u m size news) (h1 : ∀ u ∈ news, u.oneCell' = true)
  (h63 : n + m ≤ maxLen) (hbytes : (n + m) * bytes ≤ 140737488355328) (hbase : base ≤ w.heap.size)
  (h : ∀ v' w', w'.ownsRow base e size v' (n + m) (xs ++ news) → w.grownBy w' v.ownBlock → (v'.ownBlock = v.ownBlock ∨ v'.ownBlock = some w.heap.size) → wpList P ops Q rest (a.put o.dst v') w') : wpList P ops Q (o :: rest) a w :=
 wpList_step fun _ hK => step_append_rds w hw s x t ho base e i z size bytes ht hi hz hsize hby hzs hsz v n xs hs hown u m news hx hr h1 h63 hbytes hbase fun v' w' h2 h3 h4 => hK _ _ (h v' w' h2 h3 h4)
end
theorem strs_oneY (ps : List ByteArray) : ∀ u ∈ strs ps, u.oneCell' = true := by
 intro u hu
 simp only [strs, List.mem_map] at hu
 obtain ⟨x, _, rfl⟩ := hu
 rfl

set_option maxRecDepth 100000 in
set_option maxHeartbeats 8000000 in
theorem wExLines (a : Option Addr) (len cap : Nat) (zs : List Int) (w : World) (h0 : IsRow .u8 w a len cap zs) :
  Calls Tryz.prog 5 #[.slice a len cap] w fun e w' => e = .returned (.bool true) ∧ Below w.heap.size w w' := by
 have h := h0.code
 have hm := h.bd
 by_cases hbig : len > 1048576
 ·
  go_enter Tryz.func5, Tryz.ntmps5
  go_wp2
  go_returns
  exact ⟨rfl, Below.refl _ _⟩
 go_enter Tryz.func5, Tryz.ntmps5
 go_wp2_with fail
 refine (DrawExLines_any _ _ _ _ _ h).mono ?_
 rintro e w1 ⟨O, E, M, vl, vp, vc, ps, cs, ls, rfl, hol, hll, hls, hd⟩
 obtain ⟨ap, cp, ac, cc, rfl, rfl⟩ := agg_parts hd.own
 have HL := Lib.hid hd.st.len
 have HD := Lib.hid hd
 have hE := EBx.new (O := O) (E := E) (M := M) hd.own.rd
 have hbel := hd.bel.alloc hd.bel.size (.cells #[.int .i64 O, .int .i64 E, .int .i64 M, .slice ap ps.length cp, .slice ac cs.length cc] 33)
 clear hd h h0 hbig hm
 obtain ⟨j0, hj, hy0, hy1, hy2⟩ := info_parts infoS8
 obtain ⟨ad, cd, rfl⟩ := own_len9 hol
 have had : (ad = none ∧ ls.length = 0 ∧ cd = 0) ∨ ∃ g, ad = some ⟨g, 0, none⟩ := by
  rcases hol.2 with ⟨h, h0⟩ | ⟨g, cap, cur, h, _⟩
  ·
   simp only [Value.slice.injEq] at h
   exact .inl ⟨h.1, h0, h.2.2⟩
  ·
   simp only [Value.slice.injEq] at h
   exact .inr ⟨g, h.1⟩
 have HAD := Lib.hid had
 clear had
 have HR := Lib.hid ((Rds.ofOwns hol).below ((Below.refl w1.heap.size w1).alloc (Nat.le_refl _) (.cells #[.int .i64 O, .int .i64 E, .int .i64 M, .slice ap ps.length cp, .slice ac cs.length cc] 33)))
 have HDL : Hid (∀ s ∈ ls, s.size ≤ 1100000) := fun s hs => by have := hls s hs; omega
 have HSV : Hid (SomeV (.slice ap ps.length cp) ps.length) := own_somev HD.out.own.plan
 clear hol hls HD
 obtain ⟨⟨⟨O', E', M'⟩, ⟨ps', cs'⟩, av⟩, hr⟩ : ∃ r : (Int × Int × Int) × (List ByteArray × List Cl) × List ByteArray, linesR O E M ps cs ls = r := ⟨_, rfl⟩
 have HRR := Lib.hid hr
 have hav := (linesR_small O E M ps cs ls).2.2
 rw [hr] at hav
 simp only at hav
 clear hr
 obtain ⟨eq0, eq1, eq2, eq3, eq4, -, -, -, -, -, eqlt⟩ := hE.box.five
 go_wp2_with fail
 refine (iExLines_any O E M _ _ _ ps cs ls _ hE.rd HSV.out HL.out HR.out HDL.out).mono ?_
 intro e w2 hq
 rw [HRR.out] at hq
 unfold LinesPost at hq
 simp only at hq
 obtain ⟨vqX, vrX, vaX, rfl, hoX, hroX, -, hc⟩ := hq
 obtain ⟨aaX, caX, rfl⟩ := own_len9 hroX
 clear eq0 eq1 eq2 eq3 eq4 eqlt
 replace hE := hE.below hc
 replace HR := Lib.hid (HR.out.below hc)
 replace hbel := hbel.trans (Below.mono hc hbel.size)
 clear hc
 have HAX := Lib.hid (Rds.ofOwns hroX)
 clear hroX
 obtain ⟨aqX, cqX, arX, crX, rfl, rfl⟩ := agg_parts hoX
 have hX := EBx.new (O := O') (E := E') (M := M') hoX.rd
 have HSVX := Lib.hid (own_somev hoX.plan)
 clear hoX
 have hal : Below w2.heap.size w2 (w2.alloc (.cells #[.int .i64 O', .int .i64 E', .int .i64 M', .slice aqX ps'.length cqX, .slice arX cs'.length crX] 33)) := (Below.refl _ _).alloc (Nat.le_refl _) _
 replace hE := hE.below hal
 replace HR := Lib.hid (HR.out.below hal)
 replace HAX := Lib.hid (HAX.out.below hal)
 replace hbel := hbel.trans (Below.mono hal hbel.size)
 clear hal
 obtain ⟨eq0, eq1, eq2, eq3, eq4, -, -, -, -, -, eqlt⟩ := hE.box.five
 obtain ⟨xq0, xq1, xq2, xq3, xq4, -, -, -, -, -, xqlt⟩ := hX.box.five
 go_wp2_with fail
 refine (sExLines_any O E M _ _ _ ps cs ls _ hE.rd HSV.out HL.out HR.out HDL.out).mono ?_
 intro e w3 hq
 rw [HRR.out] at hq
 unfold LinesPost at hq
 simp only at hq
 obtain ⟨vqY, vrY, vaY, rfl, hoY, hroY, -, hc⟩ := hq
 obtain ⟨aaY, caY, rfl⟩ := own_len9 hroY
 clear eq0 eq1 eq2 eq3 eq4 xq0 xq1 xq2 xq3 xq4 eqlt xqlt
 replace hE := hE.below hc
 replace hX := hX.below hc
 replace HR := Lib.hid (HR.out.below hc)
 replace HAX := Lib.hid (HAX.out.below hc)
 replace hbel := hbel.trans (Below.mono hc hbel.size)
 clear hc
 have HAY := Lib.hid (Rds.ofOwns hroY)
 clear hroY
 obtain ⟨aqY, cqY, arY, crY, rfl, rfl⟩ := agg_parts hoY
 have hY := EBx.new (O := O') (E := E') (M := M') hoY.rd
 have HSVY := Lib.hid (own_somev hoY.plan)
 clear hoY
 have hal : Below w3.heap.size w3 (w3.alloc (.cells #[.int .i64 O', .int .i64 E', .int .i64 M', .slice aqY ps'.length cqY, .slice arY cs'.length crY] 33)) := (Below.refl _ _).alloc (Nat.le_refl _) _
 replace hE := hE.below hal
 replace hX := hX.below hal
 replace HR := Lib.hid (HR.out.below hal)
 replace HAX := Lib.hid (HAX.out.below hal)
 replace HAY := Lib.hid (HAY.out.below hal)
 replace hbel := hbel.trans (Below.mono hal hbel.size)
 clear hal
 obtain ⟨eq0, eq1, eq2, eq3, eq4, -, -, -, -, -, eqlt⟩ := hE.box.five
 obtain ⟨xq0, xq1, xq2, xq3, xq4, -, -, -, -, -, xqlt⟩ := hX.box.five
 obtain ⟨yq0, yq1, yq2, yq3, yq4, -, -, -, -, -, yqlt⟩ := hY.box.five
 go_wp2_with fail
 refine (sameExchange_any O' E' M' O' E' M' _ _ _ _ ps' ps' cs' cs' _ hX.rd hY.rd).mono ?_
 rintro e w2 ⟨rfl, hc⟩
 clear eq0 eq1 eq2 eq3 eq4 xq0 xq1 xq2 xq3 xq4 yq0 yq1 yq2 yq3 yq4 eqlt xqlt yqlt
 replace hE := hE.below hc
 replace hX := hX.below hc
 replace hY := hY.below hc
 replace HR := Lib.hid (HR.out.below hc)
 replace HAX := Lib.hid (HAX.out.below hc)
 replace HAY := Lib.hid (HAY.out.below hc)
 replace hbel := hbel.trans (Below.mono hc hbel.size)
 clear hc
 rw [sameB_yes]
 clear hY
 obtain ⟨eq0, eq1, eq2, eq3, eq4, -, -, -, -, -, eqlt⟩ := hE.box.five
 obtain ⟨xq0, xq1, xq2, xq3, xq4, -, -, -, -, -, xqlt⟩ := hX.box.five
 go_wp2_with fail
 refine (sameTexts_any _ _ av av _ HAX.out HAY.out).mono ?_
 rintro e w3 ⟨rfl, hc⟩
 clear eq0 eq1 eq2 eq3 eq4 xq0 xq1 xq2 xq3 xq4 eqlt xqlt
 replace hE := hE.below hc
 replace hX := hX.below hc
 replace HR := Lib.hid (HR.out.below hc)
 replace HAX := Lib.hid (HAX.out.below hc)
 replace HAY := Lib.hid (HAY.out.below hc)
 replace hbel := hbel.trans (Below.mono hc hbel.size)
 clear hc
 rw [decide_eq_true (rfl : av = av)]
 clear HAY
 obtain ⟨eq0, eq1, eq2, eq3, eq4, -, -, -, -, -, eqlt⟩ := hE.box.five
 obtain ⟨xq0, xq1, xq2, xq3, xq4, -, -, -, -, -, xqlt⟩ := hX.box.five
 go_wp2_with fail
 refine (sExchangeValid_any O E M _ _ ps cs _ hE.rd HL.out).mono ?_
 rintro e w4 ⟨rfl, hc⟩
 clear eq0 eq1 eq2 eq3 eq4 xq0 xq1 xq2 xq3 xq4 eqlt xqlt
 replace hE := hE.below hc
 replace hX := hX.below hc
 replace HR := Lib.hid (HR.out.below hc)
 replace HAX := Lib.hid (HAX.out.below hc)
 replace hbel := hbel.trans (Below.mono hc hbel.size)
 clear hc
 obtain ⟨m, hm⟩ : ∃ m, ls.length = m := ⟨_, rfl⟩
 have HM := Lib.hid hm
 rw [hm] at HR hll ⊢
 obtain ⟨d, hd⟩ : ∃ d, exB O E M ps cs = d := ⟨_, rfl⟩
 have HX := Lib.hid hd
 rw [hd]
 clear hd
 by_cases hz9 : d = false ∨ 40 < m
 ·
  have hz := HRR.out
  rw [linesR_no (by rcases hz9 with h | h; exact .inl (by rw [HX.out, h]); exact .inr (by rw [hm]; exact h))] at hz
  simp only [Prod.mk.injEq] at hz
  obtain ⟨⟨rfl, rfl, rfl⟩, ⟨rfl, rfl⟩, rfl⟩ := hz
  clear hm
  have hz10 : d = false ∨ (d = true ∧ 40 < m) := by
   cases d
   ·
    exact .inl rfl
   ·
    exact .inr ⟨rfl, hz9.resolve_left (by simp)⟩
  clear hz9
  rcases hz10 with rfl | ⟨rfl, h40⟩
  all_goals
   obtain ⟨eq0, eq1, eq2, eq3, eq4, -, -, -, -, -, eqlt⟩ := hE.box.five
   obtain ⟨xq0, xq1, xq2, xq3, xq4, -, -, -, -, -, xqlt⟩ := hX.box.five
   go_wp2_with fail
   refine (noExchange_any 0 0 0 _ _ [] [] _ hX.rd).mono ?_
   rintro e w7 ⟨rfl, hc⟩
   rw [sameB_yes]
   clear eq0 eq1 eq2 eq3 eq4 xq0 xq1 xq2 xq3 xq4 eqlt xqlt
   have hbel_ := hbel.trans (Below.mono hc hbel.size)
   clear hbel hc hE hX
   have hbel := hbel_
   clear hbel_
   go_wp2_with fail
   refine (alive_any _).mono ?_
   rintro e w8 ⟨rfl, hc⟩
   have hbel_ := hbel.trans (Below.mono hc hbel.size)
   clear hc
   go_wp2
   go_returns
   exact ⟨rfl, hbel_⟩
 obtain rfl : d = true := by cases d; exact absurd (.inl rfl) hz9; rfl
 have hm40 : m ≤ 40 := by omega
 clear hz9
 have HOK := Lib.hid ((exB_iff _ _ _ _ _).1 HX.out)
 obtain ⟨hrun, rfl, rfl, rfl⟩ : linesQ E M ps cs ls = ((ps', cs'), av) ∧ O' = O ∧ E' = E ∧ M' = M := by
  have h := HRR.out
  rw [linesR_yes HX.out (by omega)] at h
  simp only [Prod.mk.injEq] at h
  obtain ⟨⟨h1, h2, h3⟩, h4⟩ := h
  exact ⟨h4, h1.symm, h2.symm, h3.symm⟩
 obtain ⟨hf, hhf⟩ : ∃ hf : Nat, m / 2 = hf := ⟨_, rfl⟩
 have hf1 : hf ≤ m := by omega
 obtain ⟨⟨⟨pa, ca⟩, aA⟩, hra⟩ : ∃ r, linesQ E' M' ps cs (ls.take hf) = r := ⟨_, rfl⟩
 obtain ⟨⟨⟨pb, cb⟩, aB⟩, hrb⟩ : ∃ r, linesQ E' M' pa ca (ls.drop hf) = r := ⟨_, rfl⟩
 have hokA : ExOk O' E' M' pa ca := by have := (lines_ok HOK.out (ls.take hf)).1; rw [hra] at this; exact this
 have happ := lines_app (E := E') (M := M') ps cs (ls.take hf) (ls.drop hf)
 rw [List.take_append_drop, hrun, hra] at happ
 simp only at happ
 rw [hrb] at happ
 simp only [Prod.mk.injEq] at happ
 obtain ⟨⟨rfl, rfl⟩, hnab⟩ := happ
 have hokX := lines_ok HOK.out ls
 rw [hrun] at hokX
 obtain ⟨hokB, hne⟩ := hokX
 simp only at hokB hne
 have hlen := lines_len (E := E') (M := M') ps cs ls
 rw [hrun] at hlen
 simp only at hlen
 have HLEN : Hid (av.length = m) := hlen.trans hm
 have hla := lines_len (E := E') (M := M') ps cs (ls.take hf)
 rw [hra, List.length_take] at hla
 simp only at hla
 have hlb := lines_len (E := E') (M := M') pa ca (ls.drop hf)
 rw [hrb, List.length_drop] at hlb
 simp only at hlb
 have haA : aA.length ≤ 40 := by omega
 have haB : aB.length ≤ 40 := by omega
 have HTL : Hid ((ls.take hf).length = hf) := by unfold Hid; rw [List.length_take]; omega
 have HDL2 : Hid ((ls.drop hf).length = m - hf) := by unfold Hid; rw [List.length_drop]; omega
 have HRA : Hid (linesR O' E' M' ps cs (ls.take hf) = ((O', E', M'), (pa, ca), aA)) := by unfold Hid; rw [linesR_yes HX.out (by rw [HTL.out]; omega), hra]
 have HXA : Hid (exB O' E' M' pa ca = true) := (exB_iff _ _ _ _ _).2 hokA
 have HRB : Hid (linesR O' E' M' pa ca (ls.drop hf) = ((O', E', M'), (ps', cs'), aB)) := by unfold Hid; rw [linesR_yes HXA.out (by rw [HDL2.out]; omega), hrb]
 have HXB : Hid (exB O' E' M' ps' cs' = true) := (exB_iff _ _ _ _ _).2 hokB
 have HLA := Lib.hid hokA.lens
 have HLB := Lib.hid hokB.lens
 have HNAB := Lib.hid hnab
 have HNE := Lib.hid hne
 clear hrun hra hrb hokA hokB HRR hlen hnab hne hm hla hlb
 go_upto_region 10 with fail
 go_cut [9] (fun t9 wc => t9 = .int .i64 (hf : Nat) ∧ wc = w4)
 case first =>
  go_wp2_with fail
  go_meet
  exact ⟨by first | (congr 1; omega) | go_num, rfl⟩
 case rest =>
 obtain ⟨rfl, rfl⟩ := hcut
 have hcap : m ≤ cd := by
  obtain ⟨_, _, a', c', hsl, hcap, _⟩ := HR.out
  cases hsl
  exact hcap
 have HRT : Hid (Rds wc (.slice ad hf cd) (ls.take hf).length 1 (strs (ls.take hf))) := by
  have h := Rds.take HR.out hf1
  unfold Hid
  rw [HTL.out, strs_take]
  simpa using h
 have HDT : Hid (∀ s ∈ ls.take hf, s.size ≤ 1100000) := fun s hs => HDL.out s (List.mem_of_mem_take hs)
 have HDR : Hid (∀ s ∈ ls.drop hf, s.size ≤ 1100000) := fun s hs => HDL.out s (List.mem_of_mem_drop hs)
 have i1 : (0 : Int) ≤ (hf : Int) := by omega
 have i2 : (hf : Int) ≤ (cd : Int) := by omega
 generalize wc = W at *
 go_upto_region 11 with fail
 go_cut [10, 11] (fun tb tx wc => ∃ (b : Nat) (vq vr va : Value), tb = .pointer (some ⟨b, 0, none⟩) ∧ tx = va ∧ LnRes W wc b O' E' M' vq vr va pa ca aA)
 case first =>
  obtain ⟨eq0, eq1, eq2, eq3, eq4, -, -, -, -, -, eqlt⟩ := hE.box.five
  have HC : Hid (∀ w' : World, Below W.heap.size W w' → w'.cell? ⟨w1.heap.size, 0, none⟩ = some (.int .i64 O') ∧ w'.cell? ⟨w1.heap.size, 1, none⟩ = some (.int .i64 E') ∧ w'.cell? ⟨w1.heap.size, 2, none⟩ = some (.int .i64 M') ∧ w'.cell? ⟨w1.heap.size, 3, none⟩ = some (.slice ap ps.length cp) ∧ w'.cell? ⟨w1.heap.size, 4, none⟩ = some (.slice ac cs.length cc)) := fun w' hb => ⟨keep_below hb eq0, keep_below hb eq1, keep_below hb eq2, keep_below hb eq3, keep_below hb eq4⟩
  have hcS : Below W.heap.size W W.drew := (Below.refl _ _).drew
  clear eq0 eq1 eq2 eq3 eq4 eqlt
  go_wp2_with fail
  refine wp_region_held_drew (S := fun w' => w'.cell? ⟨w1.heap.size, 0, none⟩ = some (.int .i64 O') ∧ w'.cell? ⟨w1.heap.size, 1, none⟩ = some (.int .i64 E') ∧ w'.cell? ⟨w1.heap.size, 2, none⟩ = some (.int .i64 M') ∧ w'.cell? ⟨w1.heap.size, 3, none⟩ = some (.slice ap ps.length cp) ∧ w'.cell? ⟨w1.heap.size, 4, none⟩ = some (.slice ac cs.length cc)) (by kernel_rfl) (HC.out _ hcS) (fun hHeld => ?_)
  refine take_y 0 69 (v := ?_) rfl ?_ ?_; rotate_left; focus (intro w hSw; (try dsimp only at hSw); go_simp; (try rw [if_neg (by omega)]); (try with_reducible rfl))
  try simp only [Act.put, zp1, zp2, zp3]
  refine take_y 1 70 (v := ?_) rfl ?_ ?_; rotate_left; focus (intro w hSw; (try dsimp only at hSw); go_simp; (try rw [if_neg (by omega)]); (try with_reducible rfl))
  try simp only [Act.put, zp1, zp2, zp3]
  refine take_y 2 71 (v := ?_) rfl ?_ ?_; rotate_left; focus (intro w hSw; (try dsimp only at hSw); go_simp; (try rw [if_neg (by omega)]); (try with_reducible rfl))
  try simp only [Act.put, zp1, zp2, zp3]
  refine take_y 3 72 (v := ?_) rfl ?_ ?_; rotate_left; focus (intro w hSw; (try dsimp only at hSw); go_simp; (try rw [if_neg (by omega)]); (try with_reducible rfl))
  try simp only [Act.put, zp1, zp2, zp3]
  refine wpAnyH_ready (rs := [4, 8]) (by kernel_rfl) (by simp) ?_
  refine AllReadyH.cons rfl (fun K hK => ?_) (AllReadyH.cons rfl (fun K hK => ?_) AllReadyH.nil)
  focus
   go_simp
   refine (iExLines_any O' E' M' _ _ _ ps cs (ls.take hf) _ (hE.rd.below hcS) HSV.out HL.out (by have := HRT.out.below hcS; rw [HTL.out] at this ⊢; exact this) HDT.out).mono ?_
   intro e w8 hq
   rw [HRA.out] at hq
   unfold LinesPost at hq
   simp only at hq
   obtain ⟨vq, vr, va, rfl, ho, hro, hap, hc8⟩ := hq
   obtain ⟨aq, cq, ar, cr, rfl, rfl⟩ := agg_parts ho
   obtain ⟨aa, ca9, rfl⟩ := own_len9 hro
   have hcA : Below W.heap.size W w8 := hcS.trans (Below.mono hc8 hcS.size)
   refine hK.out _ _ (HC.out _ hcA) (fun hHeld2 => ?_)
   clear hHeld hK K; have hHeld := hHeld2; clear hHeld2; try simp only [Act.put, zp1, zp2, zp3]
   refine take_y 5 68 (v := ?_) rfl ?_ ?_; rotate_left; focus (intro w hSw; (try dsimp only at hSw); go_simp; (try rw [if_neg (by omega)]); (try with_reducible rfl))
   try simp only [Act.put, zp1, zp2, zp3]
   refine take_y 6 74 (v := ?_) rfl ?_ ?_; rotate_left; focus (intro w hSw; (try dsimp only at hSw); go_simp; (try rw [if_neg (by omega)]); (try with_reducible rfl))
   try simp only [Act.put, zp1, zp2, zp3]
   refine take_y 7 75 (v := ?_) rfl ?_ ?_; rotate_left; focus (intro w hSw; (try dsimp only at hSw); go_simp; (try rw [if_neg (by omega)]); (try with_reducible rfl))
   try simp only [Act.put, zp1, zp2, zp3]
   refine wpAnyH_ready (rs := [8]) (by kernel_rfl) (by simp) ?_
   refine AllReadyH.cons rfl (fun K hK => ?_) AllReadyH.nil
   go_simp
   refine hK.out _ _ (HC.out _ (hcA.alloc hcA.size _)) (fun hHeld2 => ?_)
   clear hHeld hK K; have hHeld := hHeld2; clear hHeld2; try simp only [Act.put, zp1, zp2, zp3]
   refine wpAnyH_ready (rs := [9]) (by kernel_rfl) (by simp) ?_
   refine AllReadyH.cons rfl (fun K hK => ?_) AllReadyH.nil
   go_simp
   refine hK.out _ _ (HC.out _ (hcA.alloc hcA.size _)) (fun hHeld2 => ?_)
   clear hHeld hK K; have hHeld := hHeld2; clear hHeld2; try simp only [Act.put, zp1, zp2, zp3]
   have hRS := LnRes.mkA (O := O') (E := E') (M := M') hcA ho hro hap hcS.size
   refine take_y 10 11 (v := ?_) rfl ?_ ?_; rotate_left; focus (intro w hSw; (try dsimp only at hSw); go_simp; (try rw [if_neg (by omega)]); (try with_reducible rfl))
   try simp only [Act.put, zp1, zp2, zp3]
   refine wpAnyH_done (by kernel_rfl) ?_ _
   clear hHeld
   go_wp2_with fail
   go_meet
   exact ⟨_, _, _, _, rfl, rfl, hRS⟩
  focus
   go_simp
   have hXb := Blk.new (w := W.drew) (cs := #[.int .i64 0, .int .i64 0, .int .i64 0, .slice none 0 0, .slice none 0 0]) (T := 33) (b := W.heap.size) rfl
   have hal : Below W.drew.heap.size W.drew (W.drew.alloc (.cells #[.int .i64 0, .int .i64 0, .int .i64 0, .slice none 0 0, .slice none 0 0] 33)) := (Below.refl _ _).alloc (Nat.le_refl _) _
   have hcB : Below W.heap.size W (W.drew.alloc (.cells #[.int .i64 0, .int .i64 0, .int .i64 0, .slice none 0 0, .slice none 0 0] 33)) := hcS.trans (Below.mono hal hcS.size)
   refine hK.out _ _ (HC.out _ hcB) (fun hHeld2 => ?_)
   clear hHeld hK K; have hHeld := hHeld2; clear hHeld2; try simp only [Act.put, zp1, zp2, zp3]
   refine wpAnyH_ready (rs := [4]) (by kernel_rfl) (by simp) ?_
   refine AllReadyH.cons rfl (fun K hK => ?_) AllReadyH.nil
   go_simp
   refine (iExLines_any O' E' M' _ _ _ ps cs (ls.take hf) _ (hE.rd.below hcB) HSV.out HL.out (by have := HRT.out.below hcB; rw [HTL.out] at this ⊢; exact this) HDT.out).mono ?_
   intro e w8 hq
   rw [HRA.out] at hq
   unfold LinesPost at hq
   simp only at hq
   obtain ⟨vq, vr, va, rfl, ho, hro, hap, hc8⟩ := hq
   obtain ⟨aq, cq, ar, cr, rfl, rfl⟩ := agg_parts ho
   obtain ⟨aa, ca9, rfl⟩ := own_len9 hro
   have hcA : Below W.heap.size W w8 := hcB.trans (Below.mono hc8 hcB.size)
   have hbF := hXb.lt
   have gX := hXb.belowAll hc8
   refine hK.out _ _ (HC.out _ hcA) (fun hHeld2 => ?_)
   clear hHeld hK K; have hHeld := hHeld2; clear hHeld2; try simp only [Act.put, zp1, zp2, zp3]
   refine take_y 5 68 (v := ?_) rfl ?_ ?_; rotate_left; focus (intro w hSw; (try dsimp only at hSw); go_simp; (try rw [if_neg (by omega)]); (try with_reducible rfl))
   try simp only [Act.put, zp1, zp2, zp3]
   refine take_y 6 74 (v := ?_) rfl ?_ ?_; rotate_left; focus (intro w hSw; (try dsimp only at hSw); go_simp; (try rw [if_neg (by omega)]); (try with_reducible rfl))
   try simp only [Act.put, zp1, zp2, zp3]
   refine take_y 7 75 (v := ?_) rfl ?_ ?_; rotate_left; focus (intro w hSw; (try dsimp only at hSw); go_simp; (try rw [if_neg (by omega)]); (try with_reducible rfl))
   try simp only [Act.put, zp1, zp2, zp3]
   have hRS := LnRes.mkB (O := O') (E := E') (M := M') hcA gX (Nat.le_refl _) ho hro hap hbF
   obtain ⟨X0, X1, X2, X3, X4, Y0, Y1, Y2, Y3, Y4, Xlt⟩ := gX.five
   refine wpAnyH_ready (rs := [9]) (by kernel_rfl) (by simp) ?_
   refine AllReadyH.cons rfl (fun K hK => ?_) AllReadyH.nil
   go_simp
   refine hK.out _ _ (HC.out _ (by exact hRS.res.bel)) (fun hHeld2 => ?_)
   clear hHeld hK K; have hHeld := hHeld2; clear hHeld2; try simp only [Act.put, zp1, zp2, zp3]
   refine take_y 10 11 (v := ?_) rfl ?_ ?_; rotate_left; focus (intro w hSw; (try dsimp only at hSw); go_simp; (try rw [if_neg (by omega)]); (try with_reducible rfl))
   try simp only [Act.put, zp1, zp2, zp3]
   refine wpAnyH_done (by kernel_rfl) ?_ _
   clear hHeld
   go_wp2_with fail
   go_meet
   exact ⟨_, _, _, _, rfl, rfl, hRS⟩
 case rest =>
 obtain ⟨bA, vqA, vrA, vaA, rfl, rfl, hLR⟩ := hcut
 have hRS := hLR.res
 obtain ⟨aaA, caA, rfl⟩ := own_len9 hLR.row
 have HAA := Lib.hid (Rds.ofOwns hLR.row)
 clear hLR
 have hA : EBx wc bA O' E' M' vqA vrA pa ca := ⟨hRS.box, hRS.own.rd⟩
 have hsvA := Lib.hid (own_somev hRS.own.plan)
 have hc := hRS.bel
 clear hRS HRT
 replace hE := hE.below hc
 replace hX := hX.below hc
 replace HR := Lib.hid (HR.out.below hc)
 replace HAX := Lib.hid (HAX.out.below hc)
 replace hbel := hbel.trans (Below.mono hc hbel.size)
 clear hc
 obtain ⟨aqA, cqA, arA, crA, rfl, rfl⟩ : ∃ a1 c1 a2 c2, vqA = .slice a1 pa.length c1 ∧ vrA = .slice a2 ca.length c2 := by
  obtain ⟨_, _, a1, c1, h1, _⟩ := hA.rd.plan
  obtain ⟨_, _, a2, c2, h2, _⟩ := hA.rd.calls
  exact ⟨a1, c1, a2, c2, h1, h2⟩
 clear W
 generalize wc = W at *
 go_upto_region 12 with fail
 go_cut [12, 13] (fun tb tx wc => ∃ (b : Nat) (vq vr va : Value), tb = .pointer (some ⟨b, 0, none⟩) ∧ tx = va ∧ LnRes W wc b O' E' M' vq vr va ps' cs' aB)
 case first =>
  rcases HAD.out with ⟨rfl, hm0, hcd0⟩ | ⟨g, rfl⟩
  ·
   rw [HM.out] at hm0
   subst hm0 hcd0
   have hf0 : hf = 0 := by omega
   subst hf0
   have HRD : Hid (Rds W (.slice none 0 0) (ls.drop 0).length 1 (strs (ls.drop 0))) := by unfold Hid; rw [HDL2.out]; exact HR.out
   obtain ⟨aq0, aq1, aq2, aq3, aq4, -, -, -, -, -, aqlt⟩ := hA.box.five
   have HC : Hid (∀ w' : World, Below W.heap.size W w' → w'.cell? ⟨bA, 0, none⟩ = some (.int .i64 O') ∧ w'.cell? ⟨bA, 1, none⟩ = some (.int .i64 E') ∧ w'.cell? ⟨bA, 2, none⟩ = some (.int .i64 M') ∧ w'.cell? ⟨bA, 3, none⟩ = some (.slice aqA pa.length cqA) ∧ w'.cell? ⟨bA, 4, none⟩ = some (.slice arA ca.length crA)) := fun w' hb => ⟨keep_below hb aq0, keep_below hb aq1, keep_below hb aq2, keep_below hb aq3, keep_below hb aq4⟩
   have hcS : Below W.heap.size W W.drew := (Below.refl _ _).drew
   clear aq0 aq1 aq2 aq3 aq4 aqlt
   go_wp2_with fail
   refine wp_region_held_drew (S := fun w' => w'.cell? ⟨bA, 0, none⟩ = some (.int .i64 O') ∧ w'.cell? ⟨bA, 1, none⟩ = some (.int .i64 E') ∧ w'.cell? ⟨bA, 2, none⟩ = some (.int .i64 M') ∧ w'.cell? ⟨bA, 3, none⟩ = some (.slice aqA pa.length cqA) ∧ w'.cell? ⟨bA, 4, none⟩ = some (.slice arA ca.length crA)) (by kernel_rfl) (HC.out _ hcS) (fun hHeld => ?_)
   refine take_y 0 77 (v := ?_) rfl ?_ ?_; rotate_left; focus (intro w hSw; (try dsimp only at hSw); go_simp; (try rw [if_neg (by omega)]); (try with_reducible rfl))
   try simp only [Act.put, zp1, zp2, zp3]
   refine take_y 1 78 (v := ?_) rfl ?_ ?_; rotate_left; focus (intro w hSw; (try dsimp only at hSw); go_simp; (try rw [if_neg (by omega)]); (try with_reducible rfl))
   try simp only [Act.put, zp1, zp2, zp3]
   refine take_y 2 79 (v := ?_) rfl ?_ ?_; rotate_left; focus (intro w hSw; (try dsimp only at hSw); go_simp; (try rw [if_neg (by omega)]); (try with_reducible rfl))
   try simp only [Act.put, zp1, zp2, zp3]
   refine take_y 3 80 (v := ?_) rfl ?_ ?_; rotate_left; focus (intro w hSw; (try dsimp only at hSw); go_simp; (try rw [if_neg (by omega)]); (try with_reducible rfl))
   try simp only [Act.put, zp1, zp2, zp3]
   refine wpAnyH_ready (rs := [4, 8]) (by kernel_rfl) (by simp) ?_
   refine AllReadyH.cons rfl (fun K hK => ?_) (AllReadyH.cons rfl (fun K hK => ?_) AllReadyH.nil)
   focus
    go_simp
    refine (iExLines_any O' E' M' _ _ _ pa ca (ls.drop 0) _ (hA.rd.below hcS) hsvA.out HLA.out (by have := HRD.out.below hcS; rw [HDL2.out] at this ⊢; exact this) HDR.out).mono ?_
    intro e w8 hq
    rw [HRB.out] at hq
    unfold LinesPost at hq
    simp only at hq
    obtain ⟨vq, vr, va, rfl, ho, hro, hap, hc8⟩ := hq
    obtain ⟨aq, cq, ar, cr, rfl, rfl⟩ := agg_parts ho
    obtain ⟨aa, ca9, rfl⟩ := own_len9 hro
    have hcA : Below W.heap.size W w8 := hcS.trans (Below.mono hc8 hcS.size)
    refine hK.out _ _ (HC.out _ hcA) (fun hHeld2 => ?_)
    clear hHeld hK K; have hHeld := hHeld2; clear hHeld2; try simp only [Act.put, zp1, zp2, zp3]
    refine take_y 5 76 (v := ?_) rfl ?_ ?_; rotate_left; focus (intro w hSw; (try dsimp only at hSw); go_simp; (try rw [if_neg (by omega)]); (try with_reducible rfl))
    try simp only [Act.put, zp1, zp2, zp3]
    refine take_y 6 82 (v := ?_) rfl ?_ ?_; rotate_left; focus (intro w hSw; (try dsimp only at hSw); go_simp; (try rw [if_neg (by omega)]); (try with_reducible rfl))
    try simp only [Act.put, zp1, zp2, zp3]
    refine take_y 7 83 (v := ?_) rfl ?_ ?_; rotate_left; focus (intro w hSw; (try dsimp only at hSw); go_simp; (try rw [if_neg (by omega)]); (try with_reducible rfl))
    try simp only [Act.put, zp1, zp2, zp3]
    refine wpAnyH_ready (rs := [8]) (by kernel_rfl) (by simp) ?_
    refine AllReadyH.cons rfl (fun K hK => ?_) AllReadyH.nil
    go_simp
    refine hK.out _ _ (HC.out _ (hcA.alloc hcA.size _)) (fun hHeld2 => ?_)
    clear hHeld hK K; have hHeld := hHeld2; clear hHeld2; try simp only [Act.put, zp1, zp2, zp3]
    refine wpAnyH_ready (rs := [9]) (by kernel_rfl) (by simp) ?_
    refine AllReadyH.cons rfl (fun K hK => ?_) AllReadyH.nil
    go_simp
    refine hK.out _ _ (HC.out _ (hcA.alloc hcA.size _)) (fun hHeld2 => ?_)
    clear hHeld hK K; have hHeld := hHeld2; clear hHeld2; try simp only [Act.put, zp1, zp2, zp3]
    have hRS := LnRes.mkA (O := O') (E := E') (M := M') hcA ho hro hap hcS.size
    refine take_y 10 13 (v := ?_) rfl ?_ ?_; rotate_left; focus (intro w hSw; (try dsimp only at hSw); go_simp; (try rw [if_neg (by omega)]); (try with_reducible rfl))
    try simp only [Act.put, zp1, zp2, zp3]
    refine wpAnyH_done (by kernel_rfl) ?_ _
    clear hHeld
    go_wp2_with fail
    go_meet
    exact ⟨_, _, _, _, rfl, rfl, hRS⟩
   focus
    go_simp
    have hXb := Blk.new (w := W.drew) (cs := #[.int .i64 0, .int .i64 0, .int .i64 0, .slice none 0 0, .slice none 0 0]) (T := 33) (b := W.heap.size) rfl
    have hal : Below W.drew.heap.size W.drew (W.drew.alloc (.cells #[.int .i64 0, .int .i64 0, .int .i64 0, .slice none 0 0, .slice none 0 0] 33)) := (Below.refl _ _).alloc (Nat.le_refl _) _
    have hcB : Below W.heap.size W (W.drew.alloc (.cells #[.int .i64 0, .int .i64 0, .int .i64 0, .slice none 0 0, .slice none 0 0] 33)) := hcS.trans (Below.mono hal hcS.size)
    refine hK.out _ _ (HC.out _ hcB) (fun hHeld2 => ?_)
    clear hHeld hK K; have hHeld := hHeld2; clear hHeld2; try simp only [Act.put, zp1, zp2, zp3]
    refine wpAnyH_ready (rs := [4]) (by kernel_rfl) (by simp) ?_
    refine AllReadyH.cons rfl (fun K hK => ?_) AllReadyH.nil
    go_simp
    refine (iExLines_any O' E' M' _ _ _ pa ca (ls.drop 0) _ (hA.rd.below hcB) hsvA.out HLA.out (by have := HRD.out.below hcB; rw [HDL2.out] at this ⊢; exact this) HDR.out).mono ?_
    intro e w8 hq
    rw [HRB.out] at hq
    unfold LinesPost at hq
    simp only at hq
    obtain ⟨vq, vr, va, rfl, ho, hro, hap, hc8⟩ := hq
    obtain ⟨aq, cq, ar, cr, rfl, rfl⟩ := agg_parts ho
    obtain ⟨aa, ca9, rfl⟩ := own_len9 hro
    have hcA : Below W.heap.size W w8 := hcB.trans (Below.mono hc8 hcB.size)
    have hbF := hXb.lt
    have gX := hXb.belowAll hc8
    refine hK.out _ _ (HC.out _ hcA) (fun hHeld2 => ?_)
    clear hHeld hK K; have hHeld := hHeld2; clear hHeld2; try simp only [Act.put, zp1, zp2, zp3]
    refine take_y 5 76 (v := ?_) rfl ?_ ?_; rotate_left; focus (intro w hSw; (try dsimp only at hSw); go_simp; (try rw [if_neg (by omega)]); (try with_reducible rfl))
    try simp only [Act.put, zp1, zp2, zp3]
    refine take_y 6 82 (v := ?_) rfl ?_ ?_; rotate_left; focus (intro w hSw; (try dsimp only at hSw); go_simp; (try rw [if_neg (by omega)]); (try with_reducible rfl))
    try simp only [Act.put, zp1, zp2, zp3]
    refine take_y 7 83 (v := ?_) rfl ?_ ?_; rotate_left; focus (intro w hSw; (try dsimp only at hSw); go_simp; (try rw [if_neg (by omega)]); (try with_reducible rfl))
    try simp only [Act.put, zp1, zp2, zp3]
    have hRS := LnRes.mkB (O := O') (E := E') (M := M') hcA gX (Nat.le_refl _) ho hro hap hbF
    obtain ⟨X0, X1, X2, X3, X4, Y0, Y1, Y2, Y3, Y4, Xlt⟩ := gX.five
    refine wpAnyH_ready (rs := [9]) (by kernel_rfl) (by simp) ?_
    refine AllReadyH.cons rfl (fun K hK => ?_) AllReadyH.nil
    go_simp
    refine hK.out _ _ (HC.out _ (by exact hRS.res.bel)) (fun hHeld2 => ?_)
    clear hHeld hK K; have hHeld := hHeld2; clear hHeld2; try simp only [Act.put, zp1, zp2, zp3]
    refine take_y 10 13 (v := ?_) rfl ?_ ?_; rotate_left; focus (intro w hSw; (try dsimp only at hSw); go_simp; (try rw [if_neg (by omega)]); (try with_reducible rfl))
    try simp only [Act.put, zp1, zp2, zp3]
    refine wpAnyH_done (by kernel_rfl) ?_ _
    clear hHeld
    go_wp2_with fail
    go_meet
    exact ⟨_, _, _, _, rfl, rfl, hRS⟩
  ·
   obtain ⟨a2, ha2⟩ : ∃ a2, (if cd = hf then some (⟨g, 0, none⟩ : Addr) else some ⟨g, hf, none⟩) = a2 := ⟨_, rfl⟩
   have HRD : Hid (Rds W (.slice a2 (m - hf) (cd - hf)) (ls.drop hf).length 1 (strs (ls.drop hf))) := by
    have h := Rds.drop (m := hf) (cap' := cd - hf) (a' := a2) HR.out hf1 (by omega) (by intro _; rw [← ha2, if_neg (by omega)]; simp)
    unfold Hid
    rw [HDL2.out, strs_drop]
    simpa using h
   obtain ⟨aq0, aq1, aq2, aq3, aq4, -, -, -, -, -, aqlt⟩ := hA.box.five
   have HC : Hid (∀ w' : World, Below W.heap.size W w' → w'.cell? ⟨bA, 0, none⟩ = some (.int .i64 O') ∧ w'.cell? ⟨bA, 1, none⟩ = some (.int .i64 E') ∧ w'.cell? ⟨bA, 2, none⟩ = some (.int .i64 M') ∧ w'.cell? ⟨bA, 3, none⟩ = some (.slice aqA pa.length cqA) ∧ w'.cell? ⟨bA, 4, none⟩ = some (.slice arA ca.length crA)) := fun w' hb => ⟨keep_below hb aq0, keep_below hb aq1, keep_below hb aq2, keep_below hb aq3, keep_below hb aq4⟩
   have hcS : Below W.heap.size W W.drew := (Below.refl _ _).drew
   clear aq0 aq1 aq2 aq3 aq4 aqlt
   go_wp2_with fail
   refine wp_region_held_drew (S := fun w' => w'.cell? ⟨bA, 0, none⟩ = some (.int .i64 O') ∧ w'.cell? ⟨bA, 1, none⟩ = some (.int .i64 E') ∧ w'.cell? ⟨bA, 2, none⟩ = some (.int .i64 M') ∧ w'.cell? ⟨bA, 3, none⟩ = some (.slice aqA pa.length cqA) ∧ w'.cell? ⟨bA, 4, none⟩ = some (.slice arA ca.length crA)) (by kernel_rfl) (HC.out _ hcS) (fun hHeld => ?_)
   refine take_y 0 77 (v := ?_) rfl ?_ ?_; rotate_left; focus (intro w hSw; (try dsimp only at hSw); go_simp; (try rw [if_neg (by omega)]); (try with_reducible rfl))
   try simp only [Act.put, zp1, zp2, zp3]
   refine take_y 1 78 (v := ?_) rfl ?_ ?_; rotate_left; focus (intro w hSw; (try dsimp only at hSw); go_simp; (try rw [if_neg (by omega)]); (try with_reducible rfl))
   try simp only [Act.put, zp1, zp2, zp3]
   refine take_y 2 79 (v := ?_) rfl ?_ ?_; rotate_left; focus (intro w hSw; (try dsimp only at hSw); go_simp; (try rw [if_neg (by omega)]); (try with_reducible rfl))
   try simp only [Act.put, zp1, zp2, zp3]
   refine take_y 3 80 (v := ?_) rfl ?_ ?_; rotate_left; focus (intro w hSw; (try dsimp only at hSw); go_simp; (try rw [if_neg (by omega)]); (try with_reducible rfl))
   try simp only [Act.put, zp1, zp2, zp3]
   refine wpAnyH_ready (rs := [4, 8]) (by kernel_rfl) (by simp) ?_
   refine AllReadyH.cons rfl (fun K hK => ?_) (AllReadyH.cons rfl (fun K hK => ?_) AllReadyH.nil)
   focus
    go_simp
    refine (iExLines_any O' E' M' _ _ _ pa ca (ls.drop hf) _ (hA.rd.below hcS) hsvA.out HLA.out (by have := HRD.out.below hcS; rw [HDL2.out] at this ⊢; exact this) HDR.out).mono ?_
    intro e w8 hq
    rw [HRB.out] at hq
    unfold LinesPost at hq
    simp only at hq
    obtain ⟨vq, vr, va, rfl, ho, hro, hap, hc8⟩ := hq
    obtain ⟨aq, cq, ar, cr, rfl, rfl⟩ := agg_parts ho
    obtain ⟨aa, ca9, rfl⟩ := own_len9 hro
    have hcA : Below W.heap.size W w8 := hcS.trans (Below.mono hc8 hcS.size)
    refine hK.out _ _ (HC.out _ hcA) (fun hHeld2 => ?_)
    clear hHeld hK K; have hHeld := hHeld2; clear hHeld2; try simp only [Act.put, zp1, zp2, zp3]
    refine take_y 5 76 (v := ?_) rfl ?_ ?_; rotate_left; focus (intro w hSw; (try dsimp only at hSw); go_simp; (try rw [if_neg (by omega)]); (try with_reducible rfl))
    try simp only [Act.put, zp1, zp2, zp3]
    refine take_y 6 82 (v := ?_) rfl ?_ ?_; rotate_left; focus (intro w hSw; (try dsimp only at hSw); go_simp; (try rw [if_neg (by omega)]); (try with_reducible rfl))
    try simp only [Act.put, zp1, zp2, zp3]
    refine take_y 7 83 (v := ?_) rfl ?_ ?_; rotate_left; focus (intro w hSw; (try dsimp only at hSw); go_simp; (try rw [if_neg (by omega)]); (try with_reducible rfl))
    try simp only [Act.put, zp1, zp2, zp3]
    refine wpAnyH_ready (rs := [8]) (by kernel_rfl) (by simp) ?_
    refine AllReadyH.cons rfl (fun K hK => ?_) AllReadyH.nil
    go_simp
    refine hK.out _ _ (HC.out _ (hcA.alloc hcA.size _)) (fun hHeld2 => ?_)
    clear hHeld hK K; have hHeld := hHeld2; clear hHeld2; try simp only [Act.put, zp1, zp2, zp3]
    refine wpAnyH_ready (rs := [9]) (by kernel_rfl) (by simp) ?_
    refine AllReadyH.cons rfl (fun K hK => ?_) AllReadyH.nil
    go_simp
    refine hK.out _ _ (HC.out _ (hcA.alloc hcA.size _)) (fun hHeld2 => ?_)
    clear hHeld hK K; have hHeld := hHeld2; clear hHeld2; try simp only [Act.put, zp1, zp2, zp3]
    have hRS := LnRes.mkA (O := O') (E := E') (M := M') hcA ho hro hap hcS.size
    refine take_y 10 13 (v := ?_) rfl ?_ ?_; rotate_left; focus (intro w hSw; (try dsimp only at hSw); go_simp; (try rw [if_neg (by omega)]); (try with_reducible rfl))
    try simp only [Act.put, zp1, zp2, zp3]
    refine wpAnyH_done (by kernel_rfl) ?_ _
    clear hHeld
    go_wp2_with fail
    go_meet
    exact ⟨_, _, _, _, rfl, rfl, hRS⟩
   focus
    go_simp
    have hXb := Blk.new (w := W.drew) (cs := #[.int .i64 0, .int .i64 0, .int .i64 0, .slice none 0 0, .slice none 0 0]) (T := 33) (b := W.heap.size) rfl
    have hal : Below W.drew.heap.size W.drew (W.drew.alloc (.cells #[.int .i64 0, .int .i64 0, .int .i64 0, .slice none 0 0, .slice none 0 0] 33)) := (Below.refl _ _).alloc (Nat.le_refl _) _
    have hcB : Below W.heap.size W (W.drew.alloc (.cells #[.int .i64 0, .int .i64 0, .int .i64 0, .slice none 0 0, .slice none 0 0] 33)) := hcS.trans (Below.mono hal hcS.size)
    refine hK.out _ _ (HC.out _ hcB) (fun hHeld2 => ?_)
    clear hHeld hK K; have hHeld := hHeld2; clear hHeld2; try simp only [Act.put, zp1, zp2, zp3]
    refine wpAnyH_ready (rs := [4]) (by kernel_rfl) (by simp) ?_
    refine AllReadyH.cons rfl (fun K hK => ?_) AllReadyH.nil
    go_simp
    refine (iExLines_any O' E' M' _ _ _ pa ca (ls.drop hf) _ (hA.rd.below hcB) hsvA.out HLA.out (by have := HRD.out.below hcB; rw [HDL2.out] at this ⊢; exact this) HDR.out).mono ?_
    intro e w8 hq
    rw [HRB.out] at hq
    unfold LinesPost at hq
    simp only at hq
    obtain ⟨vq, vr, va, rfl, ho, hro, hap, hc8⟩ := hq
    obtain ⟨aq, cq, ar, cr, rfl, rfl⟩ := agg_parts ho
    obtain ⟨aa, ca9, rfl⟩ := own_len9 hro
    have hcA : Below W.heap.size W w8 := hcB.trans (Below.mono hc8 hcB.size)
    have hbF := hXb.lt
    have gX := hXb.belowAll hc8
    refine hK.out _ _ (HC.out _ hcA) (fun hHeld2 => ?_)
    clear hHeld hK K; have hHeld := hHeld2; clear hHeld2; try simp only [Act.put, zp1, zp2, zp3]
    refine take_y 5 76 (v := ?_) rfl ?_ ?_; rotate_left; focus (intro w hSw; (try dsimp only at hSw); go_simp; (try rw [if_neg (by omega)]); (try with_reducible rfl))
    try simp only [Act.put, zp1, zp2, zp3]
    refine take_y 6 82 (v := ?_) rfl ?_ ?_; rotate_left; focus (intro w hSw; (try dsimp only at hSw); go_simp; (try rw [if_neg (by omega)]); (try with_reducible rfl))
    try simp only [Act.put, zp1, zp2, zp3]
    refine take_y 7 83 (v := ?_) rfl ?_ ?_; rotate_left; focus (intro w hSw; (try dsimp only at hSw); go_simp; (try rw [if_neg (by omega)]); (try with_reducible rfl))
    try simp only [Act.put, zp1, zp2, zp3]
    have hRS := LnRes.mkB (O := O') (E := E') (M := M') hcA gX (Nat.le_refl _) ho hro hap hbF
    obtain ⟨X0, X1, X2, X3, X4, Y0, Y1, Y2, Y3, Y4, Xlt⟩ := gX.five
    refine wpAnyH_ready (rs := [9]) (by kernel_rfl) (by simp) ?_
    refine AllReadyH.cons rfl (fun K hK => ?_) AllReadyH.nil
    go_simp
    refine hK.out _ _ (HC.out _ (by exact hRS.res.bel)) (fun hHeld2 => ?_)
    clear hHeld hK K; have hHeld := hHeld2; clear hHeld2; try simp only [Act.put, zp1, zp2, zp3]
    refine take_y 10 13 (v := ?_) rfl ?_ ?_; rotate_left; focus (intro w hSw; (try dsimp only at hSw); go_simp; (try rw [if_neg (by omega)]); (try with_reducible rfl))
    try simp only [Act.put, zp1, zp2, zp3]
    refine wpAnyH_done (by kernel_rfl) ?_ _
    clear hHeld
    go_wp2_with fail
    go_meet
    exact ⟨_, _, _, _, rfl, rfl, hRS⟩
 case rest =>
 obtain ⟨bB, vqB, vrB, vaB, rfl, rfl, hLR⟩ := hcut
 have hRS := hLR.res
 obtain ⟨aaB, caB, rfl⟩ := own_len9 hLR.row
 have HAB := Lib.hid (Rds.ofOwns hLR.row)
 clear hLR
 have hB : EBx wc bB O' E' M' vqB vrB ps' cs' := ⟨hRS.box, hRS.own.rd⟩
 have hc := hRS.bel
 clear hRS hA hsvA HR
 replace hE := hE.below hc
 replace hX := hX.below hc
 replace HAX := Lib.hid (HAX.out.below hc)
 replace HAA := Lib.hid (HAA.out.below hc)
 replace hbel := hbel.trans (Below.mono hc hbel.size)
 clear hc
 obtain ⟨aqB, cqB, arB, crB, rfl, rfl⟩ : ∃ a1 c1 a2 c2, vqB = .slice a1 ps'.length c1 ∧ vrB = .slice a2 cs'.length c2 := by
  obtain ⟨_, _, a1, c1, h1, _⟩ := hB.rd.plan
  obtain ⟨_, _, a2, c2, h2, _⟩ := hB.rd.calls
  exact ⟨a1, c1, a2, c2, h1, h2⟩
 clear W
 generalize wc = W at *
 obtain ⟨na, hna⟩ : ∃ na, av.length = na := ⟨_, rfl⟩
 have HNA := Lib.hid hna
 have hnm : na = m := by rw [← hna]; exact HLEN.out
 rw [hna] at HAX hav
 try rw [hna]
 clear hna
 go_wp2_with fail
 go_loopw [14] (fun i wr => ∃ k : Nat, i = .int .i64 k ∧ k ≤ na ∧ wr = W) (fun i _ => na - (intOf i).toNat)
 case atStart => exact ⟨0, rfl, Nat.zero_le _, rfl⟩
 case round =>
  obtain ⟨k, rfl, hk, hww⟩ := hrel
  have hwr : wr = W := by first | exact hww | rfl
  subst hwr
  by_cases hkn : k < na
  ·
   obtain ⟨_, _, hsl, _, _, _, hcell⟩ := HAX.out.open1
   cases hsl
   rcases hcell with hcell | ⟨b1, o1, rfl, hb1, hcell⟩
   ·
    omega
   obtain ⟨t, ht⟩ : ∃ t, av[k]? = some t := ⟨_, List.getElem?_eq_getElem (by rw [HNA.out]; exact hkn)⟩
   have c1 := hcell k hkn
   rw [strs_at _ _ _ ht] at c1
   have ht0 := HNE.out t (List.mem_of_getElem? ht)
   obtain ⟨hs1, hs2⟩ := some_of ht0
   have j1 : (0 : Int) ≤ (k : Int) := by omega
   have j2 : (k : Int) < (na : Int) := by omega
   clear hcell ht ht0
   go_wp2_with fail
   go_roundw
   case rel => exact ⟨k + 1, by go_num, by omega, by first | rfl | trivial⟩
   case measure => simp [intOf]; omega
  ·
   have hkn2 : k = na := by omega
   have HNI : Hid (lineR O' E' M' ps' cs' ⟨#[110, 105, 103, 104, 116]⟩ = ((O', E', M'), (ps', []), aok)) := by unfold Hid; rw [lineR_yes _ HXB.out, line_night]
   have HSN : Hid ((⟨#[110, 105, 103, 104, 116]⟩ : ByteArray).size ≤ 1100000) := by unfold Hid; show 5 ≤ 1100000; omega
   obtain ⟨xq0, xq1, xq2, xq3, xq4, -, -, -, -, -, xqlt⟩ := hX.box.five
   go_wp2_with fail
   refine (iExLine_any O' E' M' _ _ ps' cs' ⟨#[110, 105, 103, 104, 116]⟩ _ hX.rd HSVX.out HLB.out HSN.out).mono ?_
   intro e w8 hq
   rw [HNI.out] at hq
   have hq4 := LineQ.res hq
   simp only at hq4
   obtain ⟨vqN, vrN, rfl, hoN, hc⟩ := hq4
   obtain ⟨aqN, cqN, arN, crN, rfl, hvr⟩ := agg_parts hoN
   have hvr2 : vrN = .slice arN 0 crN := hvr
   subst hvr2
   clear hq
   clear xq0 xq1 xq2 xq3 xq4 xqlt
   replace hE := hE.below hc
   replace hX := hX.below hc
   replace hB := hB.below hc
   replace HAX := Lib.hid (HAX.out.below hc)
   replace HAA := Lib.hid (HAA.out.below hc)
   replace HAB := Lib.hid (HAB.out.below hc)
   replace hbel := hbel.trans (Below.mono hc hbel.size)
   clear hc
   have hN := EBx.new (O := O') (E := E') (M := M') hoN.rd
   clear hoN hvr
   have hal : Below w8.heap.size w8 (w8.alloc (.cells #[.int .i64 O', .int .i64 E', .int .i64 M', .slice aqN ps'.length cqN, .slice arN 0 crN] 33)) := (Below.refl _ _).alloc (Nat.le_refl _) _
   replace hE := hE.below hal
   replace hX := hX.below hal
   replace hB := hB.below hal
   replace HAX := Lib.hid (HAX.out.below hal)
   replace HAA := Lib.hid (HAA.out.below hal)
   replace HAB := Lib.hid (HAB.out.below hal)
   replace hbel := hbel.trans (Below.mono hal hbel.size)
   clear hal
   obtain ⟨xq0, xq1, xq2, xq3, xq4, -, -, -, -, -, xqlt⟩ := hX.box.five
   obtain ⟨bq0, bq1, bq2, bq3, bq4, -, -, -, -, -, bqlt⟩ := hB.box.five
   obtain ⟨nq0, nq1, nq2, nq3, nq4, -, -, -, -, -, nqlt⟩ := hN.box.five
   go_wp2_with fail
   refine (sameExchange_any O' E' M' O' E' M' _ _ _ _ ps' ps' cs' cs' _ hB.rd hX.rd).mono ?_
   rintro e w9 ⟨rfl, hc⟩
   rw [sameB_yes]
   clear xq0 xq1 xq2 xq3 xq4 bq0 bq1 bq2 bq3 bq4 nq0 nq1 nq2 nq3 nq4 xqlt bqlt nqlt
   replace hE := hE.below hc
   replace hX := hX.below hc
   replace hB := hB.below hc
   replace hN := hN.below hc
   replace HAX := Lib.hid (HAX.out.below hc)
   replace HAA := Lib.hid (HAA.out.below hc)
   replace HAB := Lib.hid (HAB.out.below hc)
   replace hbel := hbel.trans (Below.mono hc hbel.size)
   clear hc
   have hO0 := World.ownsRow_lit (base := w9.heap.size) (e := 9) (size := 1) w9 #[] 0 (Nat.le_refl _) (by unfold maxLen; omega) rfl
   have hlen9 : ((na : Int) == (m : Int)) = true := by rw [hnm]; simp
   have hal : Below w9.heap.size w9 (w9.alloc (.cells #[] 9)) := (Below.refl _ _).alloc (Nat.le_refl _) _
   have HA1 := Lib.hid (HAA.out.below hal)
   have h11 : aA.length + aB.length = av.length := by rw [HNAB.out]; simp
   have H11 := Lib.hid h11
   clear h11
   go_wp2_with (at_builtin; first | (refine wpList_append_rds_g _ (by kernel_rfl) _ _ 24 (by rfl) w9.heap.size 9 j0 _ 1 16 Tryz.underlying24 hj hy0 hy1 hy2 rfl (by decide) _ 0 [] (by rfl) hO0 _ aA.length (strs aA) (by rfl) HA1.out (strs_oneY _) (by unfold maxLen; omega) (by omega) (by simp) ?_; intro v1 w10 hO1 hg1 _; clear hO0; rw [Nat.zero_add, List.nil_append] at hO1; have hb10 : Below w9.heap.size w9 w10 := hal.grown hg1 (by simp) (by intro k hk; cases hk; exact Nat.le_refl _); have HB1 := Lib.hid (HAB.out.below hb10); clear hg1; obtain ⟨a1, c1, rfl⟩ := own_len9 hO1) | (refine wpList_append_rds_g _ (by kernel_rfl) _ _ 24 (by rfl) w9.heap.size 9 j0 _ 1 16 Tryz.underlying24 hj hy0 hy1 hy2 rfl (by decide) _ aA.length (strs aA) (by rfl) hO1 _ aB.length (strs aB) (by rfl) HB1.out (strs_oneY _) (by unfold maxLen; omega) (by omega) hb10.size ?_; intro v2 w11 hO2 hg2 _; have hb11 := hb10.grown hg2 hb10.size (own_ge hO1); clear hO1 hg2 HB1))
   have hT : Rds w11 v2 av.length 1 (strs av) := by
    have h := Rds.ofOwns hO2
    rw [H11.out] at h
    have e : (strs aA ++ strs aB : List Value) = strs av := by rw [HNAB.out]; simp [strs]
    rw [e] at h
    exact h
   rw [← hnm]
   refine (sameTexts_any _ _ av av _ hT (by rw [HNA.out]; exact HAX.out.below hb11)).mono ?_
   rintro e w12 ⟨rfl, hc⟩
   rw [decide_eq_true (rfl : av = av)]
   have hb12 := hb11.trans (Below.mono hc hb11.size)
   have hN12 := hN.below hb12
   have hbel12 := hbel.trans (Below.mono hb12 hbel.size)
   clear hT hO2 hN hbel hc hb12 hb11 hb10 hal
   obtain ⟨nq0, nq1, nq2, nq3, nq4, -, -, -, -, -, nqlt⟩ := hN12.box.five
   go_wp2
   go_returns
   exact ⟨rfl, hbel12⟩

end Go.Proofs.YtedadhoneebfnaaGreatDoor
