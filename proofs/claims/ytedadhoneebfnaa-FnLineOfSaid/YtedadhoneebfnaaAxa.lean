/- The walks of the laws of PeerOf and LineOf (printed by gen_ax.py). -/
import Derived.Test.YtedadhoneebfnaaDwb
import Derived.Test.YtedadhoneebfnaaDwc
import Derived.Test.YtedadhoneebfnaaLb
import Derived.Test.YtedadhoneebfnaaAlive
set_option linter.unusedSimpArgs false
set_option linter.unusedVariables false
namespace Go.Proofs.Ytedadhoneebfnaa
open Go.RowKit

set_option maxRecDepth 100000 in
set_option maxHeartbeats 8000000 in
theorem wPeerOf (a : Option Addr) (len cap : Nat) (zs : List Int) (w : World) (h0 : IsRow .u8 w a len cap zs) :
  Calls Try.prog 9 #[.slice a len cap] w fun e w' => e = .returned (.bool true) ∧ Below w.heap.size w w' := by
 have h := h0.code
 have hm := h.bd
 by_cases hbig : len > 1048576
 ·
  go_enter Try.func9, Try.ntmps9
  go_wp2
  go_returns
  exact ⟨rfl, Below.refl _ _⟩
 go_enter Try.func9, Try.ntmps9
 go_wp2_with fail
 refine (DrawPeerOf_any _ _ _ _ _ h).mono ?_
 rintro e w1 ⟨O, E, M, x, vp, vc, ps, cs, rfl, hd⟩
 obtain ⟨ap, cp, ac, cc, rfl, rfl⟩ := agg_parts hd.own
 have HL := Lib.hid hd.st.len
 have HD := Lib.hid hd
 have hE := EBx.new (O := O) (E := E) (M := M) hd.own.rd
 have hbel := hd.bel.alloc hd.bel.size (.cells #[.int .i64 O, .int .i64 E, .int .i64 M, .slice ap ps.length cp, .slice ac cs.length cc] 33)
 clear hd h h0 hbig hm
 obtain ⟨y, hy⟩ : ∃ y, peerX O E M ps cs x = y := ⟨_, rfl⟩
 have HY := Lib.hid hy
 clear hy
 obtain ⟨eq0, eq1, eq2, eq3, eq4, -, -, -, -, -, eqlt⟩ := hE.box.five
 go_wp2_with fail
 refine (iPeerOf_any O E M _ _ ps cs x _ hE.rd HL.out).mono ?_
 rintro e w2 ⟨rfl, hc⟩
 clear eq0 eq1 eq2 eq3 eq4 eqlt
 have hE_ := hE.below hc
 clear hE
 have hE := hE_
 clear hE_
 have hbel_ := hbel.trans (Below.mono hc hbel.size)
 clear hbel hc
 have hbel := hbel_
 clear hbel_
 rw [HY.out]
 obtain ⟨eq0, eq1, eq2, eq3, eq4, -, -, -, -, -, eqlt⟩ := hE.box.five
 go_wp2_with fail
 refine (sPeerOf_any O E M _ _ ps cs x _ hE.rd HL.out).mono ?_
 rintro e w3 ⟨rfl, hc⟩
 clear eq0 eq1 eq2 eq3 eq4 eqlt
 have hE_ := hE.below hc
 clear hE
 have hE := hE_
 clear hE_
 have hbel_ := hbel.trans (Below.mono hc hbel.size)
 clear hbel hc
 have hbel := hbel_
 clear hbel_
 rw [HY.out]
 have hyy : (y != y) = false := by simp
 by_cases hneg : y < 0
 ·
  have hy1 : y = -1 := peerX_neg HY.out hneg
  clear HY hneg
  subst hy1
  go_wp2_with fail
  refine (alive_any _).mono ?_
  rintro e w4 ⟨rfl, hc⟩
  have hbel_ := hbel.trans (Below.mono hc hbel.size)
  clear hc
  go_wp2
  go_returns
  exact ⟨rfl, hbel_⟩
 have hy0 : 0 ≤ y := by omega
 obtain ⟨b1, b2, b3⟩ := peerX_back HY.out hy0
 have HB := Lib.hid b1
 clear b1
 obtain ⟨eq0, eq1, eq2, eq3, eq4, -, -, -, -, -, eqlt⟩ := hE.box.five
 go_wp2_with fail
 refine (iPeerOf_any O E M _ _ ps cs y _ hE.rd HL.out).mono ?_
 rintro e w5 ⟨rfl, hc⟩
 clear eq0 eq1 eq2 eq3 eq4 eqlt
 have hE_ := hE.below hc
 clear hE
 have hE := hE_
 clear hE_
 have hbel_ := hbel.trans (Below.mono hc hbel.size)
 clear hbel hc
 have hbel := hbel_
 clear hbel_
 rw [HB.out]
 have hxx : (x == x) = true := by simp
 have hyx : (y != x) = true := by simpa using b2
 obtain ⟨eq0, eq1, eq2, eq3, eq4, -, -, -, -, -, eqlt⟩ := hE.box.five
 go_wp2
 go_returns
 exact ⟨rfl, hbel⟩

set_option maxRecDepth 100000 in
set_option maxHeartbeats 8000000 in
theorem wLineOf (a : Option Addr) (len cap : Nat) (zs : List Int) (w : World) (h0 : IsRow .u8 w a len cap zs) :
  Calls Try.prog 10 #[.slice a len cap] w fun e w' => e = .returned (.bool true) ∧ Below w.heap.size w w' := by
 have h := h0.code
 have hm := h.bd
 by_cases hbig : len > 1048576
 ·
  go_enter Try.func10, Try.ntmps10
  go_wp2
  go_returns
  exact ⟨rfl, Below.refl _ _⟩
 go_enter Try.func10, Try.ntmps10
 go_wp2_with fail
 refine (DrawLineOf_any _ _ _ _ _ h).mono ?_
 rintro e w1 ⟨O, E, M, s, vp, vc, ps, cs, rfl, hs8, hd⟩
 obtain ⟨ap, cp, ac, cc, rfl, rfl⟩ := agg_parts hd.own
 have HL := Lib.hid hd.st.len
 have HD := Lib.hid hd
 have hE := EBx.new (O := O) (E := E) (M := M) hd.own.rd
 have hbel := hd.bel.alloc hd.bel.size (.cells #[.int .i64 O, .int .i64 E, .int .i64 M, .slice ap ps.length cp, .slice ac cs.length cc] 33)
 clear hd h h0 hbig hm
 obtain ⟨y, hy⟩ : ∃ y, lineX O E M ps cs s = y := ⟨_, rfl⟩
 have HY := Lib.hid hy
 clear hy
 obtain ⟨eq0, eq1, eq2, eq3, eq4, -, -, -, -, -, eqlt⟩ := hE.box.five
 go_wp2_with fail
 refine (iLineOf_any O E M _ _ ps cs s _ hE.rd HL.out).mono ?_
 rintro e w2 ⟨rfl, hc⟩
 clear eq0 eq1 eq2 eq3 eq4 eqlt
 have hE_ := hE.below hc
 clear hE
 have hE := hE_
 clear hE_
 have hbel_ := hbel.trans (Below.mono hc hbel.size)
 clear hbel hc
 have hbel := hbel_
 clear hbel_
 rw [HY.out]
 obtain ⟨eq0, eq1, eq2, eq3, eq4, -, -, -, -, -, eqlt⟩ := hE.box.five
 go_wp2_with fail
 refine (sLineOf_any O E M _ _ ps cs s _ hE.rd HL.out).mono ?_
 rintro e w3 ⟨rfl, hc⟩
 clear eq0 eq1 eq2 eq3 eq4 eqlt
 have hE_ := hE.below hc
 clear hE
 have hE := hE_
 clear hE_
 have hbel_ := hbel.trans (Below.mono hc hbel.size)
 clear hbel hc
 have hbel := hbel_
 clear hbel_
 rw [HY.out]
 have hyy : (y != y) = false := by simp
 by_cases hneg : y < 0
 ·
  have hy1 : y = -1 := lineX_neg HY.out hneg
  clear HY hneg
  subst hy1
  go_wp2_with fail
  refine (alive_any _).mono ?_
  rintro e w4 ⟨rfl, hc⟩
  have hbel_ := hbel.trans (Below.mono hc hbel.size)
  clear hc
  go_wp2
  go_returns
  exact ⟨rfl, hbel_⟩
 have hy0 : 0 ≤ y := by omega
 obtain ⟨k, rfl, b2, b3⟩ := lineX_get HY.out hy0
 obtain ⟨d1, d2⟩ := one_line b3 b2
 have HK := Lib.hid b2
 have hk := (List.getElem?_eq_some_iff.1 b2).1
 have HA := Lib.hid d1
 have HB := Lib.hid d2
 clear b2 b3 d1 d2 HY hneg hyy hy0
 have hsz : (s ++ more4).size ≤ maxLen := by rw [ByteArray.size_append]; have : more4.size = 4 := rfl; unfold maxLen; omega
 have hs4 : s.size + 4 ≤ 9223372036854775807 := by omega
 obtain ⟨eq0, eq1, eq2, eq3, eq4, -, -, -, -, -, eqlt⟩ := hE.box.five
 go_wp2_with fail
 refine (iDialOne_any _ ps (s ++ more4) _ hE.rd.plan HL.out hsz).mono ?_
 rintro e w9 ⟨rfl, rfl⟩
 rw [HA.out, HB.out]
 obtain ⟨_, _, hsl, hl1, hl2, hl3, hcell⟩ := hE.rd.plan.open1
 cases hsl
 rcases hcell with hcell | ⟨b1, o1, rfl, hb1, hcell⟩
 ·
  omega
 have c1 := hcell k hk
 rw [strs_at _ _ _ HK.out] at c1
 have hss := str_eq (rfl : s = s)
 have hk1 : (0 : Int) ≤ (k : Int) := by omega
 have hk2 : (k : Int) < (ps.length : Int) := by omega
 clear hcell hl1 HA HB HK
 go_wp2
 go_returns
 exact ⟨rfl, hbel⟩

end Go.Proofs.Ytedadhoneebfnaa
