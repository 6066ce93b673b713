/- Contract of answerOf (program). -/
import Derived.Test.YtedadhoneebfnaaGreatDoorSx
import Derived.Test.YtedadhoneebfnaaGreatDoorSj
set_option linter.unusedSimpArgs false
set_option linter.unusedVariables false
namespace Go.Proofs.YtedadhoneebfnaaGreatDoor
open Go.RowKit

set_option maxRecDepth 100000 in
set_option maxHeartbeats 8000000 in
theorem iAnswerOf_any (O E M : Int) (vp vc : Value) (ps : List ByteArray) (cs : List Cl) (s : ByteArray) (w : World) (hok : ExOk O E M ps cs) (hR : ExRd w vp vc ps cs) (hL : StLen ps) (hs : s.size ≤ maxLen) :
  Calls Tryz.prog 64 #[.agg #[.int .i64 O, .int .i64 E, .int .i64 M, vp, vc], .string s] w fun e w' => e = .returned (.string (ansL ps cs (tl s))) ∧ Below w.heap.size w w' := by
 have hB := Blk.new (w := w) (cs := #[.int .i64 O, .int .i64 E, .int .i64 M, vp, vc]) (T := 33) rfl
 have hbel0 : Below w.heap.size w (w.alloc (.cells #[.int .i64 O, .int .i64 E, .int .i64 M, vp, vc] 33)) := by (exact grownA)
 have HR := Lib.hid hR
 have HL := Lib.hid hL
 have HS := Lib.hid hs
 have HOK := Lib.hid hok
 obtain ⟨a1, c1, rfl, _⟩ := hR.plan.open1
 obtain ⟨_, hm2, a2, c2, rfl, hn2, hc2⟩ := hR.calls
 unfold maxLen at hm2
 have HC2 := Lib.hid hc2
 have hcn := hok.calls.count (lines_le hok.calls.sh)
 have hpn := hok.lines
 clear hR hL hs hok hc2
 obtain ⟨b0, b1, b2, b3, b4, -, -, -, -, -, blt⟩ := hB.five
 by_cases h1 : tl s = wcalls
 ·
  have hq := str_is (m := [99, 97, 108, 108, 115]) h1
  have HA := Lib.hid (ansL_calls (ps := ps) (cs := cs) h1)
  clear h1
  go_enter Tryz.func64, Tryz.ntmps64
  go_wp2_with fail
  refine (itoa_any cs.length _ (by omega)).mono ?_
  rintro e w1 ⟨rfl, rfl⟩
  go_wp2
  go_returns
  exact ⟨by rw [HA.out]; rfl, hbel0⟩
 have hq1 := str_not (m := [99, 97, 108, 108, 115]) h1
 by_cases h2 : tl s = wplan
 ·
  have hq2 := str_is (m := [112, 108, 97, 110]) h2
  have HA := Lib.hid (ansL_plan (ps := ps) (cs := cs) h1 h2)
  clear h1 h2
  go_enter Tryz.func64, Tryz.ntmps64
  go_wp2_with fail
  refine (joinPlan_any _ ps _ (HR.out.plan.below hbel0) hpn.1 hpn.2 (plan_small HOK.out.plan)).mono ?_
  rintro e w1 ⟨rfl, hb1⟩
  have hbel1 := hbel0.trans (Below.mono hb1 hbel0.size)
  go_wp2
  go_returns
  exact ⟨by rw [HA.out]; rfl, hbel1⟩
 have hq2 := str_not (m := [112, 108, 97, 110]) h2
 have H1 := Lib.hid h1
 have H2 := Lib.hid h2
 clear h1 h2
 go_enter Tryz.func64, Tryz.ntmps64
 go_wp2_with fail
 refine (cut_any s 32 _ HS.out).mono ?_
 rintro e w1 ⟨q, rfl, rfl⟩
 have hB1 := hB.drewN q
 have hbel1 : Below w.heap.size w _ := below_drewN hbel0 q
 clear hB b0 b1 b2 b3 b4 blt hbel0
 obtain ⟨wd, hwd⟩ : ∃ wd, ba (bef 32 (tl s)) = wd := ⟨_, rfl⟩
 have HWD := Lib.hid hwd
 rw [hwd]
 obtain ⟨tx, htx⟩ : ∃ tx, ba (aft 32 (tl s)) = tx := ⟨_, rfl⟩
 have HTX : Hid (tl tx = aft 32 (tl s)) := by unfold Hid; rw [← htx, tl_ba]
 have HTS : Hid (tx.size ≤ maxLen) := by
  unfold Hid
  rw [← htx, ba_size]
  have := HS.out
  have h9 := tl_size s
  unfold aft
  rw [List.length_drop]
  omega
 rw [htx]
 clear hwd htx
 generalize w.alloc (.cells #[.int .i64 O, .int .i64 E, .int .i64 M, .slice a1 ps.length c1, .slice a2 cs.length c2] 33) = w0 at *
 generalize w0.drewN q = w1 at *
 obtain ⟨b0, b1, b2, b3, b4, -, -, -, -, -, blt⟩ := hB1.five
 obtain ⟨r, hr⟩ : ∃ r, readL 4 (tl tx) = r := ⟨_, rfl⟩
 have HRL := Lib.hid hr
 go_wp2_with fail
 refine (readNumber_any tx 4 (by omega) _ HTS.out).mono ?_
 intro e w2 hq
 unfold RnPost at hq
 rw [HRL.out] at hq
 obtain ⟨rfl, rfl⟩ := hq
 cases r with
 | none =>
  have HA := Lib.hid (ansL_what (ps := ps) (cs := cs) H1.out H2.out (.inl (by rw [← HTX.out]; exact HRL.out)))
  clear hr
  go_wp2
  go_returns
  exact ⟨by rw [HA.out]; rfl, hbel1⟩
 | some n =>
  have hn0 := readL_nonneg hr
  have HRN : Hid (readL 4 (aft 32 (tl s)) = some n) := by unfold Hid; rw [← HTX.out]; exact HRL.out
  clear hr
  by_cases hww : bef 32 (tl s) = wwho ∨ bef 32 (tl s) = wvia
  case neg =>
   have HA := Lib.hid (ansL_what (ps := ps) (cs := cs) H1.out H2.out (.inr hww))
   have hw1 := word_ne (m := [119, 104, 111]) (fun h => hww (.inl h))
   have hw2 := word_ne (m := [118, 105, 97]) (fun h => hww (.inr h))
   rw [HWD.out] at hw1 hw2
   clear hww
   go_wp2
   go_returns
   exact ⟨by rw [HA.out]; rfl, hbel1⟩
  have key : Hid ((bef 32 (tl s) = wwho ∧ (wd.toList == [119, 104, 111]) = true ∧ (wd.toList == [118, 105, 97]) = false) ∨ (bef 32 (tl s) = wvia ∧ (wd.toList == [119, 104, 111]) = false ∧ (wd.toList == [118, 105, 97]) = true)) := by
   unfold Hid
   rw [← HWD.out]
   rcases hww with h | h
   ·
    exact .inl ⟨h, word_eq h, word_ne (by rw [h]; decide)⟩
   ·
    exact .inr ⟨h, word_ne (by rw [h]; decide), word_eq h⟩
  clear hww
  rcases key.out with ⟨hb, hw1, hw2⟩ | ⟨hb, hw1, hw2⟩
  ·
   have HB9 := Lib.hid hb
   clear hb
   go_wp2_with fail
   refine (callOf_any O E M _ _ cs n _ (HR.out.calls.below hbel1)).mono ?_
   rintro e w3 ⟨r, rfl, hat, hb3⟩
   have hbel3 := hbel1.trans (Below.mono hb3 hbel1.size)
   have hB3 := hB1.belowAll hb3
   clear hB1 hb3 hbel1 b0 b1 b2 b3 b4 blt
   obtain ⟨b0, b1, b2, b3, b4, -, -, -, -, -, blt⟩ := hB3.five
   rcases hat with ⟨rfl, hf⟩ | ⟨k, c, rfl, hc, hf, hmem⟩
   ·
    have HA := Lib.hid (ansL_none (ps := ps) H1.out H2.out HRN.out (.inl HB9.out) hf)
    clear hf
    go_wp2
    go_returns
    exact ⟨by rw [HA.out]; rfl, hbel3⟩
   ·
    have HA := Lib.hid (ansL_who (ps := ps) H1.out H2.out HRN.out HB9.out hf)
    have hk0 : ¬ (k : Int) < 0 := by omega
    obtain ⟨pn, hpv, hp12⟩ : ∃ pn : Nat, peerL cs n = (pn : Int) ∧ pn ≤ 99 := by
     rcases peer_case HOK.out.calls n with ⟨h9, _⟩ | ⟨c', h9, _, hp0, hp1, _⟩
     ·
      rw [hf] at h9; cases h9
     ·
      exact ⟨(peerL cs n).toNat, by omega, by omega⟩
    have HPX : Hid (peerX O E M ps cs n = (pn : Int)) := by unfold Hid; rw [peerX_y n HOK.out, hpv]
    have HPV := Lib.hid hpv
    clear hc hf hmem hpv
    go_wp2_with fail
    refine (iPeerOf_any O E M _ _ ps cs n _ (HR.out.below hbel3) HL.out).mono ?_
    rintro e w4 ⟨rfl, hb4⟩
    rw [HPX.out]
    have hbel4 := hbel3.trans (Below.mono hb4 hbel3.size)
    clear b0 b1 b2 b3 b4 blt hB3 hb4 hbel3
    go_wp2_with fail
    refine (itoa_any pn _ hp12).mono ?_
    rintro e w5 ⟨rfl, rfl⟩
    go_wp2
    go_returns
    exact ⟨by rw [HA.out, HPV.out]; rfl, hbel4⟩
  ·
   have HB9 := Lib.hid hb
   clear hb
   go_wp2_with fail
   refine (callOf_any O E M _ _ cs n _ (HR.out.calls.below hbel1)).mono ?_
   rintro e w3 ⟨r, rfl, hat, hb3⟩
   have hbel3 := hbel1.trans (Below.mono hb3 hbel1.size)
   have hB3 := hB1.belowAll hb3
   clear hB1 hb3 hbel1 b0 b1 b2 b3 b4 blt
   obtain ⟨b0, b1, b2, b3, b4, -, -, -, -, -, blt⟩ := hB3.five
   rcases hat with ⟨rfl, hf⟩ | ⟨k, c, rfl, hc, hf, hmem⟩
   ·
    have HA := Lib.hid (ansL_none (ps := ps) H1.out H2.out HRN.out (.inr HB9.out) hf)
    clear hf
    go_wp2
    go_returns
    exact ⟨by rw [HA.out]; rfl, hbel3⟩
   ·
    have HA := Lib.hid (ansL_via (ps := ps) H1.out H2.out HRN.out HB9.out hf)
    have hk0 : ¬ (k : Int) < 0 := by omega
    have hM5 := HOK.out.calls.sh.m
    have hvv := (HOK.out.calls.mem hmem).2.2
    obtain ⟨hkl, -⟩ := List.getElem?_eq_some_iff.1 hc
    rcases HC2.out with hc2 | ⟨b, off, rfl, hbb, hc2⟩
    ·
     omega
    obtain ⟨g1, g2, g3⟩ := ccells_at cs k c hc
    obtain ⟨vn, hvn⟩ := Int.eq_ofNat_of_zero_le hvv.1
    have k3 : w3.cell? ⟨b, off + k * 3 + 2, none⟩ = some (.int .i64 (vn : Int)) := by rw [Nat.add_assoc, hbel3.cell (p := ⟨b, off + (k * 3 + 2), none⟩) hbb, hc2 _ (by omega), g3, hvn]
    have i1 : (0 : Int) ≤ (k : Int) := by omega
    have i2 : (k : Int) < (cs.length : Int) := by omega
    have HVN := Lib.hid hvn
    have hv99 : vn ≤ 99 := by omega
    clear hc hf hmem hc2 g1 g2 g3 hvn
    go_wp2_with fail
    refine (itoa_any vn _ hv99).mono ?_
    rintro e w5 ⟨rfl, rfl⟩
    go_wp2
    go_returns
    exact ⟨by rw [HA.out, HVN.out]; rfl, hbel3⟩

end Go.Proofs.YtedadhoneebfnaaGreatDoor
