/- Joined texts: Lp, Mt8, Sh8, Dh. -/
import Derived.Test.YtedadhoneebfnaaGreatDoorEw
import Derived.Test.YtedadhoneebfnaaGreatDoorLib
import Derived.Test.YtedadhoneebfnaaGreatDoorRows
import Derived.Handy
import Derived.StillTailTactics
import Derived.Deep.QuietTactic
import Derived.BigQuiet
import Derived.Laws.IdiomStrings
import Derived.Test.YtedadhoneebfnaaGreatDoorJ2
import Derived.Deep.RegionHeld3
import Derived.Test.YtedadhoneebfnaaGreatDoorJ1
set_option linter.unusedSimpArgs false
set_option linter.unusedVariables false
/- Contracts of LineOf, PeerOf (program and reference), callOf, slices.Index at strings. -/
namespace Go.Proofs.YtedadhoneebfnaaGreatDoor
open Go.RowKit

set_option maxHeartbeats 1000000 in
theorem index_any (v : Value) (ps : List ByteArray) (s : ByteArray) (w : World) (hv : Rds w v ps.length 1 (strs ps)) :
  Calls Tryz.prog 123 #[v, .string s] w fun e w' => e = .returned (.int .i64 (lineL ps s)) ∧ w = w' := by
 obtain ⟨a, ca, rfl, hl1, hm1, hn1, hc1⟩ := hv.open1
 unfold maxLen at hm1
 obtain ⟨n, hn⟩ : ∃ n, ps.length = n := ⟨_, rfl⟩
 rw [hn] at hm1 hn1 hc1 ⊢
 have HN := Lib.hid hn
 clear hn hl1 hv
 go_enter Tryz.func123, Tryz.ntmps123
 go_wp2_with fail
 go_loop [8] (fun i => ∃ k : Nat, k ≤ n ∧ i = .int .i64 k ∧ Hid (neTo ps s k)) (fun i => n - (intOf i).toNat)
 case atStart => exact ⟨0, by omega, rfl, fun j p h => absurd h (by omega)⟩
 case round =>
  obtain ⟨k, hk, rfl, hne⟩ := hrel
  by_cases hkn : k < n
  ·
   rcases hc1 with hc1 | ⟨b, off, rfl, hb, hc1⟩
   ·
    omega
   obtain ⟨t, ht⟩ : ∃ s, ps[k]? = some s := ⟨_, List.getElem?_eq_getElem (by rw [HN.out]; omega)⟩
   have c1 := hc1 k hkn
   rw [strs_at ps k t ht] at c1
   have HT := Lib.hid ht
   clear hc1 ht
   by_cases hst : s = t
   ·
    have hsb := str_eq hst
    subst hst
    have HF := Lib.hid (line_at hne.out HT.out)
    go_wp2
    go_returns
    exact ⟨by rw [HF.out]; rfl, rfl⟩
   ·
    have hsb := str_ne hst
    have HST : Hid (neTo ps s (k + 1)) := by
     intro j p hj hp
     by_cases e : j = k
     ·
      subst e; rw [HT.out] at hp; cases hp; exact fun e => hst e.symm
     ·
      exact hne.out j p (by omega) hp
    clear hst
    go_wp2_with fail
    go_round
    case rel => exact ⟨k + 1, by omega, by go_num, HST.out⟩
    case measure => simp [intOf]; omega
  ·
   obtain rfl : k = n := by omega
   have HF := Lib.hid (line_none (s := s) (by rw [HN.out]; exact hne.out))
   go_wp2
   go_returns
   exact ⟨by rw [HF.out]; rfl, rfl⟩

noncomputable def lineX (O E M : Int) (ps : List ByteArray) (cs : List Cl) (s : ByteArray) : Int := if exB O E M ps cs = true then lineL ps s else -1
noncomputable def peerX (O E M : Int) (ps : List ByteArray) (cs : List Cl) (x : Int) : Int := if exB O E M ps cs = true then peerL cs x else -1

set_option maxHeartbeats 1000000 in
theorem iLineOf_any (O E M : Int) (vp vc : Value) (ps : List ByteArray) (cs : List Cl) (s : ByteArray) (w : World) (hR : ExRd w vp vc ps cs) (hL : StLen ps) :
  Calls Tryz.prog 102 #[.agg #[.int .i64 O, .int .i64 E, .int .i64 M, vp, vc], .string s] w fun e w' => e = .returned (.int .i64 (lineX O E M ps cs s)) ∧ Below w.heap.size w w' := by
 have hB := Blk.new (w := w) (cs := #[.int .i64 O, .int .i64 E, .int .i64 M, vp, vc]) (T := 33) rfl
 have hbel0 : Below w.heap.size w (w.alloc (.cells #[.int .i64 O, .int .i64 E, .int .i64 M, vp, vc] 33)) := by (exact grownA)
 have HR := Lib.hid hR
 have HL := Lib.hid hL
 obtain ⟨a1, c1, rfl, _⟩ := hR.plan.open1
 obtain ⟨_, _, a2, c2, rfl, _⟩ := hR.calls
 clear hR hL
 go_enter Tryz.func102, Tryz.ntmps102
 go_wp2_with fail
 refine (iExchangeValid_any O E M _ _ ps cs _ (HR.out.below hbel0) HL.out).mono ?_
 rintro e w1 ⟨rfl, hb⟩
 have hbel1 : Below w.heap.size w w1 := by (exact grownA)
 have hB1 := hB.belowAll hb
 clear hB hb hbel0
 obtain ⟨p0, p1, p2, p3, p4, _, _, _, _, _, plt⟩ := hB1.five
 obtain ⟨d, hd⟩ : ∃ d, exB O E M ps cs = d := ⟨_, rfl⟩
 have HD := Lib.hid hd
 rw [hd]
 clear hd
 cases d
 ·
  have HF : Hid (lineX O E M ps cs s = -1) := by unfold Hid lineX; rw [HD.out]; rfl
  go_wp2
  go_returns
  exact ⟨by rw [HF.out]; rfl, hbel1⟩
 ·
  have HF : Hid (lineX O E M ps cs s = lineL ps s) := by unfold Hid lineX; rw [HD.out]; rfl
  go_wp2_with fail
  refine (index_any _ ps s _ (HR.out.plan.below hbel1)).mono ?_
  rintro e w2 ⟨rfl, rfl⟩
  go_wp2
  go_returns
  exact ⟨by rw [HF.out]; rfl, hbel1⟩

/-- Where the call of a line is. -/
def CallAt (cs : List Cl) (x r : Int) : Prop := (r = -1 ∧ cs.find? (hasE x) = none) ∨ ∃ (k : Nat) (c : Cl), r = k ∧ cs[k]? = some c ∧ cs.find? (hasE x) = some c ∧ c ∈ cs
def CallOfPost (cs : List Cl) (x : Int) (w : World) (e : Ending) (w' : World) : Prop := ∃ r : Int, e = .returned (.int .i64 r) ∧ CallAt cs x r ∧ Below w.heap.size w w'

set_option maxHeartbeats 1000000 in
theorem callOf_any (O E M : Int) (vp vc : Value) (cs : List Cl) (x : Int) (w : World) (hR : Rds w vc cs.length 3 (ccells cs)) :
  Calls Tryz.prog 104 #[.agg #[.int .i64 O, .int .i64 E, .int .i64 M, vp, vc], .int .i64 x] w (CallOfPost cs x w) := by
 have hB := Blk.new (w := w) (cs := #[.int .i64 O, .int .i64 E, .int .i64 M, vp, vc]) (T := 33) rfl
 have hbel0 : Below w.heap.size w (w.alloc (.cells #[.int .i64 O, .int .i64 E, .int .i64 M, vp, vc] 33)) := by (exact grownA)
 obtain ⟨hl2, hm2, a2, c2, rfl, hn2, hc2⟩ := hR
 unfold maxLen at hm2
 obtain ⟨m, hm⟩ : ∃ m, cs.length = m := ⟨_, rfl⟩
 rw [hm] at hB hbel0 hm2 hn2 hc2 ⊢
 have HM := Lib.hid hm
 clear hm hl2
 obtain ⟨p0, p1, p2, p3, p4, _, _, _, _, _, plt⟩ := hB.five
 go_enter Tryz.func104, Tryz.ntmps104
 go_wp2_with fail
 go_loopw [10] (fun i wr => ∃ k : Nat, k ≤ m ∧ i = .int .i64 k ∧ Hid (noneTo cs x k) ∧ Below w.heap.size w wr) (fun i _ => m - (intOf i).toNat)
 case atStart => exact ⟨0, by omega, rfl, fun j c h => absurd h (by omega), hbel0⟩
 case round =>
  obtain ⟨k, hk, rfl, hno, hbel⟩ := hrel
  have hz := hbel.size
  by_cases hkm : k < m
  ·
   rcases hc2 with hc2 | ⟨b, off, rfl, hb, hc2⟩
   ·
    omega
   obtain ⟨c, hc⟩ : ∃ c, cs[k]? = some c := ⟨_, List.getElem?_eq_getElem (by rw [HM.out]; omega)⟩
   obtain ⟨g1, g2, g3⟩ := ccells_at cs k c hc
   have k1 : wr.cell? ⟨b, off + k * 3, none⟩ = some (.int .i64 c.1) := by rw [hbel.cell (p := ⟨b, off + k * 3, none⟩) hb, hc2 _ (by omega), g1]
   have k2 : wr.cell? ⟨b, off + k * 3 + 1, none⟩ = some (.int .i64 c.2.1) := by rw [Nat.add_assoc, hbel.cell (p := ⟨b, off + (k * 3 + 1), none⟩) hb, hc2 _ (by omega), g2]
   have k3 : wr.cell? ⟨b, off + k * 3 + 2, none⟩ = some (.int .i64 c.2.2) := by rw [Nat.add_assoc, hbel.cell (p := ⟨b, off + (k * 3 + 2), none⟩) hb, hc2 _ (by omega), g3]
   have HC := Lib.hid hc
   clear hc g1 g2 g3 hc2
   obtain ⟨u, v, t⟩ := c
   simp only at k1 k2 k3
   by_cases h1 : u = x
   ·
    have hq1 : ((u : Int) == x) = true := by simpa using h1
    have HF := Lib.hid (find_at hno.out HC.out (by simp [hasE, h1]))
    have HME := Lib.hid (List.mem_of_getElem? HC.out)
    clear h1
    go_wp2
    go_returns
    exact ⟨_, rfl, .inr ⟨k, _, rfl, HC.out, HF.out, HME.out⟩, by (exact grownA)⟩
   ·
    have hq1 : ((u : Int) == x) = false := by simpa using h1
    by_cases h2 : v = x
    ·
     have hq2 : ((v : Int) == x) = true := by simpa using h2
     have HF := Lib.hid (find_at hno.out HC.out (by simp [hasE, h2]))
     have HME := Lib.hid (List.mem_of_getElem? HC.out)
     clear h1 h2
     go_wp2
     go_returns
     exact ⟨_, rfl, .inr ⟨k, _, rfl, HC.out, HF.out, HME.out⟩, by (exact grownA)⟩
    ·
     have hq2 : ((v : Int) == x) = false := by simpa using h2
     have HST := Lib.hid (hno.out.succ HC.out (by simp [hasE, h1, h2]))
     clear h1 h2
     go_wp2_with fail
     go_roundw
     case rel => exact ⟨k + 1, by omega, by go_num, HST.out, by (exact grownA)⟩
     case measure => simp [intOf]; omega
  ·
   obtain rfl : k = m := by omega
   have HF := Lib.hid (find_none (x := x) (by rw [HM.out]; exact hno.out))
   go_wp2
   go_returns
   exact ⟨-1, rfl, .inl ⟨rfl, HF.out⟩, hbel⟩

set_option maxHeartbeats 1000000 in
theorem iPeerOf_any (O E M : Int) (vp vc : Value) (ps : List ByteArray) (cs : List Cl) (x : Int) (w : World) (hR : ExRd w vp vc ps cs) (hL : StLen ps) :
  Calls Tryz.prog 105 #[.agg #[.int .i64 O, .int .i64 E, .int .i64 M, vp, vc], .int .i64 x] w fun e w' => e = .returned (.int .i64 (peerX O E M ps cs x)) ∧ Below w.heap.size w w' := by
 have hB := Blk.new (w := w) (cs := #[.int .i64 O, .int .i64 E, .int .i64 M, vp, vc]) (T := 33) rfl
 have hbel0 : Below w.heap.size w (w.alloc (.cells #[.int .i64 O, .int .i64 E, .int .i64 M, vp, vc] 33)) := by (exact grownA)
 have HR := Lib.hid hR
 have HL := Lib.hid hL
 obtain ⟨a1, c1, rfl, _⟩ := hR.plan.open1
 obtain ⟨_, hm2, a2, c2, rfl, hn2, hc2⟩ := hR.calls
 unfold maxLen at hm2
 have HC2 := Lib.hid hc2
 clear hR hL hc2
 go_enter Tryz.func105, Tryz.ntmps105
 go_wp2_with fail
 refine (iExchangeValid_any O E M _ _ ps cs _ (HR.out.below hbel0) HL.out).mono ?_
 rintro e w1 ⟨rfl, hb⟩
 have hbel1 : Below w.heap.size w w1 := by (exact grownA)
 have hB1 := hB.belowAll hb
 clear hB hb hbel0
 obtain ⟨p0, p1, p2, p3, p4, _, _, _, _, _, plt⟩ := hB1.five
 obtain ⟨d, hd⟩ : ∃ d, exB O E M ps cs = d := ⟨_, rfl⟩
 have HD := Lib.hid hd
 rw [hd]
 clear hd
 cases d
 ·
  have HF : Hid (peerX O E M ps cs x = -1) := by unfold Hid peerX; rw [HD.out]; rfl
  go_wp2
  go_returns
  exact ⟨by rw [HF.out]; rfl, hbel1⟩
 ·
  have HF : Hid (peerX O E M ps cs x = peerL cs x) := by unfold Hid peerX; rw [HD.out]; rfl
  have HOK := Lib.hid ((exB_iff _ _ _ _ _).1 HD.out)
  go_wp2_with fail
  refine (callOf_any O E M _ _ cs x _ (HR.out.calls.below hbel1)).mono ?_
  rintro e w2 ⟨r, rfl, hat, hb2⟩
  have hbel2 : Below w.heap.size w w2 := by (exact grownA)
  have hB2 := hB1.belowAll hb2
  clear hB1 hb2 p0 p1 p2 p3 p4 plt hbel1
  obtain ⟨p0, p1, p2, p3, p4, _, _, _, _, _, plt⟩ := hB2.five
  rcases hat with ⟨rfl, hf⟩ | ⟨k, c, rfl, hc, hf, hmem⟩
  ·
   have HP := Lib.hid (peer_none hf)
   clear hf
   go_wp2
   go_returns
   exact ⟨by rw [HF.out, HP.out]; rfl, hbel2⟩
  ·
   have HP := Lib.hid (peer_some hf)
   have hx := List.find?_some hf
   simp only [hasE, Bool.or_eq_true, decide_eq_true_eq] at hx
   have hat := HOK.out.calls.mem hmem
   have hL12 := lines_le HOK.out.calls.sh
   obtain ⟨hkl, -⟩ := List.getElem?_eq_some_iff.1 hc
   rcases HC2.out with hc2 | ⟨b, off, rfl, hb, hc2⟩
   ·
    omega
   obtain ⟨g1, g2, g3⟩ := ccells_at cs k c hc
   have k1 : w2.cell? ⟨b, off + k * 3, none⟩ = some (.int .i64 c.1) := by rw [hbel2.cell (p := ⟨b, off + k * 3, none⟩) hb, hc2 _ (by omega), g1]
   have k2 : w2.cell? ⟨b, off + k * 3 + 1, none⟩ = some (.int .i64 c.2.1) := by rw [Nat.add_assoc, hbel2.cell (p := ⟨b, off + (k * 3 + 1), none⟩) hb, hc2 _ (by omega), g2]
   have i1 : (0 : Int) ≤ (k : Int) := by omega
   have i2 : (k : Int) < (cs.length : Int) := by omega
   have hs1 : IntKind.i64.wrap (c.1 + c.2.1) = c.1 + c.2.1 := IntWalk.i64_in _ (by omega)
   have hs2 : IntKind.i64.wrap (c.1 + c.2.1 - x) = c.1 + c.2.1 - x := IntWalk.i64_in _ (by omega)
   have hk0 : ¬ (k : Int) < 0 := by omega
   clear hc hf hx hat hL12 g1 g2 g3 hc2
   go_wp2_with fail
   go_quiet (fail)
   go_wp2
   go_returns
   exact ⟨by rw [HF.out, HP.out]; rfl, by (exact grownA)⟩

set_option maxHeartbeats 1000000 in
theorem sLineOf_any (O E M : Int) (vp vc : Value) (ps : List ByteArray) (cs : List Cl) (s : ByteArray) (w : World) (hR : ExRd w vp vc ps cs) (hL : StLen ps) :
  Calls Tryz.prog 78 #[.agg #[.int .i64 O, .int .i64 E, .int .i64 M, vp, vc], .string s] w fun e w' => e = .returned (.int .i64 (lineX O E M ps cs s)) ∧ Below w.heap.size w w' := by
 have hB := Blk.new (w := w) (cs := #[.int .i64 O, .int .i64 E, .int .i64 M, vp, vc]) (T := 33) rfl
 have hbel0 : Below w.heap.size w (w.alloc (.cells #[.int .i64 O, .int .i64 E, .int .i64 M, vp, vc] 33)) := by (exact grownA)
 have HR := Lib.hid hR
 have HL := Lib.hid hL
 obtain ⟨a1, c1, rfl, _, hm1, hn1, hc1⟩ := hR.plan.open1
 obtain ⟨_, _, a2, c2, rfl, _⟩ := hR.calls
 unfold maxLen at hm1
 obtain ⟨n, hn⟩ : ∃ n, ps.length = n := ⟨_, rfl⟩
 rw [hn] at hB hbel0 HR hm1 hn1 hc1 ⊢
 have HN := Lib.hid hn
 clear hR hL hn
 obtain ⟨d, hd⟩ : ∃ d, exB O E M ps cs = d := ⟨_, rfl⟩
 have HD := Lib.hid hd
 clear hd
 go_enter Tryz.func78, Tryz.ntmps78
 go_wp2_with fail
 go_loopw [5] (fun i wr => ∃ k : Nat, k ≤ n ∧ i = .int .i64 k ∧ Hid (neTo ps s k) ∧ Below w.heap.size w wr ∧ Hid (k = 0 ∨ d = true) ∧ Blk wr w.heap.size #[.int .i64 O, .int .i64 E, .int .i64 M, .slice a1 n c1, .slice a2 cs.length c2] 33) (fun i _ => n - (intOf i).toNat)
 case atStart => exact ⟨0, by omega, rfl, fun j p h => absurd h (by omega), hbel0, .inl rfl, hB⟩
 case round =>
  obtain ⟨k, hk, rfl, hne, hbel, hdk, hBw⟩ := hrel
  obtain ⟨p0, p1, p2, p3, p4, _, _, _, _, _, plt⟩ := hBw.five
  by_cases hkn : k < n
  ·
   rcases hc1 with hc1 | ⟨b, off, rfl, hb, hc1⟩
   ·
    omega
   obtain ⟨t, ht⟩ : ∃ s, ps[k]? = some s := ⟨_, List.getElem?_eq_getElem (by rw [HN.out]; omega)⟩
   have hc1k := hc1 k hkn
   rw [strs_at ps k t ht] at hc1k
   have HT := Lib.hid ht
   have HC1 := Lib.hid hc1k
   clear hc1 ht hc1k
   go_wp2_with fail
   refine (sExchangeValid_any O E M _ _ ps cs _ (HR.out.below hbel) HL.out).mono ?_
   rintro e w1 ⟨rfl, hb1⟩
   rw [HD.out]
   have hbel1 : Below w.heap.size w w1 := by (exact grownA)
   have hB1 := hBw.belowAll hb1
   clear hb1 hBw p0 p1 p2 p3 p4 plt
   obtain ⟨p0, p1, p2, p3, p4, _, _, _, _, _, plt⟩ := hB1.five
   have k1 : w1.cell? ⟨b, off + k, none⟩ = some (.string t) := by rw [hbel1.cell (p := ⟨b, off + k, none⟩) hb]; exact HC1.out
   cases d
   ·
    have HF : Hid (lineX O E M ps cs s = -1) := by unfold Hid lineX; rw [HD.out]; rfl
    go_wp2
    go_returns
    exact ⟨by rw [HF.out]; rfl, hbel1⟩
   ·
    have HF : Hid (lineX O E M ps cs s = lineL ps s) := by unfold Hid lineX; rw [HD.out]; rfl
    by_cases hst : t = s
    ·
     have hsb := str_eq hst
     subst hst
     have HFF := Lib.hid (line_at hne.out HT.out)
     go_wp2
     go_returns
     exact ⟨by rw [HF.out, HFF.out]; rfl, hbel1⟩
    ·
     have hsb := str_ne hst
     have HST : Hid (neTo ps s (k + 1)) := by
      intro j p hj hp
      by_cases e : j = k
      ·
       subst e; rw [HT.out] at hp; cases hp; exact hst
      ·
       exact hne.out j p (by omega) hp
     clear hst
     go_wp2_with fail
     go_roundw
     case rel => exact ⟨k + 1, by omega, by go_num, HST.out, hbel1, Or.inr (by first | rfl | trivial), hB1⟩
     case measure => simp [intOf]; omega
  ·
   obtain rfl : k = n := by omega
   have HF : Hid (lineX O E M ps cs s = -1) := by
    unfold Hid lineX
    split
    ·
     exact line_none (by rw [HN.out]; exact hne.out)
    ·
     rfl
   go_wp2
   go_returns
   exact ⟨by rw [HF.out]; rfl, hbel⟩

set_option maxHeartbeats 1000000 in
theorem sPeerOf_any (O E M : Int) (vp vc : Value) (ps : List ByteArray) (cs : List Cl) (x : Int) (w : World) (hR : ExRd w vp vc ps cs) (hL : StLen ps) :
  Calls Tryz.prog 82 #[.agg #[.int .i64 O, .int .i64 E, .int .i64 M, vp, vc], .int .i64 x] w fun e w' => e = .returned (.int .i64 (peerX O E M ps cs x)) ∧ Below w.heap.size w w' := by
 have hB := Blk.new (w := w) (cs := #[.int .i64 O, .int .i64 E, .int .i64 M, vp, vc]) (T := 33) rfl
 have hbel0 : Below w.heap.size w (w.alloc (.cells #[.int .i64 O, .int .i64 E, .int .i64 M, vp, vc] 33)) := by (exact grownA)
 have HR := Lib.hid hR
 have HL := Lib.hid hL
 obtain ⟨a1, c1, rfl, _⟩ := hR.plan.open1
 obtain ⟨_, hm1, a2, c2, rfl, hn1, hc1⟩ := hR.calls
 unfold maxLen at hm1
 obtain ⟨n, hn⟩ : ∃ n, cs.length = n := ⟨_, rfl⟩
 rw [hn] at hB hbel0 HR hm1 hn1 hc1 ⊢
 have HN := Lib.hid hn
 clear hR hL hn
 obtain ⟨d, hd⟩ : ∃ d, exB O E M ps cs = d := ⟨_, rfl⟩
 have HD := Lib.hid hd
 clear hd
 go_enter Tryz.func82, Tryz.ntmps82
 go_wp2_with fail
 go_loopw [5] (fun i wr => ∃ k : Nat, k ≤ n ∧ i = .int .i64 k ∧ Hid (noneTo cs x k) ∧ Below w.heap.size w wr ∧ Blk wr w.heap.size #[.int .i64 O, .int .i64 E, .int .i64 M, .slice a1 ps.length c1, .slice a2 n c2] 33) (fun i _ => n - (intOf i).toNat)
 case atStart => exact ⟨0, by omega, rfl, fun j p h => absurd h (by omega), hbel0, hB⟩
 case round =>
  obtain ⟨k, hk, rfl, hno, hbel, hBw⟩ := hrel
  obtain ⟨p0, p1, p2, p3, p4, _, _, _, _, _, plt⟩ := hBw.five
  by_cases hkn : k < n
  ·
   rcases hc1 with hc1 | ⟨b, off, rfl, hb, hc1⟩
   ·
    omega
   obtain ⟨c, hc⟩ : ∃ c, cs[k]? = some c := ⟨_, List.getElem?_eq_getElem (by rw [HN.out]; omega)⟩
   obtain ⟨g1, g2, g3⟩ := ccells_at cs k c hc
   have HC := Lib.hid hc
   have HC1 := Lib.hid ((hc1 _ (by omega)).trans g1)
   have HC2 := Lib.hid ((hc1 _ (by omega)).trans g2)
   clear hc1 hc g1 g2 g3
   go_wp2_with fail
   refine (sExchangeValid_any O E M _ _ ps cs _ (HR.out.below hbel) HL.out).mono ?_
   rintro e w1 ⟨rfl, hb1⟩
   rw [HD.out]
   have hbel1 : Below w.heap.size w w1 := by (exact grownA)
   have hB1 := hBw.belowAll hb1
   clear hb1 hBw p0 p1 p2 p3 p4 plt
   obtain ⟨p0, p1, p2, p3, p4, _, _, _, _, _, plt⟩ := hB1.five
   have k1 : w1.cell? ⟨b, off + k * 3, none⟩ = some (.int .i64 c.1) := by rw [hbel1.cell (p := ⟨b, off + k * 3, none⟩) hb]; exact HC1.out
   have k2 : w1.cell? ⟨b, off + k * 3 + 1, none⟩ = some (.int .i64 c.2.1) := by rw [Nat.add_assoc, hbel1.cell (p := ⟨b, off + (k * 3 + 1), none⟩) hb]; exact HC2.out
   cases d
   ·
    have HF : Hid (peerX O E M ps cs x = -1) := by unfold Hid peerX; rw [HD.out]; rfl
    go_wp2
    go_returns
    exact ⟨by rw [HF.out]; rfl, hbel1⟩
   ·
    have HF : Hid (peerX O E M ps cs x = peerL cs x) := by unfold Hid peerX; rw [HD.out]; rfl
    obtain ⟨u, v, t⟩ := c
    simp only at k1 k2
    by_cases h1 : u = x
    ·
     have hq1 : ((u : Int) == x) = true := by simpa using h1
     have HFF : Hid (peerL cs x = v) := by
      have := peer_some (find_at hno.out HC.out (by simp [hasE, h1]))
      rw [Hid, this]; simp only; omega
     clear h1
     go_wp2
     go_returns
     exact ⟨by rw [HF.out, HFF.out]; rfl, hbel1⟩
    ·
     have hq1 : ((u : Int) == x) = false := by simpa using h1
     by_cases h2 : v = x
     ·
      have hq2 : ((v : Int) == x) = true := by simpa using h2
      have HFF : Hid (peerL cs x = u) := by
       have := peer_some (find_at hno.out HC.out (by simp [hasE, h2]))
       rw [Hid, this]; simp only; omega
      clear h1 h2
      go_wp2
      go_returns
      exact ⟨by rw [HF.out, HFF.out]; rfl, hbel1⟩
     ·
      have hq2 : ((v : Int) == x) = false := by simpa using h2
      have HST := Lib.hid (hno.out.succ HC.out (by simp [hasE, h1, h2]))
      clear h1 h2
      go_wp2_with fail
      go_roundw
      case rel => exact ⟨k + 1, by omega, by go_num, HST.out, hbel1, hB1⟩
      case measure => simp [intOf]; omega
  ·
   obtain rfl : k = n := by omega
   have HF : Hid (peerX O E M ps cs x = -1) := by
    unfold Hid peerX
    split
    ·
     exact peer_none (find_none (by rw [HN.out]; exact hno.out))
    ·
     rfl
   go_wp2
   go_returns
   exact ⟨by rw [HF.out]; rfl, hbel⟩

end Go.Proofs.YtedadhoneebfnaaGreatDoor

/- Contract of markText. -/
namespace Go.Proofs.YtedadhoneebfnaaGreatDoor
open Go.RowKit

/-- The digits of a number; none for nought. -/
def tens (k : Nat) : List UInt8 := if h : k = 0 then [] else tens (k / 10) ++ [UInt8.ofNat (48 + k % 10)]
termination_by k
theorem tens_zero : tens 0 = [] := by unfold tens; simp
theorem tens_pos {k : Nat} (h : k ≠ 0) : tens k = tens (k / 10) ++ [UInt8.ofNat (48 + k % 10)] := by
 conv => lhs; unfold tens
 rw [dif_neg h]
def mt (k : Nat) : ByteArray := ⟨#[109]⟩ ++ ⟨(tens k).toArray⟩

set_option maxRecDepth 100000 in
set_option maxHeartbeats 400000 in
theorem markText_any (k : Nat) (w : World) (h0 : 0 < k) (h1 : k ≤ 1000000000) :
  Calls Tryz.prog 46 #[.int .i64 k] w fun e w' => e = .returned (.string (mt k)) ∧ Below w.heap.size w w' := by
 go_enter Tryz.func46, Tryz.ntmps46
 go_wp2_with fail
 go_loopw [0, 3] (fun kk s wr => ∃ (j : Nat) (out : List UInt8), kk = .int .i64 j ∧ s = .string ⟨out.toArray⟩ ∧ j ≤ k ∧ out.length + j ≤ k ∧ Hid (tens j ++ out = tens k) ∧ Below w.heap.size w wr) (fun kk _ _ => (intOf kk).toNat)
 case atStart => exact ⟨k, [], rfl, rfl, by omega, by simp, by simp [Hid], Below.refl _ _⟩
 case round =>
  obtain ⟨j, out, rfl, rfl, hj, hlen, hd, hbel⟩ := hrel
  have hz := hbel.size
  by_cases hj0 : 0 < j
  ·
   obtain ⟨c, hc⟩ : ∃ c, UInt8.ofNat (48 + j % 10) = c := ⟨_, rfl⟩
   have hcn : (c.toNat : Int) = 48 + (j : Int) % 10 := by rw [← hc]; simp; omega
   have hst := tens_pos (show j ≠ 0 by omega)
   rw [hc] at hst
   have HST := Lib.hid hst
   have hcv : (convert 42 9 (.slice (some ⟨wr.heap.size, 0, none⟩) 1 1)).run Tryz.prog (wr.alloc (.cells #[.int .u8 (48 + (j : Int) % 10)] 5)) = .ok (.string ⟨#[c]⟩) (wr.alloc (.cells #[.int .u8 (48 + (j : Int) % 10)] 5)) :=
    run_convert_bytes_back _ _ _ 5 _ 1 [c] Tryz.underlying42 Tryz.underlying5 Tryz.underlying9 (by intro i hi; simp at hi; subst hi; rw [Addr.add_spot, World.cell?_alloc_at _ _ _ _ rfl]; simp [hcn])
   clear hst hc
   go_wp2
   go_roundw
   case rel =>
    refine ⟨j / 10, c :: out, by go_num, ?_, by omega, by simp only [List.length_cons]; omega, ?_, by (exact grownA)⟩
    ·
     have : (⟨#[c]⟩ : ByteArray) ++ ⟨out.toArray⟩ = ⟨(c :: out).toArray⟩ := by
      apply bytes_ext; simp [ByteArray.data_append]
     first | rw [this] | simp [this]
    ·
     unfold Hid; rw [← hd.out, HST.out]; simp
   case measure => simp [intOf]; omega
  ·
   obtain rfl : j = 0 := by omega
   go_wp2
   go_returns
   refine ⟨?_, hbel⟩
   have := hd.out
   rw [tens_zero, List.nil_append] at this
   rw [mt, this]
   rfl

end Go.Proofs.YtedadhoneebfnaaGreatDoor

/- Contracts of the laws' helpers on lists of strings, and toIntS. -/
namespace Go.Proofs.YtedadhoneebfnaaGreatDoor
open Go.RowKit

/-- Lists that agree up to k, and whose next elements agree or not. -/
theorem agree_step {α : Type} {zs ys : List α} {k : Nat} {z y : α} (hz : zs[k]? = some z) (hy : ys[k]? = some y) (h : zs.take k = ys.take k) : zs.take (k + 1) = ys.take (k + 1) ↔ z = y := by
 rw [List.take_add_one, List.take_add_one, hz, hy, h]; simp
theorem infoS : (Tryz.prog.info? 9).map (fun i => (i.zero, i.size, i.bytes)) = some (some (.string ByteArray.empty), 1, 16) := by kernel_rfl
theorem strs_set (ps : List ByteArray) (j : Nat) (s : ByteArray) : (strs ps).set j (.string s) = strs (ps.set j s) := by simp [strs, List.map_set]
theorem strs_zero (n : Nat) : (madeCells (Value.string ByteArray.empty).cells (n * 1)).toList = strs (List.replicate n ByteArray.empty) := by
 apply List.ext_getElem?
 intro i
 by_cases hi : i < n
 ·
  simp [madeCells, Value.cells, strs, hi, List.getElem?_replicate, Nat.mod_one]
 ·
  rw [List.getElem?_eq_none (by simp [madeCells]; omega), List.getElem?_eq_none (by simp [strs]; omega)]

/-- The first k are taken over. -/
def ovTo {α : Type} (z : α) (xs : List α) (k : Nat) : List α := xs.take k ++ List.replicate (xs.length - k) z
theorem ovTo_len {α : Type} (z : α) (xs : List α) (k : Nat) (h : k ≤ xs.length) : (ovTo z xs k).length = xs.length := by simp [ovTo]; omega
theorem ovTo_zero {α : Type} (z : α) (xs : List α) : ovTo z xs 0 = List.replicate xs.length z := by simp [ovTo]
theorem ovTo_all {α : Type} (z : α) (xs : List α) : ovTo z xs xs.length = xs := by simp [ovTo]
theorem ovTo_set {α : Type} (z : α) (xs : List α) (k : Nat) (x : α) (h : xs[k]? = some x) : (ovTo z xs k).set k x = ovTo z xs (k + 1) := by
 have hk : k < xs.length := (List.getElem?_eq_some_iff.1 h).1
 have hr : xs[k] = x := (List.getElem?_eq_some_iff.1 h).2
 apply List.ext_getElem
 ·
  simp [ovTo]; omega
 ·
  intro i h1 h2
  simp only [ovTo, List.getElem_set, List.getElem_append, List.length_take, List.getElem_take, List.getElem_replicate]
  split
  ·
   subst_vars; rw [dif_pos (by omega)]
  ·
   split
   ·
    rw [dif_pos (by omega)]
   ·
    rw [dif_neg (by omega)]

/-- A list made anew, at a block's head. -/
def MadeL (E : TypeId) (cells : List Value) (n : Nat) (w : World) (e : Ending) (w' : World) : Prop :=
 ∃ g, e = .returned (.slice (some ⟨g, 0, none⟩) n n) ∧ w.heap.size ≤ g ∧ Own w' g n n E 1 cells ∧ Below w.heap.size w w'

set_option maxHeartbeats 1000000 in
theorem toStringS_any (v : Value) (ps : List ByteArray) (w : World) (hv : Rds w v ps.length 1 (strs ps)) (hlen : ps.length ≤ 1048576) :
  Calls Tryz.prog 12 #[v] w (MadeL 9 (strs ps) ps.length w) := by
 obtain ⟨i0, hi, hz0, hz1, hz2⟩ := info_parts infoS
 obtain ⟨a, ca, rfl, hl1, hm1, hn1, hc1⟩ := hv.open1
 unfold maxLen at hm1
 unfold MadeL
 obtain ⟨n, hn⟩ : ∃ n, ps.length = n := ⟨_, rfl⟩
 rw [hn] at hm1 hn1 hc1 hlen ⊢
 have HN := Lib.hid hn
 clear hn hl1 hv
 go_enter Tryz.func12, Tryz.ntmps12
 go_wp2_with (refine wpList_make_full _ rfl _ _ 24 rfl w.heap.size 9 i0 _ 1 Tryz.underlying24 hi hz0 hz1 .i64 .i64 _ _ n rfl rfl rfl rfl (by rw [hz2]; omega) (by unfold maxLen; omega) (Nat.le_refl _) ?_; intro w1 hown hgr)
 rw [strs_zero] at hown
 obtain ⟨hO, -⟩ := Own.of hown
 have hB : Below w.heap.size w w1 := (Below.refl w.heap.size w).grown hgr (Nat.le_refl _) (by intro k hk; cases hk)
 clear hown hgr
 go_wp2_with fail
 go_loopw [4] (fun i wr => ∃ (k : Nat), k ≤ n ∧ i = .int .i64 k ∧ Own wr w.heap.size n n 9 1 (strs (ovTo ByteArray.empty ps k)) ∧ Below w.heap.size w wr) (fun i _ => n - (intOf i).toNat)
 case atStart => exact ⟨0, by omega, rfl, by rw [ovTo_zero, HN.out]; exact hO, hB⟩
 case round =>
  obtain ⟨k, hk, rfl, hown, hbel⟩ := hrel
  by_cases hkn : k < n
  ·
   rcases hc1 with hc1 | ⟨b, off, rfl, hb, hc1⟩
   ·
    omega
   obtain ⟨r, hr⟩ : ∃ r, ps[k]? = some r := ⟨_, List.getElem?_eq_getElem (by rw [HN.out]; omega)⟩
   have c1 : wr.cell? ⟨b, off + k, none⟩ = some (.string r) := by rw [hbel.cell (p := ⟨b, off + k, none⟩) hb, hc1 _ (by omega), strs_at _ _ _ hr]
   have HR := Lib.hid hr
   clear hc1 hr
   have hlt := hown.lt
   obtain ⟨y, hy⟩ : ∃ y, (ovTo ByteArray.empty ps k)[k]? = some y := ⟨_, List.getElem?_eq_getElem (by rw [ovTo_len _ _ _ (by rw [HN.out]; omega), HN.out]; omega)⟩
   have d1 := hown.cell k (by omega)
   rw [strs_at _ _ _ hy] at d1
   have f1 := hown.free k
   clear hy
   go_wp2_with fail
   go_roundw
   case rel =>
    refine ⟨k + 1, by omega, by go_num, ?_, by (exact grownA)⟩
    rw [← ovTo_set _ _ _ _ HR.out, ← strs_set]
    (exact ownA)
   case measure => simp [intOf]; omega
  ·
   obtain rfl : k = n := by omega
   go_wp2
   go_returns
   have := ovTo_all ByteArray.empty ps
   rw [HN.out] at this
   rw [this] at hown
   exact ⟨_, rfl, Nat.le_refl _, hown, hbel⟩

/-- What szStringS leaves. -/
def SzsPost (ps : List ByteArray) (w : World) (e : Ending) (w' : World) : Prop :=
 ∃ x : Int, e = .returned (.int .i64 x) ∧ -1 ≤ x ∧ x ≤ 1048576 ∧ (0 ≤ x → ps.length ≤ 1048576 ∧ ∀ (k : Nat) (s : ByteArray), ps[k]? = some s → s.size ≤ 1048576) ∧ w = w'
set_option maxHeartbeats 400000 in
theorem szStringS_any (v : Value) (ps : List ByteArray) (w : World) (hv : Rds w v ps.length 1 (strs ps)) (hL : StLen ps) :
  Calls Tryz.prog 9 #[v, .int .i64 1048576] w (SzsPost ps w) := by
 obtain ⟨a, ca, rfl, hl1, hm1, hn1, hc1⟩ := hv.open1
 unfold maxLen at hm1
 obtain ⟨n, hn⟩ : ∃ n, ps.length = n := ⟨_, rfl⟩
 rw [hn] at hm1 hn1 hc1 ⊢
 have HN := Lib.hid hn
 have HL := Lib.hid hL
 clear hn hl1 hL hv
 by_cases hbig : 1048576 < n
 ·
  go_enter Tryz.func9, Tryz.ntmps9
  go_wp2
  go_returns
  exact ⟨-1, rfl, by omega, by omega, fun h => absurd h (by omega), rfl⟩
 ·
  go_enter Tryz.func9, Tryz.ntmps9
  go_wp2_with fail
  go_loop [1, 5] (fun l i => ∃ (k : Nat) (x : Int), k ≤ n ∧ i = .int .i64 k ∧ l = .int .i64 x ∧ 0 ≤ x ∧ x ≤ 1048576 ∧ Hid (∀ (j : Nat) (s : ByteArray), j < k → ps[j]? = some s → s.size ≤ 1048576)) (fun _ i => n - (intOf i).toNat)
  case atStart => exact ⟨0, _, by omega, rfl, rfl, by omega, by omega, fun j r h => absurd h (by omega)⟩
  case round =>
   obtain ⟨k, x, hk, rfl, rfl, hx0, hx1, hall⟩ := hrel
   by_cases hkn : k < n
   ·
    rcases hc1 with hc1 | ⟨b, off, rfl, hb, hc1⟩
    ·
     omega
    obtain ⟨s, hr⟩ : ∃ r, ps[k]? = some r := ⟨_, List.getElem?_eq_getElem (by rw [HN.out]; omega)⟩
    have c1 := hc1 k hkn
    rw [strs_at ps k s hr] at c1
    have hrl := HL.out k s hr
    unfold maxLen at hrl
    have HR := Lib.hid hr
    clear hc1 hr
    by_cases hs : x < (s.size : Int)
    ·
     have hs2 : x - s.size < 0 := by omega
     go_wp2
     go_returns
     exact ⟨-1, rfl, by omega, by omega, fun h => absurd h (by omega), rfl⟩
    ·
     have hs2 : ¬ x - s.size < 0 := by omega
     go_wp2_with fail
     go_round
     case rel =>
      refine ⟨k + 1, x - s.size, by omega, by go_num, rfl, by omega, by omega, ?_⟩
      intro j r hj hr
      by_cases e : j = k
      ·
       subst e; have := HR.out; rw [hr] at this; cases this; omega
      ·
       exact hall.out j r (by omega) hr
     case measure => simp [intOf]; omega
   ·
    obtain rfl : k = n := by omega
    go_wp2
    go_returns
    exact ⟨x, rfl, by omega, by omega, fun _ => ⟨by rw [HN.out]; omega, fun j r hr => hall.out j r (by have := (List.getElem?_eq_some_iff.1 hr).1; rw [HN.out] at this; exact this) hr⟩, rfl⟩

set_option maxHeartbeats 400000 in
theorem eqStringS_any (v u : Value) (zs ys : List ByteArray) (w : World) (hv : Rds w v zs.length 1 (strs zs)) (hu : Rds w u ys.length 1 (strs ys)) :
  Calls Tryz.prog 15 #[v, u] w fun e w' => e = .returned (.bool (decide (zs = ys))) ∧ Below w.heap.size w w' := by
 obtain ⟨a, ca, rfl, hl1, hm1, hn1, hc1⟩ := hv.open1
 obtain ⟨b, cb, rfl, hl2, hm2, hn2, hc2⟩ := hu.open1
 unfold maxLen at hm1 hm2
 by_cases hlen : zs.length = ys.length
 ·
  have hne : ((zs.length : Int) != (ys.length : Int)) = false := by simp; omega
  obtain ⟨m, hm⟩ : ∃ m, ys.length = m := ⟨_, rfl⟩
  rw [hm] at hne hm2 hn2 hc2 ⊢
  obtain ⟨n, hn⟩ : ∃ n, zs.length = n := ⟨_, rfl⟩
  rw [hn] at hne hm1 hn1 hc1 ⊢
  have hnm : n = m := by omega
  subst hnm
  have HM := Lib.hid hm
  have HN := Lib.hid hn
  clear hm hn hl1 hl2 hlen hv hu
  go_enter Tryz.func15, Tryz.ntmps15
  go_wp2_with fail
  go_loopw [5] (fun i wr => ∃ k q : Nat, k ≤ n ∧ i = .int .i64 k ∧ Hid (zs.take k = ys.take k) ∧ wr = w.drewN q) (fun i _ => n - (intOf i).toNat)
  case atStart => exact ⟨0, 0, by omega, rfl, rfl, rfl⟩
  case round =>
   obtain ⟨k, q, hk, rfl, hag, rfl⟩ := hrel
   by_cases hkn : k < n
   ·
    rcases hc1 with hc1 | ⟨b1, o1, rfl, hb1, hc1⟩
    ·
     omega
    rcases hc2 with hc2 | ⟨b2, o2, rfl, hb2, hc2⟩
    ·
     omega
    obtain ⟨z, hz⟩ : ∃ z, zs[k]? = some z := ⟨_, List.getElem?_eq_getElem (by rw [HN.out]; omega)⟩
    obtain ⟨y, hy⟩ : ∃ y, ys[k]? = some y := ⟨_, List.getElem?_eq_getElem (by rw [HM.out]; omega)⟩
    have g1 := hc1 k hkn
    have g2 := hc2 k hkn
    rw [strs_at _ _ _ hz] at g1
    rw [strs_at _ _ _ hy] at g2
    have hst := agree_step hz hy hag.out
    clear hz hy hc1 hc2
    by_cases hzy : z = y
    ·
     have HST := Lib.hid (hst.2 hzy)
     clear hst
     have hsb := str_eq hzy
     subst hzy
     go_wp2_with fail
     go_quiet (fail)
     go_wp2
     go_roundw
     case rel => exact ⟨k + 1, _, by omega, by go_num, HST.out, rfl⟩
     case measure => simp [intOf]; omega
    ·
     have hsb := str_ne hzy
     have HST := Lib.hid (fun h => hzy (hst.1 h))
     clear hst hzy
     go_wp2_with fail
     go_quiet (fail)
     go_wp2
     go_returns
     refine ⟨?_, by (exact grownA)⟩
     have : zs ≠ ys := fun h => HST.out (by rw [h])
     simp [this]
   ·
    obtain rfl : k = n := by omega
    go_wp2
    go_returns
    refine ⟨?_, by (exact grownA)⟩
    have h1 := hag.out
    rw [List.take_of_length_le (by rw [HN.out]; omega), List.take_of_length_le (by rw [HM.out]; omega)] at h1
    simp [h1]
 ·
  have hne : ((zs.length : Int) != (ys.length : Int)) = true := by simp; omega
  have hno : zs ≠ ys := fun h => hlen (by rw [h])
  have hdec : decide (zs = ys) = false := by simpa using hno
  rw [hdec]
  clear hdec hno hlen
  go_enter Tryz.func15, Tryz.ntmps15
  go_wp2
  go_returns
  exact ⟨rfl, Below.refl _ _⟩
set_option maxHeartbeats 400000 in
theorem sameTexts_any (v u : Value) (zs ys : List ByteArray) (w : World) (hv : Rds w v zs.length 1 (strs zs)) (hu : Rds w u ys.length 1 (strs ys)) :
  Calls Tryz.prog 33 #[v, u] w fun e w' => e = .returned (.bool (decide (zs = ys))) ∧ Below w.heap.size w w' := by
 obtain ⟨a, ca, rfl, hl1, hm1, hn1, hc1⟩ := hv.open1
 obtain ⟨b, cb, rfl, hl2, hm2, hn2, hc2⟩ := hu.open1
 unfold maxLen at hm1 hm2
 by_cases hlen : zs.length = ys.length
 ·
  have hne : ((zs.length : Int) != (ys.length : Int)) = false := by simp; omega
  obtain ⟨m, hm⟩ : ∃ m, ys.length = m := ⟨_, rfl⟩
  rw [hm] at hne hm2 hn2 hc2 ⊢
  obtain ⟨n, hn⟩ : ∃ n, zs.length = n := ⟨_, rfl⟩
  rw [hn] at hne hm1 hn1 hc1 ⊢
  have hnm : n = m := by omega
  subst hnm
  have HM := Lib.hid hm
  have HN := Lib.hid hn
  clear hm hn hl1 hl2 hlen hv hu
  go_enter Tryz.func33, Tryz.ntmps33
  go_wp2_with fail
  go_loopw [5] (fun i wr => ∃ k q : Nat, k ≤ n ∧ i = .int .i64 k ∧ Hid (zs.take k = ys.take k) ∧ wr = w.drewN q) (fun i _ => n - (intOf i).toNat)
  case atStart => exact ⟨0, 0, by omega, rfl, rfl, rfl⟩
  case round =>
   obtain ⟨k, q, hk, rfl, hag, rfl⟩ := hrel
   by_cases hkn : k < n
   ·
    rcases hc1 with hc1 | ⟨b1, o1, rfl, hb1, hc1⟩
    ·
     omega
    rcases hc2 with hc2 | ⟨b2, o2, rfl, hb2, hc2⟩
    ·
     omega
    obtain ⟨z, hz⟩ : ∃ z, zs[k]? = some z := ⟨_, List.getElem?_eq_getElem (by rw [HN.out]; omega)⟩
    obtain ⟨y, hy⟩ : ∃ y, ys[k]? = some y := ⟨_, List.getElem?_eq_getElem (by rw [HM.out]; omega)⟩
    have g1 := hc1 k hkn
    have g2 := hc2 k hkn
    rw [strs_at _ _ _ hz] at g1
    rw [strs_at _ _ _ hy] at g2
    have hst := agree_step hz hy hag.out
    clear hz hy hc1 hc2
    by_cases hzy : z = y
    ·
     have HST := Lib.hid (hst.2 hzy)
     clear hst
     have hsb := str_eq hzy
     subst hzy
     go_wp2_with fail
     go_quiet (fail)
     go_wp2
     go_roundw
     case rel => exact ⟨k + 1, _, by omega, by go_num, HST.out, rfl⟩
     case measure => simp [intOf]; omega
    ·
     have hsb := str_ne hzy
     have HST := Lib.hid (fun h => hzy (hst.1 h))
     clear hst hzy
     go_wp2_with fail
     go_quiet (fail)
     go_wp2
     go_returns
     refine ⟨?_, by (exact grownA)⟩
     have : zs ≠ ys := fun h => HST.out (by rw [h])
     simp [this]
   ·
    obtain rfl : k = n := by omega
    go_wp2
    go_returns
    refine ⟨?_, by (exact grownA)⟩
    have h1 := hag.out
    rw [List.take_of_length_le (by rw [HN.out]; omega), List.take_of_length_le (by rw [HM.out]; omega)] at h1
    simp [h1]
 ·
  have hne : ((zs.length : Int) != (ys.length : Int)) = true := by simp; omega
  have hno : zs ≠ ys := fun h => hlen (by rw [h])
  have hdec : decide (zs = ys) = false := by simpa using hno
  rw [hdec]
  clear hdec hno hlen
  go_enter Tryz.func33, Tryz.ntmps33
  go_wp2
  go_returns
  exact ⟨rfl, Below.refl _ _⟩

/-- What the marks write. -/
def smarks (k n : Nat) : List ByteArray := (List.range n).map fun i => mt (k + i)
theorem smarks_len (k n : Nat) : (smarks k n).length = n := by simp [smarks]
theorem smarks_at (k n i : Nat) (h : i < n) : (smarks k n)[i]? = some (mt (k + i)) := by simp [smarks, h]
def smarkTo (ps : List ByteArray) (k j : Nat) : List ByteArray := smarks k j ++ ps.drop j
theorem smarkTo_zero (ps : List ByteArray) (k : Nat) : smarkTo ps k 0 = ps := by simp [smarkTo, smarks]
theorem smarkTo_all (ps : List ByteArray) (k : Nat) : smarkTo ps k ps.length = smarks k ps.length := by simp [smarkTo]
theorem smarkTo_len (ps : List ByteArray) (k j : Nat) (h : j ≤ ps.length) : (smarkTo ps k j).length = ps.length := by simp [smarkTo, smarks]; omega
theorem smarkTo_set (ps : List ByteArray) (k j : Nat) (h : j < ps.length) : (smarkTo ps k j).set j (mt (k + j)) = smarkTo ps k (j + 1) := by
 apply List.ext_getElem
 ·
  simp [smarkTo, smarks]; omega
 ·
  intro i h1 h2
  simp only [List.getElem_set, smarkTo, smarks, List.getElem_append, List.length_map, List.length_range, List.getElem_map, List.getElem_range, List.getElem_drop]
  split
  ·
   subst_vars; rw [dif_pos (by omega)]
  ·
   split
   ·
    rw [dif_pos (by omega)]
   ·
    rw [dif_neg (by omega)]; congr 1; omega

set_option maxHeartbeats 400000 in
theorem markStrs (g n cap : Nat) (ps : List ByteArray) (k : Nat) (w : World) (hv : Own w g n cap 9 1 (strs ps)) (hk0 : 0 < k) (hk : k ≤ 1000000) (hn : n ≤ 10000000) :
  Calls Tryz.prog 17 #[.slice (some ⟨g, 0, none⟩) n cap, .int .i64 k] w fun e w' => e = .returned (.int .i64 (k + n : Nat)) ∧ Own w' g n cap 9 1 (strs (smarks k n)) ∧ w.grownBy w' (some g) := by
 have hlen := hv.len
 rw [strs_len] at hlen
 have hlen' : ps.length = n := by omega
 have HLEN := Lib.hid hlen'
 clear hlen hlen'
 go_enter Tryz.func17, Tryz.ntmps17
 go_wp2_with fail
 go_loopw [1, 5] (fun kk i wr => ∃ j : Nat, j ≤ n ∧ i = .int .i64 j ∧ kk = .int .i64 (k + j : Nat) ∧ Own wr g n cap 9 1 (strs (smarkTo ps k j)) ∧ w.grownBy wr (some g)) (fun _ i _ => n - (intOf i).toNat)
 case atStart => exact ⟨0, by omega, rfl, by simp, by rw [smarkTo_zero]; exact hv, World.grownBy.refl _ _⟩
 case round =>
  obtain ⟨j, hj, rfl, rfl, hown, hgr⟩ := hrel
  by_cases hjn : j < n
  ·
   have hlt := hown.lt
   go_wp2_with fail
   refine (markText_any (k + j) _ (by omega) (by omega)).mono ?_
   rintro e w2 ⟨rfl, hb2⟩
   have hown2 := hown.below hb2 hlt
   have hgr2 : w.grownBy w2 (some g) := gb_below hb2 hgr.size hgr
   have hlt2 := hown2.lt
   obtain ⟨y, hy⟩ : ∃ y, (smarkTo ps k j)[j]? = some y := ⟨_, List.getElem?_eq_getElem (by rw [smarkTo_len _ _ _ (by rw [HLEN.out]; omega), HLEN.out]; omega)⟩
   have d1 := hown2.cell j (by omega)
   rw [strs_at _ _ _ hy] at d1
   have f1 := hown2.free j
   clear hown hy hb2
   go_wp2_with fail
   go_roundw
   case rel =>
    refine ⟨j + 1, by omega, by go_num, by go_num, ?_, ?_⟩
    ·
     rw [← smarkTo_set _ _ _ (by rw [HLEN.out]; omega), ← strs_set]
     (exact ownA)
    ·
     (exact gbA)
   case measure => simp [intOf]; omega
  ·
   obtain rfl : j = n := by omega
   go_wp2
   go_returns
   refine ⟨rfl, ?_, hgr⟩
   have := smarkTo_all ps k
   rw [HLEN.out] at this
   rw [← this]
   exact hown

set_option maxHeartbeats 400000 in
theorem markStrs_any (base : Nat) (v : Value) (n : Nat) (ps : List ByteArray) (k : Nat) (w : World) (hv : w.ownsRow base 9 1 v n (strs ps)) (hk0 : 0 < k) (hk : k ≤ 1000000) (hn : n ≤ 10000000) :
  Calls Tryz.prog 17 #[v, .int .i64 k] w fun e w' => e = .returned (.int .i64 (k + n : Nat)) ∧ w'.ownsRow base 9 1 v n (strs (smarks k n)) ∧ w.grownBy w' v.ownBlock := by
 rcases hv.2 with ⟨rfl, rfl⟩ | ⟨g, cap, cur, rfl, hb, _⟩
 ·
  clear hv
  go_enter Tryz.func17, Tryz.ntmps17
  go_wp2_with fail
  refine wp_loop_rounds 1 ?_
  rw [rounds_succ]
  go_wp2
  go_returns
  exact ⟨by simp, World.ownsRow_nil _ _ _ _, World.grownBy.refl _ _⟩
 ·
  refine (markStrs g n cap ps k w (Own.of hv).1 hk0 hk hn).mono ?_
  rintro e w' ⟨rfl, h1, h2⟩
  exact ⟨rfl, h1.back hb, h2⟩

set_option maxRecDepth 100000 in
set_option maxHeartbeats 400000 in
theorem heldStrs_any (v : Value) (n k : Nat) (w : World) (hv : Rds w v n 1 (strs (smarks k n))) (hk0 : 0 < k) (hk : k ≤ 1000000) (hn : n ≤ 10000000) :
  Calls Tryz.prog 19 #[v, .int .i64 k] w fun e w' => e = .returned (.int .i64 (k + n : Nat)) ∧ Below w.heap.size w w' := by
 obtain ⟨a, ca, rfl, hl1, hm1, hn1, hc1⟩ := hv.open1
 unfold maxLen at hm1
 clear hl1 hv
 go_enter Tryz.func19, Tryz.ntmps19
 go_wp2_with fail
 go_loopw [1, 5] (fun kk i wr => ∃ j : Nat, j ≤ n ∧ i = .int .i64 j ∧ kk = .int .i64 (k + j : Nat) ∧ Below w.heap.size w wr) (fun _ i _ => n - (intOf i).toNat)
 case atStart => exact ⟨0, by omega, rfl, by simp, Below.refl _ _⟩
 case round =>
  obtain ⟨j, hj, rfl, rfl, hbel⟩ := hrel
  have hz := hbel.size
  by_cases hjn : j < n
  ·
   rcases hc1 with hc1 | ⟨b, off, rfl, hb, hc1⟩
   ·
    omega
   have c1 : wr.cell? ⟨b, off + j, none⟩ = some (.string (mt (k + j))) := by rw [hbel.cell (p := ⟨b, off + j, none⟩) hb, hc1 _ (by omega), strs_at _ _ _ (smarks_at k n j hjn)]
   have hsb := str_eq (rfl : mt (k + j) = mt (k + j))
   have hblt : b < wr.heap.size := by omega
   clear hc1
   go_wp2_with fail
   go_region_held3 (fun w' => w'.cell? ⟨b, off + j, none⟩ = some (.string (mt (k + j)))) (exact keepA)
    (first | (go_at_call 46; refine (markText_any (k + j) _ (by omega) (by omega)).mono ?_; rintro e w2 ⟨rfl, hb2⟩))
   have hz2 := hb2.size
   have hbel2 : Below w.heap.size w w2 := by (exact grownA)
   clear hb2 c1
   go_wp2_with fail
   go_roundw
   case rel => exact ⟨j + 1, by omega, by go_num, by go_num, by (exact grownA)⟩
   case measure => simp [intOf]; omega
  ·
   obtain rfl : j = n := by omega
   go_wp2
   go_returns
   exact ⟨rfl, hbel⟩

end Go.Proofs.YtedadhoneebfnaaGreatDoor

/- Contracts of the laws' helpers on deeds. -/
namespace Go.Proofs.YtedadhoneebfnaaGreatDoor
open Go.RowKit

theorem infoD : (Tryz.prog.info? 55).map (fun i => (i.zero, i.size, i.bytes)) = some (some (.agg #[.int .i64 0, .int .i64 0, .string ByteArray.empty]), 3, 32) := by kernel_rfl

end Go.Proofs.YtedadhoneebfnaaGreatDoor
