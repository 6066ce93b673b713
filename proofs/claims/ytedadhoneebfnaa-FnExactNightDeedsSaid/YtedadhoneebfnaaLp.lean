/- Contracts of LineOf, PeerOf (program and reference), callOf, slices.Index at strings. -/
import Derived.Test.YtedadhoneebfnaaEw
set_option linter.unusedSimpArgs false
set_option linter.unusedVariables false
namespace Go.Proofs.Ytedadhoneebfnaa
open Go.RowKit

set_option maxHeartbeats 1000000 in
theorem index_any (v : Value) (ps : List ByteArray) (s : ByteArray) (w : World) (hv : Rds w v ps.length 1 (strs ps)) :
    Calls Try.prog 73 #[v, .string s] w fun e w' => e = .returned (.int .i64 (lineL ps s)) ∧ w = w' := by
  obtain ⟨a, ca, rfl, hl1, hm1, hn1, hc1⟩ := hv.open1
  unfold maxLen at hm1
  obtain ⟨n, hn⟩ : ∃ n, ps.length = n := ⟨_, rfl⟩
  rw [hn] at hm1 hn1 hc1 ⊢
  have HN := Lib.hid hn
  clear hn hl1 hv
  go_enter Try.func73, Try.ntmps73
  go_wp2_with fail
  go_loop [8] (fun i => ∃ k : Nat, k ≤ n ∧ i = .int .i64 k ∧ Hid (neTo ps s k)) (fun i => n - (intOf i).toNat)
  case atStart => exact ⟨0, by omega, rfl, fun j p h => absurd h (by omega)⟩
  case round =>
    obtain ⟨k, hk, rfl, hne⟩ := hrel
    by_cases hkn : k < n
    · rcases hc1 with hc1 | ⟨b, off, rfl, hb, hc1⟩
      · omega
      obtain ⟨t, ht⟩ : ∃ s, ps[k]? = some s := ⟨_, List.getElem?_eq_getElem (by rw [HN.out]; omega)⟩
      have c1 := hc1 k hkn
      rw [strs_at ps k t ht] at c1
      have HT := Lib.hid ht
      clear hc1 ht
      by_cases hst : s = t
      · have hsb := str_eq hst
        subst hst
        have HF := Lib.hid (line_at hne.out HT.out)
        go_wp2
        go_returns
        exact ⟨by rw [HF.out]; rfl, rfl⟩
      · have hsb := str_ne hst
        have HST : Hid (neTo ps s (k + 1)) := by
          intro j p hj hp
          by_cases e : j = k
          · subst e; rw [HT.out] at hp; cases hp; exact fun e => hst e.symm
          · exact hne.out j p (by omega) hp
        clear hst
        go_wp2_with fail
        go_round
        case rel => exact ⟨k + 1, by omega, by go_num, HST.out⟩
        case measure => simp [intOf]; omega
    · obtain rfl : k = n := by omega
      have HF := Lib.hid (line_none (s := s) (by rw [HN.out]; exact hne.out))
      go_wp2
      go_returns
      exact ⟨by rw [HF.out]; rfl, rfl⟩

noncomputable def lineX (O E M : Int) (ps : List ByteArray) (cs : List Cl) (s : ByteArray) : Int := if exB O E M ps cs = true then lineL ps s else -1
noncomputable def peerX (O E M : Int) (ps : List ByteArray) (cs : List Cl) (x : Int) : Int := if exB O E M ps cs = true then peerL cs x else -1

set_option maxHeartbeats 1000000 in
theorem iLineOf_any (O E M : Int) (vp vc : Value) (ps : List ByteArray) (cs : List Cl) (s : ByteArray) (w : World) (hR : ExRd w vp vc ps cs) (hL : StLen ps) :
    Calls Try.prog 23 #[.agg #[.int .i64 O, .int .i64 E, .int .i64 M, vp, vc], .string s] w fun e w' => e = .returned (.int .i64 (lineX O E M ps cs s)) ∧ Below w.heap.size w w' := by
  have hB := Blk.new (w := w) (cs := #[.int .i64 O, .int .i64 E, .int .i64 M, vp, vc]) (T := 33) rfl
  have hbel0 : Below w.heap.size w (w.alloc (.cells #[.int .i64 O, .int .i64 E, .int .i64 M, vp, vc] 33)) := by (repeat' (first | (with_reducible exact Below.refl _ _) | (with_reducible assumption) | (with_reducible refine Below.drew ?_) | (with_reducible refine below_drewN ?_ _) | (with_reducible refine Below.alloc ?_ ?_ _) | (with_reducible refine Below.setCell ?_ ?_ _) | (refine Below.trans ?_ (Below.mono (by assumption) (by first | omega | (with_reducible exact Below.size (by assumption)) | (simp; done) | (simp; omega)))) | (with_reducible exact Nat.le_refl _) | omega | (with_reducible exact Below.size (by assumption)) | (simp only [World.size_alloc, World.size_setCell, World.size_drew]; omega) | (simp; done) | (simp; omega)))
  have HR := Lib.hid hR
  have HL := Lib.hid hL
  obtain ⟨a1, c1, rfl, _⟩ := hR.plan.open1
  obtain ⟨_, _, a2, c2, rfl, _⟩ := hR.calls
  clear hR hL
  go_enter Try.func23, Try.ntmps23
  go_wp2_with fail
  refine (iExchangeValid_any O E M _ _ ps cs _ (HR.out.below hbel0) HL.out).mono ?_
  rintro e w1 ⟨rfl, hb⟩
  have hbel1 : Below w.heap.size w w1 := by (repeat' (first | (with_reducible exact Below.refl _ _) | (with_reducible assumption) | (with_reducible refine Below.drew ?_) | (with_reducible refine below_drewN ?_ _) | (with_reducible refine Below.alloc ?_ ?_ _) | (with_reducible refine Below.setCell ?_ ?_ _) | (refine Below.trans ?_ (Below.mono (by assumption) (by first | omega | (with_reducible exact Below.size (by assumption)) | (simp; done) | (simp; omega)))) | (with_reducible exact Nat.le_refl _) | omega | (with_reducible exact Below.size (by assumption)) | (simp only [World.size_alloc, World.size_setCell, World.size_drew]; omega) | (simp; done) | (simp; omega)))
  have hB1 := hB.belowAll hb
  clear hB hb hbel0
  obtain ⟨p0, p1, p2, p3, p4, _, _, _, _, _, plt⟩ := hB1.five
  obtain ⟨d, hd⟩ : ∃ d, exB O E M ps cs = d := ⟨_, rfl⟩
  have HD := Lib.hid hd
  rw [hd]
  clear hd
  cases d
  · have HF : Hid (lineX O E M ps cs s = -1) := by unfold Hid lineX; rw [HD.out]; rfl
    go_wp2
    go_returns
    exact ⟨by rw [HF.out]; rfl, hbel1⟩
  · have HF : Hid (lineX O E M ps cs s = lineL ps s) := by unfold Hid lineX; rw [HD.out]; rfl
    go_wp2_with fail
    refine (index_any _ ps s _ (HR.out.plan.below hbel1)).mono ?_
    rintro e w2 ⟨rfl, rfl⟩
    go_wp2
    go_returns
    exact ⟨by rw [HF.out]; rfl, hbel1⟩

/-- Where the call of a line is. -/
def CallAt (cs : List Cl) (x r : Int) : Prop := (r = -1 ∧ cs.find? (hasE x) = none) ∨ ∃ (k : Nat) (c : Cl), r = k ∧ cs[k]? = some c ∧ cs.find? (hasE x) = some c ∧ c ∈ cs
def CallOfPost (cs : List Cl) (x : Int) (w : World) (e : Ending) (w' : World) : Prop := ∃ r : Int, e = .returned (.int .i64 r) ∧ CallAt cs x r ∧ Below w.heap.size w w'

set_option maxHeartbeats 1000000 in
theorem callOf_any (O E M : Int) (vp vc : Value) (cs : List Cl) (x : Int) (w : World) (hR : Rds w vc cs.length 3 (ccells cs)) :
    Calls Try.prog 74 #[.agg #[.int .i64 O, .int .i64 E, .int .i64 M, vp, vc], .int .i64 x] w (CallOfPost cs x w) := by
  have hB := Blk.new (w := w) (cs := #[.int .i64 O, .int .i64 E, .int .i64 M, vp, vc]) (T := 33) rfl
  have hbel0 : Below w.heap.size w (w.alloc (.cells #[.int .i64 O, .int .i64 E, .int .i64 M, vp, vc] 33)) := by (repeat' (first | (with_reducible exact Below.refl _ _) | (with_reducible assumption) | (with_reducible refine Below.drew ?_) | (with_reducible refine below_drewN ?_ _) | (with_reducible refine Below.alloc ?_ ?_ _) | (with_reducible refine Below.setCell ?_ ?_ _) | (refine Below.trans ?_ (Below.mono (by assumption) (by first | omega | (with_reducible exact Below.size (by assumption)) | (simp; done) | (simp; omega)))) | (with_reducible exact Nat.le_refl _) | omega | (with_reducible exact Below.size (by assumption)) | (simp only [World.size_alloc, World.size_setCell, World.size_drew]; omega) | (simp; done) | (simp; omega)))
  obtain ⟨hl2, hm2, a2, c2, rfl, hn2, hc2⟩ := hR
  unfold maxLen at hm2
  obtain ⟨m, hm⟩ : ∃ m, cs.length = m := ⟨_, rfl⟩
  rw [hm] at hB hbel0 hm2 hn2 hc2 ⊢
  have HM := Lib.hid hm
  clear hm hl2
  obtain ⟨p0, p1, p2, p3, p4, _, _, _, _, _, plt⟩ := hB.five
  go_enter Try.func74, Try.ntmps74
  go_wp2_with fail
  go_loopw [10] (fun i wr => ∃ k : Nat, k ≤ m ∧ i = .int .i64 k ∧ Hid (noneTo cs x k) ∧ Below w.heap.size w wr) (fun i _ => m - (intOf i).toNat)
  case atStart => exact ⟨0, by omega, rfl, fun j c h => absurd h (by omega), hbel0⟩
  case round =>
    obtain ⟨k, hk, rfl, hno, hbel⟩ := hrel
    have hz := hbel.size
    by_cases hkm : k < m
    · rcases hc2 with hc2 | ⟨b, off, rfl, hb, hc2⟩
      · omega
      obtain ⟨c, hc⟩ : ∃ c, cs[k]? = some c := ⟨_, List.getElem?_eq_getElem (by rw [HM.out]; omega)⟩
      obtain ⟨g1, g2, g3⟩ := ccells_at cs k c hc
      have k1 : wr.cell? ⟨b, off + k * 3, none⟩ = some (.int .i64 c.1) := by rw [hbel.cell (p := ⟨b, off + k * 3, none⟩) hb, hc2 _ (by omega), g1]
      have k2 : wr.cell? ⟨b, off + k * 3 + 1, none⟩ = some (.int .i64 c.2.1) := by rw [Nat.add_assoc, hbel.cell (p := ⟨b, off + (k * 3 + 1), none⟩) hb, hc2 _ (by omega), g2]
      have k3 : wr.cell? ⟨b, off + k * 3 + 2, none⟩ = some (.int .i64 c.2.2) := by rw [Nat.add_assoc, hbel.cell (p := ⟨b, off + (k * 3 + 2), none⟩) hb, hc2 _ (by omega), g3]
      have HC := Lib.hid hc
      clear hc g1 g2 g3 hc2
      obtain ⟨u, v, t⟩ := c
      simp only at k1 k2 k3
      by_cases h1 : u = x
      · have hq1 : ((u : Int) == x) = true := by simpa using h1
        have HF := Lib.hid (find_at hno.out HC.out (by simp [hasE, h1]))
        have HME := Lib.hid (List.mem_of_getElem? HC.out)
        clear h1
        go_wp2
        go_returns
        exact ⟨_, rfl, .inr ⟨k, _, rfl, HC.out, HF.out, HME.out⟩, by (repeat' (first | (with_reducible exact Below.refl _ _) | (with_reducible assumption) | (with_reducible refine Below.drew ?_) | (with_reducible refine below_drewN ?_ _) | (with_reducible refine Below.alloc ?_ ?_ _) | (with_reducible refine Below.setCell ?_ ?_ _) | (refine Below.trans ?_ (Below.mono (by assumption) (by first | omega | (with_reducible exact Below.size (by assumption)) | (simp; done) | (simp; omega)))) | (with_reducible exact Nat.le_refl _) | omega | (with_reducible exact Below.size (by assumption)) | (simp only [World.size_alloc, World.size_setCell, World.size_drew]; omega) | (simp; done) | (simp; omega)))⟩
      · have hq1 : ((u : Int) == x) = false := by simpa using h1
        by_cases h2 : v = x
        · have hq2 : ((v : Int) == x) = true := by simpa using h2
          have HF := Lib.hid (find_at hno.out HC.out (by simp [hasE, h2]))
          have HME := Lib.hid (List.mem_of_getElem? HC.out)
          clear h1 h2
          go_wp2
          go_returns
          exact ⟨_, rfl, .inr ⟨k, _, rfl, HC.out, HF.out, HME.out⟩, by (repeat' (first | (with_reducible exact Below.refl _ _) | (with_reducible assumption) | (with_reducible refine Below.drew ?_) | (with_reducible refine below_drewN ?_ _) | (with_reducible refine Below.alloc ?_ ?_ _) | (with_reducible refine Below.setCell ?_ ?_ _) | (refine Below.trans ?_ (Below.mono (by assumption) (by first | omega | (with_reducible exact Below.size (by assumption)) | (simp; done) | (simp; omega)))) | (with_reducible exact Nat.le_refl _) | omega | (with_reducible exact Below.size (by assumption)) | (simp only [World.size_alloc, World.size_setCell, World.size_drew]; omega) | (simp; done) | (simp; omega)))⟩
        · have hq2 : ((v : Int) == x) = false := by simpa using h2
          have HST := Lib.hid (hno.out.succ HC.out (by simp [hasE, h1, h2]))
          clear h1 h2
          go_wp2_with fail
          go_roundw
          case rel => exact ⟨k + 1, by omega, by go_num, HST.out, by (repeat' (first | (with_reducible exact Below.refl _ _) | (with_reducible assumption) | (with_reducible refine Below.drew ?_) | (with_reducible refine below_drewN ?_ _) | (with_reducible refine Below.alloc ?_ ?_ _) | (with_reducible refine Below.setCell ?_ ?_ _) | (refine Below.trans ?_ (Below.mono (by assumption) (by first | omega | (with_reducible exact Below.size (by assumption)) | (simp; done) | (simp; omega)))) | (with_reducible exact Nat.le_refl _) | omega | (with_reducible exact Below.size (by assumption)) | (simp only [World.size_alloc, World.size_setCell, World.size_drew]; omega) | (simp; done) | (simp; omega)))⟩
          case measure => simp [intOf]; omega
    · obtain rfl : k = m := by omega
      have HF := Lib.hid (find_none (x := x) (by rw [HM.out]; exact hno.out))
      go_wp2
      go_returns
      exact ⟨-1, rfl, .inl ⟨rfl, HF.out⟩, hbel⟩

set_option maxHeartbeats 1000000 in
theorem iPeerOf_any (O E M : Int) (vp vc : Value) (ps : List ByteArray) (cs : List Cl) (x : Int) (w : World) (hR : ExRd w vp vc ps cs) (hL : StLen ps) :
    Calls Try.prog 25 #[.agg #[.int .i64 O, .int .i64 E, .int .i64 M, vp, vc], .int .i64 x] w fun e w' => e = .returned (.int .i64 (peerX O E M ps cs x)) ∧ Below w.heap.size w w' := by
  have hB := Blk.new (w := w) (cs := #[.int .i64 O, .int .i64 E, .int .i64 M, vp, vc]) (T := 33) rfl
  have hbel0 : Below w.heap.size w (w.alloc (.cells #[.int .i64 O, .int .i64 E, .int .i64 M, vp, vc] 33)) := by (repeat' (first | (with_reducible exact Below.refl _ _) | (with_reducible assumption) | (with_reducible refine Below.drew ?_) | (with_reducible refine below_drewN ?_ _) | (with_reducible refine Below.alloc ?_ ?_ _) | (with_reducible refine Below.setCell ?_ ?_ _) | (refine Below.trans ?_ (Below.mono (by assumption) (by first | omega | (with_reducible exact Below.size (by assumption)) | (simp; done) | (simp; omega)))) | (with_reducible exact Nat.le_refl _) | omega | (with_reducible exact Below.size (by assumption)) | (simp only [World.size_alloc, World.size_setCell, World.size_drew]; omega) | (simp; done) | (simp; omega)))
  have HR := Lib.hid hR
  have HL := Lib.hid hL
  obtain ⟨a1, c1, rfl, _⟩ := hR.plan.open1
  obtain ⟨_, hm2, a2, c2, rfl, hn2, hc2⟩ := hR.calls
  unfold maxLen at hm2
  have HC2 := Lib.hid hc2
  clear hR hL hc2
  go_enter Try.func25, Try.ntmps25
  go_wp2_with fail
  refine (iExchangeValid_any O E M _ _ ps cs _ (HR.out.below hbel0) HL.out).mono ?_
  rintro e w1 ⟨rfl, hb⟩
  have hbel1 : Below w.heap.size w w1 := by (repeat' (first | (with_reducible exact Below.refl _ _) | (with_reducible assumption) | (with_reducible refine Below.drew ?_) | (with_reducible refine below_drewN ?_ _) | (with_reducible refine Below.alloc ?_ ?_ _) | (with_reducible refine Below.setCell ?_ ?_ _) | (refine Below.trans ?_ (Below.mono (by assumption) (by first | omega | (with_reducible exact Below.size (by assumption)) | (simp; done) | (simp; omega)))) | (with_reducible exact Nat.le_refl _) | omega | (with_reducible exact Below.size (by assumption)) | (simp only [World.size_alloc, World.size_setCell, World.size_drew]; omega) | (simp; done) | (simp; omega)))
  have hB1 := hB.belowAll hb
  clear hB hb hbel0
  obtain ⟨p0, p1, p2, p3, p4, _, _, _, _, _, plt⟩ := hB1.five
  obtain ⟨d, hd⟩ : ∃ d, exB O E M ps cs = d := ⟨_, rfl⟩
  have HD := Lib.hid hd
  rw [hd]
  clear hd
  cases d
  · have HF : Hid (peerX O E M ps cs x = -1) := by unfold Hid peerX; rw [HD.out]; rfl
    go_wp2
    go_returns
    exact ⟨by rw [HF.out]; rfl, hbel1⟩
  · have HF : Hid (peerX O E M ps cs x = peerL cs x) := by unfold Hid peerX; rw [HD.out]; rfl
    have HOK := Lib.hid ((exB_iff _ _ _ _ _).1 HD.out)
    go_wp2_with fail
    refine (callOf_any O E M _ _ cs x _ (HR.out.calls.below hbel1)).mono ?_
    rintro e w2 ⟨r, rfl, hat, hb2⟩
    have hbel2 : Below w.heap.size w w2 := by (repeat' (first | (with_reducible exact Below.refl _ _) | (with_reducible assumption) | (with_reducible refine Below.drew ?_) | (with_reducible refine below_drewN ?_ _) | (with_reducible refine Below.alloc ?_ ?_ _) | (with_reducible refine Below.setCell ?_ ?_ _) | (refine Below.trans ?_ (Below.mono (by assumption) (by first | omega | (with_reducible exact Below.size (by assumption)) | (simp; done) | (simp; omega)))) | (with_reducible exact Nat.le_refl _) | omega | (with_reducible exact Below.size (by assumption)) | (simp only [World.size_alloc, World.size_setCell, World.size_drew]; omega) | (simp; done) | (simp; omega)))
    have hB2 := hB1.belowAll hb2
    clear hB1 hb2 p0 p1 p2 p3 p4 plt hbel1
    obtain ⟨p0, p1, p2, p3, p4, _, _, _, _, _, plt⟩ := hB2.five
    rcases hat with ⟨rfl, hf⟩ | ⟨k, c, rfl, hc, hf, hmem⟩
    · have HP := Lib.hid (peer_none hf)
      clear hf
      go_wp2
      go_returns
      exact ⟨by rw [HF.out, HP.out]; rfl, hbel2⟩
    · have HP := Lib.hid (peer_some hf)
      have hx := List.find?_some hf
      simp only [hasE, Bool.or_eq_true, decide_eq_true_eq] at hx
      have hat := HOK.out.calls.mem hmem
      have hL12 := lines_le HOK.out.calls.sh
      obtain ⟨hkl, -⟩ := List.getElem?_eq_some_iff.1 hc
      rcases HC2.out with hc2 | ⟨b, off, rfl, hb, hc2⟩
      · omega
      obtain ⟨g1, g2, g3⟩ := ccells_at cs k c hc
      have k1 : w2.cell? ⟨b, off + k * 3, none⟩ = some (.int .i64 c.1) := by rw [hbel2.cell (p := ⟨b, off + k * 3, none⟩) hb, hc2 _ (by omega), g1]
      have k2 : w2.cell? ⟨b, off + k * 3 + 1, none⟩ = some (.int .i64 c.2.1) := by rw [Nat.add_assoc, hbel2.cell (p := ⟨b, off + (k * 3 + 1), none⟩) hb, hc2 _ (by omega), g2]
      have i1 : (0 : Int) ≤ (k : Int) := by omega
      have i2 : (k : Int) < (cs.length : Int) := by omega
      have hs1 : IntKind.i64.wrap (c.1 + c.2.1) = c.1 + c.2.1 := IntWalk.i64_in _ (by omega)
      have hs2 : IntKind.i64.wrap (c.1 + c.2.1 - x) = c.1 + c.2.1 - x := IntWalk.i64_in _ (by omega)
      have hk0 : ¬ (k : Int) < 0 := by omega
      clear hc hf hx hat hL12 g1 g2 g3 hc2
      go_wp2_with fail
      go_quiet (fail)
      go_wp2
      go_returns
      exact ⟨by rw [HF.out, HP.out]; rfl, by (repeat' (first | (with_reducible exact Below.refl _ _) | (with_reducible assumption) | (with_reducible refine Below.drew ?_) | (with_reducible refine below_drewN ?_ _) | (with_reducible refine Below.alloc ?_ ?_ _) | (with_reducible refine Below.setCell ?_ ?_ _) | (refine Below.trans ?_ (Below.mono (by assumption) (by first | omega | (with_reducible exact Below.size (by assumption)) | (simp; done) | (simp; omega)))) | (with_reducible exact Nat.le_refl _) | omega | (with_reducible exact Below.size (by assumption)) | (simp only [World.size_alloc, World.size_setCell, World.size_drew]; omega) | (simp; done) | (simp; omega)))⟩

set_option maxHeartbeats 1000000 in
theorem sLineOf_any (O E M : Int) (vp vc : Value) (ps : List ByteArray) (cs : List Cl) (s : ByteArray) (w : World) (hR : ExRd w vp vc ps cs) (hL : StLen ps) :
    Calls Try.prog 22 #[.agg #[.int .i64 O, .int .i64 E, .int .i64 M, vp, vc], .string s] w fun e w' => e = .returned (.int .i64 (lineX O E M ps cs s)) ∧ Below w.heap.size w w' := by
  have hB := Blk.new (w := w) (cs := #[.int .i64 O, .int .i64 E, .int .i64 M, vp, vc]) (T := 33) rfl
  have hbel0 : Below w.heap.size w (w.alloc (.cells #[.int .i64 O, .int .i64 E, .int .i64 M, vp, vc] 33)) := by (repeat' (first | (with_reducible exact Below.refl _ _) | (with_reducible assumption) | (with_reducible refine Below.drew ?_) | (with_reducible refine below_drewN ?_ _) | (with_reducible refine Below.alloc ?_ ?_ _) | (with_reducible refine Below.setCell ?_ ?_ _) | (refine Below.trans ?_ (Below.mono (by assumption) (by first | omega | (with_reducible exact Below.size (by assumption)) | (simp; done) | (simp; omega)))) | (with_reducible exact Nat.le_refl _) | omega | (with_reducible exact Below.size (by assumption)) | (simp only [World.size_alloc, World.size_setCell, World.size_drew]; omega) | (simp; done) | (simp; omega)))
  have HR := Lib.hid hR
  have HL := Lib.hid hL
  obtain ⟨a1, c1, rfl, _, hm1, hn1, hc1⟩ := hR.plan.open1
  obtain ⟨_, _, a2, c2, rfl, _⟩ := hR.calls
  unfold maxLen at hm1
  obtain ⟨n, hn⟩ : ∃ n, ps.length = n := ⟨_, rfl⟩
  rw [hn] at hB hbel0 HR hm1 hn1 hc1 ⊢
  have HN := Lib.hid hn
  clear hR hL hn
  obtain ⟨d, hd⟩ : ∃ d, exB O E M ps cs = d := ⟨_, rfl⟩
  have HD := Lib.hid hd
  clear hd
  go_enter Try.func22, Try.ntmps22
  go_wp2_with fail
  go_loopw [5] (fun i wr => ∃ k : Nat, k ≤ n ∧ i = .int .i64 k ∧ Hid (neTo ps s k) ∧ Below w.heap.size w wr ∧ Hid (k = 0 ∨ d = true) ∧ Blk wr w.heap.size #[.int .i64 O, .int .i64 E, .int .i64 M, .slice a1 n c1, .slice a2 cs.length c2] 33) (fun i _ => n - (intOf i).toNat)
  case atStart => exact ⟨0, by omega, rfl, fun j p h => absurd h (by omega), hbel0, .inl rfl, hB⟩
  case round =>
    obtain ⟨k, hk, rfl, hne, hbel, hdk, hBw⟩ := hrel
    obtain ⟨p0, p1, p2, p3, p4, _, _, _, _, _, plt⟩ := hBw.five
    by_cases hkn : k < n
    · rcases hc1 with hc1 | ⟨b, off, rfl, hb, hc1⟩
      · omega
      obtain ⟨t, ht⟩ : ∃ s, ps[k]? = some s := ⟨_, List.getElem?_eq_getElem (by rw [HN.out]; omega)⟩
      have hc1k := hc1 k hkn
      rw [strs_at ps k t ht] at hc1k
      have HT := Lib.hid ht
      have HC1 := Lib.hid hc1k
      clear hc1 ht hc1k
      go_wp2_with fail
      refine (sExchangeValid_any O E M _ _ ps cs _ (HR.out.below hbel) HL.out).mono ?_
      rintro e w1 ⟨rfl, hb1⟩
      rw [HD.out]
      have hbel1 : Below w.heap.size w w1 := by (repeat' (first | (with_reducible exact Below.refl _ _) | (with_reducible assumption) | (with_reducible refine Below.drew ?_) | (with_reducible refine below_drewN ?_ _) | (with_reducible refine Below.alloc ?_ ?_ _) | (with_reducible refine Below.setCell ?_ ?_ _) | (refine Below.trans ?_ (Below.mono (by assumption) (by first | omega | (with_reducible exact Below.size (by assumption)) | (simp; done) | (simp; omega)))) | (with_reducible exact Nat.le_refl _) | omega | (with_reducible exact Below.size (by assumption)) | (simp only [World.size_alloc, World.size_setCell, World.size_drew]; omega) | (simp; done) | (simp; omega)))
      have hB1 := hBw.belowAll hb1
      clear hb1 hBw p0 p1 p2 p3 p4 plt
      obtain ⟨p0, p1, p2, p3, p4, _, _, _, _, _, plt⟩ := hB1.five
      have k1 : w1.cell? ⟨b, off + k, none⟩ = some (.string t) := by rw [hbel1.cell (p := ⟨b, off + k, none⟩) hb]; exact HC1.out
      cases d
      · have HF : Hid (lineX O E M ps cs s = -1) := by unfold Hid lineX; rw [HD.out]; rfl
        go_wp2
        go_returns
        exact ⟨by rw [HF.out]; rfl, hbel1⟩
      · have HF : Hid (lineX O E M ps cs s = lineL ps s) := by unfold Hid lineX; rw [HD.out]; rfl
        by_cases hst : t = s
        · have hsb := str_eq hst
          subst hst
          have HFF := Lib.hid (line_at hne.out HT.out)
          go_wp2
          go_returns
          exact ⟨by rw [HF.out, HFF.out]; rfl, hbel1⟩
        · have hsb := str_ne hst
          have HST : Hid (neTo ps s (k + 1)) := by
            intro j p hj hp
            by_cases e : j = k
            · subst e; rw [HT.out] at hp; cases hp; exact hst
            · exact hne.out j p (by omega) hp
          clear hst
          go_wp2_with fail
          go_roundw
          case rel => exact ⟨k + 1, by omega, by go_num, HST.out, hbel1, Or.inr (by first | rfl | trivial), hB1⟩
          case measure => simp [intOf]; omega
    · obtain rfl : k = n := by omega
      have HF : Hid (lineX O E M ps cs s = -1) := by
        unfold Hid lineX
        split
        · exact line_none (by rw [HN.out]; exact hne.out)
        · rfl
      go_wp2
      go_returns
      exact ⟨by rw [HF.out]; rfl, hbel⟩

set_option maxHeartbeats 1000000 in
theorem sPeerOf_any (O E M : Int) (vp vc : Value) (ps : List ByteArray) (cs : List Cl) (x : Int) (w : World) (hR : ExRd w vp vc ps cs) (hL : StLen ps) :
    Calls Try.prog 24 #[.agg #[.int .i64 O, .int .i64 E, .int .i64 M, vp, vc], .int .i64 x] w fun e w' => e = .returned (.int .i64 (peerX O E M ps cs x)) ∧ Below w.heap.size w w' := by
  have hB := Blk.new (w := w) (cs := #[.int .i64 O, .int .i64 E, .int .i64 M, vp, vc]) (T := 33) rfl
  have hbel0 : Below w.heap.size w (w.alloc (.cells #[.int .i64 O, .int .i64 E, .int .i64 M, vp, vc] 33)) := by (repeat' (first | (with_reducible exact Below.refl _ _) | (with_reducible assumption) | (with_reducible refine Below.drew ?_) | (with_reducible refine below_drewN ?_ _) | (with_reducible refine Below.alloc ?_ ?_ _) | (with_reducible refine Below.setCell ?_ ?_ _) | (refine Below.trans ?_ (Below.mono (by assumption) (by first | omega | (with_reducible exact Below.size (by assumption)) | (simp; done) | (simp; omega)))) | (with_reducible exact Nat.le_refl _) | omega | (with_reducible exact Below.size (by assumption)) | (simp only [World.size_alloc, World.size_setCell, World.size_drew]; omega) | (simp; done) | (simp; omega)))
  have HR := Lib.hid hR
  have HL := Lib.hid hL
  obtain ⟨a1, c1, rfl, _⟩ := hR.plan.open1
  obtain ⟨_, hm1, a2, c2, rfl, hn1, hc1⟩ := hR.calls
  unfold maxLen at hm1
  obtain ⟨n, hn⟩ : ∃ n, cs.length = n := ⟨_, rfl⟩
  rw [hn] at hB hbel0 HR hm1 hn1 hc1 ⊢
  have HN := Lib.hid hn
  clear hR hL hn
  obtain ⟨d, hd⟩ : ∃ d, exB O E M ps cs = d := ⟨_, rfl⟩
  have HD := Lib.hid hd
  clear hd
  go_enter Try.func24, Try.ntmps24
  go_wp2_with fail
  go_loopw [5] (fun i wr => ∃ k : Nat, k ≤ n ∧ i = .int .i64 k ∧ Hid (noneTo cs x k) ∧ Below w.heap.size w wr ∧ Blk wr w.heap.size #[.int .i64 O, .int .i64 E, .int .i64 M, .slice a1 ps.length c1, .slice a2 n c2] 33) (fun i _ => n - (intOf i).toNat)
  case atStart => exact ⟨0, by omega, rfl, fun j p h => absurd h (by omega), hbel0, hB⟩
  case round =>
    obtain ⟨k, hk, rfl, hno, hbel, hBw⟩ := hrel
    obtain ⟨p0, p1, p2, p3, p4, _, _, _, _, _, plt⟩ := hBw.five
    by_cases hkn : k < n
    · rcases hc1 with hc1 | ⟨b, off, rfl, hb, hc1⟩
      · omega
      obtain ⟨c, hc⟩ : ∃ c, cs[k]? = some c := ⟨_, List.getElem?_eq_getElem (by rw [HN.out]; omega)⟩
      obtain ⟨g1, g2, g3⟩ := ccells_at cs k c hc
      have HC := Lib.hid hc
      have HC1 := Lib.hid ((hc1 _ (by omega)).trans g1)
      have HC2 := Lib.hid ((hc1 _ (by omega)).trans g2)
      clear hc1 hc g1 g2 g3
      go_wp2_with fail
      refine (sExchangeValid_any O E M _ _ ps cs _ (HR.out.below hbel) HL.out).mono ?_
      rintro e w1 ⟨rfl, hb1⟩
      rw [HD.out]
      have hbel1 : Below w.heap.size w w1 := by (repeat' (first | (with_reducible exact Below.refl _ _) | (with_reducible assumption) | (with_reducible refine Below.drew ?_) | (with_reducible refine below_drewN ?_ _) | (with_reducible refine Below.alloc ?_ ?_ _) | (with_reducible refine Below.setCell ?_ ?_ _) | (refine Below.trans ?_ (Below.mono (by assumption) (by first | omega | (with_reducible exact Below.size (by assumption)) | (simp; done) | (simp; omega)))) | (with_reducible exact Nat.le_refl _) | omega | (with_reducible exact Below.size (by assumption)) | (simp only [World.size_alloc, World.size_setCell, World.size_drew]; omega) | (simp; done) | (simp; omega)))
      have hB1 := hBw.belowAll hb1
      clear hb1 hBw p0 p1 p2 p3 p4 plt
      obtain ⟨p0, p1, p2, p3, p4, _, _, _, _, _, plt⟩ := hB1.five
      have k1 : w1.cell? ⟨b, off + k * 3, none⟩ = some (.int .i64 c.1) := by rw [hbel1.cell (p := ⟨b, off + k * 3, none⟩) hb]; exact HC1.out
      have k2 : w1.cell? ⟨b, off + k * 3 + 1, none⟩ = some (.int .i64 c.2.1) := by rw [Nat.add_assoc, hbel1.cell (p := ⟨b, off + (k * 3 + 1), none⟩) hb]; exact HC2.out
      cases d
      · have HF : Hid (peerX O E M ps cs x = -1) := by unfold Hid peerX; rw [HD.out]; rfl
        go_wp2
        go_returns
        exact ⟨by rw [HF.out]; rfl, hbel1⟩
      · have HF : Hid (peerX O E M ps cs x = peerL cs x) := by unfold Hid peerX; rw [HD.out]; rfl
        obtain ⟨u, v, t⟩ := c
        simp only at k1 k2
        by_cases h1 : u = x
        · have hq1 : ((u : Int) == x) = true := by simpa using h1
          have HFF : Hid (peerL cs x = v) := by
            have := peer_some (find_at hno.out HC.out (by simp [hasE, h1]))
            rw [Hid, this]; simp only; omega
          clear h1
          go_wp2
          go_returns
          exact ⟨by rw [HF.out, HFF.out]; rfl, hbel1⟩
        · have hq1 : ((u : Int) == x) = false := by simpa using h1
          by_cases h2 : v = x
          · have hq2 : ((v : Int) == x) = true := by simpa using h2
            have HFF : Hid (peerL cs x = u) := by
              have := peer_some (find_at hno.out HC.out (by simp [hasE, h2]))
              rw [Hid, this]; simp only; omega
            clear h1 h2
            go_wp2
            go_returns
            exact ⟨by rw [HF.out, HFF.out]; rfl, hbel1⟩
          · have hq2 : ((v : Int) == x) = false := by simpa using h2
            have HST := Lib.hid (hno.out.succ HC.out (by simp [hasE, h1, h2]))
            clear h1 h2
            go_wp2_with fail
            go_roundw
            case rel => exact ⟨k + 1, by omega, by go_num, HST.out, hbel1, hB1⟩
            case measure => simp [intOf]; omega
    · obtain rfl : k = n := by omega
      have HF : Hid (peerX O E M ps cs x = -1) := by
        unfold Hid peerX
        split
        · exact peer_none (find_none (by rw [HN.out]; exact hno.out))
        · rfl
      go_wp2
      go_returns
      exact ⟨by rw [HF.out]; rfl, hbel⟩

end Go.Proofs.Ytedadhoneebfnaa
