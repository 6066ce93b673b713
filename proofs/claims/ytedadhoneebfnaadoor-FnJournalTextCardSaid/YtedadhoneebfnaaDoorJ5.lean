/- Joined texts: Lp, Mt8, Sh8, Dh. -/
import Derived.Test.YtedadhoneebfnaaDoorEw
import Derived.Test.YtedadhoneebfnaaDoorLib
import Derived.Test.YtedadhoneebfnaaDoorRows
import Derived.Handy
import Derived.StillTailTactics
import Derived.Deep.QuietTactic
import Derived.BigQuiet
import Derived.Laws.IdiomStrings
import Derived.Test.YtedadhoneebfnaaDoorJ1
import Derived.Deep.RegionHeld3
import Derived.Test.YtedadhoneebfnaaDoorJ3
set_option linter.unusedSimpArgs false
set_option linter.unusedVariables false
/- Contracts of LineOf, PeerOf (program and reference), callOf, slices.Index at strings. -/
namespace Go.Proofs.YtedadhoneebfnaaDoor
open Go.RowKit

noncomputable def lineX (O E M : Int) (ps : List ByteArray) (cs : List Cl) (s : ByteArray) : Int := if exB O E M ps cs = true then lineL ps s else -1
noncomputable def peerX (O E M : Int) (ps : List ByteArray) (cs : List Cl) (x : Int) : Int := if exB O E M ps cs = true then peerL cs x else -1

set_option maxHeartbeats 1000000 in
theorem sLineOf_any (O E M : Int) (vp vc : Value) (ps : List ByteArray) (cs : List Cl) (s : ByteArray) (w : World) (hR : ExRd w vp vc ps cs) (hL : StLen ps) :
  Calls Tryd.prog 72 #[.agg #[.int .i64 O, .int .i64 E, .int .i64 M, vp, vc], .string s] w fun e w' => e = .returned (.int .i64 (lineX O E M ps cs s)) ∧ Below w.heap.size w w' := by
 have hB := Blk.new (w := w) (cs := #[.int .i64 O, .int .i64 E, .int .i64 M, vp, vc]) (T := 74) rfl
 have hbel0 : Below w.heap.size w (w.alloc (.cells #[.int .i64 O, .int .i64 E, .int .i64 M, vp, vc] 74)) := by (exact grownA)
 have HR := Lib.hid hR
 have HL := Lib.hid hL
 obtain ⟨a1, c1, rfl, _, hm1, hn1, hc1⟩ := hR.plan.open1
 obtain ⟨_, _, a2, c2, rfl, _⟩ := hR.calls
 unfold maxLen at hm1
 obtain ⟨n, hn⟩ : ∃ n, ps.length = n := ⟨_, rfl⟩
 rw [hn] at hB hbel0 HR hm1 hn1 hc1 ⊢
 have HN := Lib.hid hn
 clear hR hL hn
 obtain ⟨d, hd⟩ : ∃ d, exB O E M ps cs = d := ⟨_, rfl⟩
 have HD := Lib.hid hd
 clear hd
 go_enter Tryd.func72, Tryd.ntmps72
 go_wp2_with fail
 go_loopw [5] (fun i wr => ∃ k : Nat, k ≤ n ∧ i = .int .i64 k ∧ Hid (neTo ps s k) ∧ Below w.heap.size w wr ∧ Hid (k = 0 ∨ d = true) ∧ Blk wr w.heap.size #[.int .i64 O, .int .i64 E, .int .i64 M, .slice a1 n c1, .slice a2 cs.length c2] 74) (fun i _ => n - (intOf i).toNat)
 case atStart => exact ⟨0, by omega, rfl, fun j p h => absurd h (by omega), hbel0, .inl rfl, hB⟩
 case round =>
  obtain ⟨k, hk, rfl, hne, hbel, hdk, hBw⟩ := hrel
  obtain ⟨p0, p1, p2, p3, p4, _, _, _, _, _, plt⟩ := hBw.five
  by_cases hkn : k < n
  ·
   rcases hc1 with hc1 | ⟨b, off, rfl, hb, hc1⟩
   ·
    omega
   obtain ⟨t, ht⟩ : ∃ s, ps[k]? = some s := ⟨_, List.getElem?_eq_getElem (by rw [HN.out]; omega)⟩
   have hc1k := hc1 k hkn
   rw [strs_at ps k t ht] at hc1k
   have HT := Lib.hid ht
   have HC1 := Lib.hid hc1k
   clear hc1 ht hc1k
   go_wp2_with fail
   refine (sExchangeValid_any O E M _ _ ps cs _ (HR.out.below hbel) HL.out).mono ?_
   rintro e w1 ⟨rfl, hb1⟩
   rw [HD.out]
   have hbel1 : Below w.heap.size w w1 := by (exact grownA)
   have hB1 := hBw.belowAll hb1
   clear hb1 hBw p0 p1 p2 p3 p4 plt
   obtain ⟨p0, p1, p2, p3, p4, _, _, _, _, _, plt⟩ := hB1.five
   have k1 : w1.cell? ⟨b, off + k, none⟩ = some (.string t) := by rw [hbel1.cell (p := ⟨b, off + k, none⟩) hb]; exact HC1.out
   cases d
   ·
    have HF : Hid (lineX O E M ps cs s = -1) := by unfold Hid lineX; rw [HD.out]; rfl
    go_wp2
    go_returns
    exact ⟨by rw [HF.out]; rfl, hbel1⟩
   ·
    have HF : Hid (lineX O E M ps cs s = lineL ps s) := by unfold Hid lineX; rw [HD.out]; rfl
    by_cases hst : t = s
    ·
     have hsb := str_eq hst
     subst hst
     have HFF := Lib.hid (line_at hne.out HT.out)
     go_wp2
     go_returns
     exact ⟨by rw [HF.out, HFF.out]; rfl, hbel1⟩
    ·
     have hsb := str_ne hst
     have HST : Hid (neTo ps s (k + 1)) := by
      intro j p hj hp
      by_cases e : j = k
      ·
       subst e; rw [HT.out] at hp; cases hp; exact hst
      ·
       exact hne.out j p (by omega) hp
     clear hst
     go_wp2_with fail
     go_roundw
     case rel => exact ⟨k + 1, by omega, by go_num, HST.out, hbel1, Or.inr (by first | rfl | trivial), hB1⟩
     case measure => simp [intOf]; omega
  ·
   obtain rfl : k = n := by omega
   have HF : Hid (lineX O E M ps cs s = -1) := by
    unfold Hid lineX
    split
    ·
     exact line_none (by rw [HN.out]; exact hne.out)
    ·
     rfl
   go_wp2
   go_returns
   exact ⟨by rw [HF.out]; rfl, hbel⟩

set_option maxHeartbeats 1000000 in
theorem sPeerOf_any (O E M : Int) (vp vc : Value) (ps : List ByteArray) (cs : List Cl) (x : Int) (w : World) (hR : ExRd w vp vc ps cs) (hL : StLen ps) :
  Calls Tryd.prog 71 #[.agg #[.int .i64 O, .int .i64 E, .int .i64 M, vp, vc], .int .i64 x] w fun e w' => e = .returned (.int .i64 (peerX O E M ps cs x)) ∧ Below w.heap.size w w' := by
 have hB := Blk.new (w := w) (cs := #[.int .i64 O, .int .i64 E, .int .i64 M, vp, vc]) (T := 74) rfl
 have hbel0 : Below w.heap.size w (w.alloc (.cells #[.int .i64 O, .int .i64 E, .int .i64 M, vp, vc] 74)) := by (exact grownA)
 have HR := Lib.hid hR
 have HL := Lib.hid hL
 obtain ⟨a1, c1, rfl, _⟩ := hR.plan.open1
 obtain ⟨_, hm1, a2, c2, rfl, hn1, hc1⟩ := hR.calls
 unfold maxLen at hm1
 obtain ⟨n, hn⟩ : ∃ n, cs.length = n := ⟨_, rfl⟩
 rw [hn] at hB hbel0 HR hm1 hn1 hc1 ⊢
 have HN := Lib.hid hn
 clear hR hL hn
 obtain ⟨d, hd⟩ : ∃ d, exB O E M ps cs = d := ⟨_, rfl⟩
 have HD := Lib.hid hd
 clear hd
 go_enter Tryd.func71, Tryd.ntmps71
 go_wp2_with fail
 go_loopw [5] (fun i wr => ∃ k : Nat, k ≤ n ∧ i = .int .i64 k ∧ Hid (noneTo cs x k) ∧ Below w.heap.size w wr ∧ Blk wr w.heap.size #[.int .i64 O, .int .i64 E, .int .i64 M, .slice a1 ps.length c1, .slice a2 n c2] 74) (fun i _ => n - (intOf i).toNat)
 case atStart => exact ⟨0, by omega, rfl, fun j p h => absurd h (by omega), hbel0, hB⟩
 case round =>
  obtain ⟨k, hk, rfl, hno, hbel, hBw⟩ := hrel
  obtain ⟨p0, p1, p2, p3, p4, _, _, _, _, _, plt⟩ := hBw.five
  by_cases hkn : k < n
  ·
   rcases hc1 with hc1 | ⟨b, off, rfl, hb, hc1⟩
   ·
    omega
   obtain ⟨c, hc⟩ : ∃ c, cs[k]? = some c := ⟨_, List.getElem?_eq_getElem (by rw [HN.out]; omega)⟩
   obtain ⟨g1, g2, g3⟩ := ccells_at cs k c hc
   have HC := Lib.hid hc
   have HC1 := Lib.hid ((hc1 _ (by omega)).trans g1)
   have HC2 := Lib.hid ((hc1 _ (by omega)).trans g2)
   clear hc1 hc g1 g2 g3
   go_wp2_with fail
   refine (sExchangeValid_any O E M _ _ ps cs _ (HR.out.below hbel) HL.out).mono ?_
   rintro e w1 ⟨rfl, hb1⟩
   rw [HD.out]
   have hbel1 : Below w.heap.size w w1 := by (exact grownA)
   have hB1 := hBw.belowAll hb1
   clear hb1 hBw p0 p1 p2 p3 p4 plt
   obtain ⟨p0, p1, p2, p3, p4, _, _, _, _, _, plt⟩ := hB1.five
   have k1 : w1.cell? ⟨b, off + k * 3, none⟩ = some (.int .i64 c.1) := by rw [hbel1.cell (p := ⟨b, off + k * 3, none⟩) hb]; exact HC1.out
   have k2 : w1.cell? ⟨b, off + k * 3 + 1, none⟩ = some (.int .i64 c.2.1) := by rw [Nat.add_assoc, hbel1.cell (p := ⟨b, off + (k * 3 + 1), none⟩) hb]; exact HC2.out
   cases d
   ·
    have HF : Hid (peerX O E M ps cs x = -1) := by unfold Hid peerX; rw [HD.out]; rfl
    go_wp2
    go_returns
    exact ⟨by rw [HF.out]; rfl, hbel1⟩
   ·
    have HF : Hid (peerX O E M ps cs x = peerL cs x) := by unfold Hid peerX; rw [HD.out]; rfl
    obtain ⟨u, v, t⟩ := c
    simp only at k1 k2
    by_cases h1 : u = x
    ·
     have hq1 : ((u : Int) == x) = true := by simpa using h1
     have HFF : Hid (peerL cs x = v) := by
      have := peer_some (find_at hno.out HC.out (by simp [hasE, h1]))
      rw [Hid, this]; simp only; omega
     clear h1
     go_wp2
     go_returns
     exact ⟨by rw [HF.out, HFF.out]; rfl, hbel1⟩
    ·
     have hq1 : ((u : Int) == x) = false := by simpa using h1
     by_cases h2 : v = x
     ·
      have hq2 : ((v : Int) == x) = true := by simpa using h2
      have HFF : Hid (peerL cs x = u) := by
       have := peer_some (find_at hno.out HC.out (by simp [hasE, h2]))
       rw [Hid, this]; simp only; omega
      clear h1 h2
      go_wp2
      go_returns
      exact ⟨by rw [HF.out, HFF.out]; rfl, hbel1⟩
     ·
      have hq2 : ((v : Int) == x) = false := by simpa using h2
      have HST := Lib.hid (hno.out.succ HC.out (by simp [hasE, h1, h2]))
      clear h1 h2
      go_wp2_with fail
      go_roundw
      case rel => exact ⟨k + 1, by omega, by go_num, HST.out, hbel1, hB1⟩
      case measure => simp [intOf]; omega
  ·
   obtain rfl : k = n := by omega
   have HF : Hid (peerX O E M ps cs x = -1) := by
    unfold Hid peerX
    split
    ·
     exact peer_none (find_none (by rw [HN.out]; exact hno.out))
    ·
     rfl
   go_wp2
   go_returns
   exact ⟨by rw [HF.out]; rfl, hbel⟩

end Go.Proofs.YtedadhoneebfnaaDoor

/- Contract of markText. -/
namespace Go.Proofs.YtedadhoneebfnaaDoor
open Go.RowKit

/-- The digits of a number; none for nought. -/
def tens (k : Nat) : List UInt8 := if h : k = 0 then [] else tens (k / 10) ++ [UInt8.ofNat (48 + k % 10)]
termination_by k
theorem tens_zero : tens 0 = [] := by unfold tens; simp
theorem tens_pos {k : Nat} (h : k ≠ 0) : tens k = tens (k / 10) ++ [UInt8.ofNat (48 + k % 10)] := by
 conv => lhs; unfold tens
 rw [dif_neg h]
def mt (k : Nat) : ByteArray := ⟨#[109]⟩ ++ ⟨(tens k).toArray⟩

set_option maxRecDepth 100000 in
set_option maxHeartbeats 400000 in
theorem markText_any (k : Nat) (w : World) (h0 : 0 < k) (h1 : k ≤ 1000000000) :
  Calls Tryd.prog 43 #[.int .i64 k] w fun e w' => e = .returned (.string (mt k)) ∧ Below w.heap.size w w' := by
 go_enter Tryd.func43, Tryd.ntmps43
 go_wp2_with fail
 go_loopw [0, 3] (fun kk s wr => ∃ (j : Nat) (out : List UInt8), kk = .int .i64 j ∧ s = .string ⟨out.toArray⟩ ∧ j ≤ k ∧ out.length + j ≤ k ∧ Hid (tens j ++ out = tens k) ∧ Below w.heap.size w wr) (fun kk _ _ => (intOf kk).toNat)
 case atStart => exact ⟨k, [], rfl, rfl, by omega, by simp, by simp [Hid], Below.refl _ _⟩
 case round =>
  obtain ⟨j, out, rfl, rfl, hj, hlen, hd, hbel⟩ := hrel
  have hz := hbel.size
  by_cases hj0 : 0 < j
  ·
   obtain ⟨c, hc⟩ : ∃ c, UInt8.ofNat (48 + j % 10) = c := ⟨_, rfl⟩
   have hcn : (c.toNat : Int) = 48 + (j : Int) % 10 := by rw [← hc]; simp; omega
   have hst := tens_pos (show j ≠ 0 by omega)
   rw [hc] at hst
   have HST := Lib.hid hst
   have hcv : (convert 43 9 (.slice (some ⟨wr.heap.size, 0, none⟩) 1 1)).run Tryd.prog (wr.alloc (.cells #[.int .u8 (48 + (j : Int) % 10)] 5)) = .ok (.string ⟨#[c]⟩) (wr.alloc (.cells #[.int .u8 (48 + (j : Int) % 10)] 5)) :=
    run_convert_bytes_back _ _ _ 5 _ 1 [c] Tryd.underlying43 Tryd.underlying5 Tryd.underlying9 (by intro i hi; simp at hi; subst hi; rw [Addr.add_spot, World.cell?_alloc_at _ _ _ _ rfl]; simp [hcn])
   clear hst hc
   go_wp2
   go_roundw
   case rel =>
    refine ⟨j / 10, c :: out, by go_num, ?_, by omega, by simp only [List.length_cons]; omega, ?_, by (exact grownA)⟩
    ·
     have : (⟨#[c]⟩ : ByteArray) ++ ⟨out.toArray⟩ = ⟨(c :: out).toArray⟩ := by
      apply bytes_ext; simp [ByteArray.data_append]
     first | rw [this] | simp [this]
    ·
     unfold Hid; rw [← hd.out, HST.out]; simp
   case measure => simp [intOf]; omega
  ·
   obtain rfl : j = 0 := by omega
   go_wp2
   go_returns
   refine ⟨?_, hbel⟩
   have := hd.out
   rw [tens_zero, List.nil_append] at this
   rw [mt, this]
   rfl

end Go.Proofs.YtedadhoneebfnaaDoor

/- Contracts of the laws' helpers on lists of strings, and toIntS. -/
namespace Go.Proofs.YtedadhoneebfnaaDoor
open Go.RowKit

/-- Lists that agree up to k, and whose next elements agree or not. -/
theorem agree_step {α : Type} {zs ys : List α} {k : Nat} {z y : α} (hz : zs[k]? = some z) (hy : ys[k]? = some y) (h : zs.take k = ys.take k) : zs.take (k + 1) = ys.take (k + 1) ↔ z = y := by
 rw [List.take_add_one, List.take_add_one, hz, hy, h]; simp
/-- The first k are taken over. -/
def ovTo {α : Type} (z : α) (xs : List α) (k : Nat) : List α := xs.take k ++ List.replicate (xs.length - k) z
theorem ovTo_len {α : Type} (z : α) (xs : List α) (k : Nat) (h : k ≤ xs.length) : (ovTo z xs k).length = xs.length := by simp [ovTo]; omega
theorem ovTo_zero {α : Type} (z : α) (xs : List α) : ovTo z xs 0 = List.replicate xs.length z := by simp [ovTo]
theorem ovTo_all {α : Type} (z : α) (xs : List α) : ovTo z xs xs.length = xs := by simp [ovTo]
theorem ovTo_set {α : Type} (z : α) (xs : List α) (k : Nat) (x : α) (h : xs[k]? = some x) : (ovTo z xs k).set k x = ovTo z xs (k + 1) := by
 have hk : k < xs.length := (List.getElem?_eq_some_iff.1 h).1
 have hr : xs[k] = x := (List.getElem?_eq_some_iff.1 h).2
 apply List.ext_getElem
 ·
  simp [ovTo]; omega
 ·
  intro i h1 h2
  simp only [ovTo, List.getElem_set, List.getElem_append, List.length_take, List.getElem_take, List.getElem_replicate]
  split
  ·
   subst_vars; rw [dif_pos (by omega)]
  ·
   split
   ·
    rw [dif_pos (by omega)]
   ·
    rw [dif_neg (by omega)]

end Go.Proofs.YtedadhoneebfnaaDoor

/- Contracts of the laws' helpers on deeds. -/
namespace Go.Proofs.YtedadhoneebfnaaDoor
open Go.RowKit

theorem infoD : (Tryd.prog.info? 26).map (fun i => (i.zero, i.size, i.bytes)) = some (some (.agg #[.int .i64 0, .int .i64 0, .string ByteArray.empty]), 3, 32) := by kernel_rfl

set_option maxHeartbeats 400000 in
theorem eqExDeed_any (a b x y : Int) (s t : ByteArray) (w : World) :
  Calls Tryd.prog 21 #[.agg #[.int .i64 a, .int .i64 b, .string s], .agg #[.int .i64 x, .int .i64 y, .string t]] w fun e w' => e = .returned (.bool (decide ((a, b, s) = (x, y, t)))) ∧ Below w.heap.size w w' := by
 by_cases h1 : a = x
 ·
  subst h1
  by_cases h2 : b = y
  ·
   subst h2
   by_cases h3 : s = t
   ·
    have hsb := str_eq h3
    subst h3
    go_enter Tryd.func21, Tryd.ntmps21
    go_wp2
    go_returns
    exact ⟨by simp, by (exact grownA)⟩
   ·
    have hsb := str_ne h3
    have hd : decide ((a, b, s) = (a, b, t)) = false := by simpa using h3
    rw [hd]
    clear hd h3
    go_enter Tryd.func21, Tryd.ntmps21
    go_wp2
    go_returns
    exact ⟨rfl, by (exact grownA)⟩
  ·
   have hob : (b != y) = true := by simpa using h2
   have hd : decide ((a, b, s) = (a, y, t)) = false := by simp [h2]
   rw [hd]
   clear hd
   go_enter Tryd.func21, Tryd.ntmps21
   go_wp2
   go_returns
   exact ⟨rfl, by (exact grownA)⟩
 ·
  have hob : (a != x) = true := by simpa using h1
  have hd : decide ((a, b, s) = (x, y, t)) = false := by simp [h1]
  rw [hd]
  clear hd
  go_enter Tryd.func21, Tryd.ntmps21
  go_wp2
  go_returns
  exact ⟨rfl, by (exact grownA)⟩

set_option maxRecDepth 100000 in
set_option maxHeartbeats 1000000 in
theorem eqExDeedS_any (v u : Value) (zs ys : List Ded) (w : World) (hv : Rds w v zs.length 3 (dcells zs)) (hu : Rds w u ys.length 3 (dcells ys)) :
  Calls Tryd.prog 18 #[v, u] w fun e w' => e = .returned (.bool (decide (zs = ys))) ∧ Below w.heap.size w w' := by
 obtain ⟨hl1, hm1, a, ca, rfl, hn1, hc1⟩ := hv
 obtain ⟨hl2, hm2, b, cb, rfl, hn2, hc2⟩ := hu
 unfold maxLen at hm1 hm2
 by_cases hlen : zs.length = ys.length
 ·
  have hne : ((zs.length : Int) != (ys.length : Int)) = false := by simp; omega
  obtain ⟨m, hm⟩ : ∃ m, ys.length = m := ⟨_, rfl⟩
  rw [hm] at hne hm2 hn2 hc2 ⊢
  obtain ⟨n, hn⟩ : ∃ n, zs.length = n := ⟨_, rfl⟩
  rw [hn] at hne hm1 hn1 hc1 ⊢
  have hnm : n = m := by omega
  subst hnm
  have HM := Lib.hid hm
  have HN := Lib.hid hn
  clear hm hn hl1 hl2 hlen
  go_enter Tryd.func18, Tryd.ntmps18
  go_wp2_with fail
  go_loopw [5] (fun i wr => ∃ k : Nat, k ≤ n ∧ i = .int .i64 k ∧ Hid (zs.take k = ys.take k) ∧ Below w.heap.size w wr) (fun i _ => n - (intOf i).toNat)
  case atStart => exact ⟨0, by omega, rfl, rfl, Below.refl _ _⟩
  case round =>
   obtain ⟨k, hk, rfl, hag, hbel⟩ := hrel
   have hz := hbel.size
   by_cases hkn : k < n
   ·
    rcases hc1 with hc1 | ⟨b1, o1, rfl, hb1, hc1⟩
    ·
     omega
    rcases hc2 with hc2 | ⟨b2, o2, rfl, hb2, hc2⟩
    ·
     omega
    obtain ⟨z, hz⟩ : ∃ z, zs[k]? = some z := ⟨_, List.getElem?_eq_getElem (by rw [HN.out]; omega)⟩
    obtain ⟨y, hy⟩ : ∃ y, ys[k]? = some y := ⟨_, List.getElem?_eq_getElem (by rw [HM.out]; omega)⟩
    obtain ⟨g1, g2, g3⟩ := dcells_at zs k z hz
    obtain ⟨g4, g5, g6⟩ := dcells_at ys k y hy
    have c1 : wr.cell? ⟨b1, o1 + k * 3, none⟩ = some (.int .i64 z.1) := by rw [hbel.cell (p := ⟨b1, o1 + k * 3, none⟩) hb1, hc1 _ (by omega), g1]
    have c2 : wr.cell? ⟨b1, o1 + k * 3 + 1, none⟩ = some (.int .i64 z.2.1) := by rw [Nat.add_assoc, hbel.cell (p := ⟨b1, o1 + (k * 3 + 1), none⟩) hb1, hc1 _ (by omega), g2]
    have c3 : wr.cell? ⟨b1, o1 + k * 3 + 2, none⟩ = some (.string z.2.2) := by rw [Nat.add_assoc, hbel.cell (p := ⟨b1, o1 + (k * 3 + 2), none⟩) hb1, hc1 _ (by omega), g3]
    have c4 : wr.cell? ⟨b2, o2 + k * 3, none⟩ = some (.int .i64 y.1) := by rw [hbel.cell (p := ⟨b2, o2 + k * 3, none⟩) hb2, hc2 _ (by omega), g4]
    have c5 : wr.cell? ⟨b2, o2 + k * 3 + 1, none⟩ = some (.int .i64 y.2.1) := by rw [Nat.add_assoc, hbel.cell (p := ⟨b2, o2 + (k * 3 + 1), none⟩) hb2, hc2 _ (by omega), g5]
    have c6 : wr.cell? ⟨b2, o2 + k * 3 + 2, none⟩ = some (.string y.2.2) := by rw [Nat.add_assoc, hbel.cell (p := ⟨b2, o2 + (k * 3 + 2), none⟩) hb2, hc2 _ (by omega), g6]
    have HST := Lib.hid (agree_step hz hy hag.out)
    clear hz hy hc1 hc2 g1 g2 g3 g4 g5 g6 hag
    go_wp2_with fail
    go_still_tail 8, (by kernel_rfl)
    change wpList _ _ _ _ _ wr.drew
    go_wp2_with fail
    refine (eqExDeed_any z.1 z.2.1 y.1 y.2.1 z.2.2 y.2.2 _).mono ?_
    rintro e w1 ⟨rfl, hb1'⟩
    by_cases hzy : z = y
    ·
     have hd : decide ((z.1, z.2.1, z.2.2) = (y.1, y.2.1, y.2.2)) = true := by simp [hzy]
     rw [hd]
     clear hd
     go_wp2_with fail
     go_roundw
     case rel => exact ⟨k + 1, by omega, by go_num, HST.out.2 hzy, by (exact grownA)⟩
     case measure => simp [intOf]; omega
    ·
     have hd : decide ((z.1, z.2.1, z.2.2) = (y.1, y.2.1, y.2.2)) = false := by simp only [decide_eq_false_iff_not]; exact fun e => hzy e
     rw [hd]
     clear hd
     have HZ : Hid (zs ≠ ys) := fun h => hzy (HST.out.1 (by rw [h]))
     clear hzy
     go_wp2
     go_returns
     exact ⟨by simp [HZ.out], by (exact grownA)⟩
   ·
    obtain rfl : k = n := by omega
    go_wp2
    go_returns
    refine ⟨?_, hbel⟩
    have h1 := hag.out
    rw [List.take_of_length_le (by rw [HN.out]; omega), List.take_of_length_le (by rw [HM.out]; omega)] at h1
    simp [h1]
 ·
  have hne : ((zs.length : Int) != (ys.length : Int)) = true := by simp; omega
  have hno : zs ≠ ys := fun h => hlen (by rw [h])
  have hdec : decide (zs = ys) = false := by simpa using hno
  rw [hdec]
  clear hdec hno hlen hc1 hc2 hl1 hl2
  go_enter Tryd.func18, Tryd.ntmps18
  go_wp2
  go_returns
  exact ⟨rfl, Below.refl _ _⟩

/-- What the marks write. -/
def dmarks (k n : Nat) : List Ded := (List.range n).map fun i => (((k + 3 * i : Nat) : Int), ((k + 3 * i + 1 : Nat) : Int), mt (k + 3 * i + 2))
theorem dmarks_at (k n i : Nat) (h : i < n) : (dmarks k n)[i]? = some (((k + 3 * i : Nat) : Int), ((k + 3 * i + 1 : Nat) : Int), mt (k + 3 * i + 2)) := by simp [dmarks, h]
def dmarkTo (cs : List Ded) (k j : Nat) : List Ded := dmarks k j ++ cs.drop j
theorem dmarkTo_zero (cs : List Ded) (k : Nat) : dmarkTo cs k 0 = cs := by simp [dmarkTo, dmarks]
theorem dmarkTo_all (cs : List Ded) (k : Nat) : dmarkTo cs k cs.length = dmarks k cs.length := by simp [dmarkTo]
theorem dmarkTo_len (cs : List Ded) (k j : Nat) (h : j ≤ cs.length) : (dmarkTo cs k j).length = cs.length := by simp [dmarkTo, dmarks]; omega
theorem dmarkTo_set (cs : List Ded) (k j : Nat) (h : j < cs.length) : (dmarkTo cs k j).set j (((k + 3 * j : Nat) : Int), ((k + 3 * j + 1 : Nat) : Int), mt (k + 3 * j + 2)) = dmarkTo cs k (j + 1) := by
 apply List.ext_getElem
 ·
  simp [dmarkTo, dmarks]; omega
 ·
  intro i h1 h2
  simp only [List.getElem_set, dmarkTo, dmarks, List.getElem_append, List.length_map, List.length_range, List.getElem_map, List.getElem_range, List.getElem_drop]
  split
  ·
   subst_vars; rw [dif_pos (by omega)]
  ·
   split
   ·
    rw [dif_pos (by omega)]
   ·
    rw [dif_neg (by omega)]; congr 1; omega

set_option maxRecDepth 100000 in
set_option maxHeartbeats 1000000 in
theorem markDeeds (g n cap : Nat) (ds : List Ded) (k : Nat) (w : World) (hv : Own w g n cap 26 3 (dcells ds)) (hk0 : 0 < k) (hk : k ≤ 100000000) (hn : n ≤ 10000000) :
  Calls Tryd.prog 24 #[.slice (some ⟨g, 0, none⟩) n cap, .int .i64 k] w fun e w' => e = .returned (.int .i64 (k + 3 * n : Nat)) ∧ Own w' g n cap 26 3 (dcells (dmarks k n)) ∧ w.grownBy w' (some g) := by
 have hlen := hv.len
 rw [dcells_len] at hlen
 have hlen' : ds.length = n := by omega
 have HLEN := Lib.hid hlen'
 clear hlen hlen'
 go_enter Tryd.func24, Tryd.ntmps24
 go_wp2_with fail
 go_loopw [1, 5] (fun kk i wr => ∃ j : Nat, j ≤ n ∧ i = .int .i64 j ∧ kk = .int .i64 (k + 3 * j : Nat) ∧ Own wr g n cap 26 3 (dcells (dmarkTo ds k j)) ∧ w.grownBy wr (some g)) (fun _ i _ => n - (intOf i).toNat)
 case atStart => exact ⟨0, by omega, rfl, by simp, by rw [dmarkTo_zero]; exact hv, World.grownBy.refl _ _⟩
 case round =>
  obtain ⟨j, hj, rfl, rfl, hown, hgr⟩ := hrel
  by_cases hjn : j < n
  ·
   have hlt := hown.lt
   obtain ⟨y, hy⟩ : ∃ y, (dmarkTo ds k j)[j]? = some y := ⟨_, List.getElem?_eq_getElem (by rw [dmarkTo_len _ _ _ (by rw [HLEN.out]; omega), HLEN.out]; omega)⟩
   obtain ⟨y1, y2, y3⟩ := dcells_at _ _ _ hy
   have d1 := hown.cell (j * 3) (by omega)
   rw [y1] at d1
   have d2 := hown.cell (j * 3 + 1) (by omega)
   rw [y2] at d2
   have f1 := hown.free (j * 3)
   have f2 := hown.free (j * 3 + 1)
   clear hy y1 y2
   have HY3 := Lib.hid y3
   clear y3
   go_wp2_with fail
   refine (markText_any (k + 3 * j + 2) _ (by omega) (by omega)).mono ?_
   rintro e w2 ⟨rfl, hb2⟩
   have hown2 : Own w2 g n cap 26 3 (((dcells (dmarkTo ds k j)).set (j * 3) (.int .i64 (k + 3 * j : Nat))).set (j * 3 + 1) (.int .i64 (k + 3 * j + 1 : Nat))) := by
    refine Own.below hb2 (by simpa using hlt) ?_
    (exact ownA)
   have hgr2 : w.grownBy w2 (some g) := by
    refine gb_below hb2 (by simpa using hgr.size) ?_
    (exact gbA)
   have hlt2 := hown2.lt
   have d3 := hown2.cell (j * 3 + 2) (by omega)
   rw [List.getElem?_set_ne (by omega), List.getElem?_set_ne (by omega), HY3.out] at d3
   have f3 := hown2.free (j * 3 + 2)
   clear hown hb2 d1 d2 f1 f2 hgr
   go_wp2_with fail
   go_roundw
   case rel =>
    refine ⟨j + 1, by omega, by go_num, by go_num, ?_, ?_⟩
    ·
     rw [← dmarkTo_set _ _ _ (by rw [HLEN.out]; omega), ← dcells_set _ _ _ (by rw [dmarkTo_len _ _ _ (by rw [HLEN.out]; omega), HLEN.out]; omega)]
     (exact ownA)
    ·
     (exact gbA)
   case measure => simp [intOf]; omega
  ·
   obtain rfl : j = n := by omega
   go_wp2
   go_returns
   refine ⟨rfl, ?_, hgr⟩
   have := dmarkTo_all ds k
   rw [HLEN.out] at this
   rw [← this]
   exact hown
set_option maxHeartbeats 400000 in
theorem markDeeds_any (base : Nat) (v : Value) (n : Nat) (cs : List Ded) (k : Nat) (w : World) (hv : w.ownsRow base 26 3 v n (dcells cs)) (hk0 : 0 < k) (hk : k ≤ 100000000) (hn : n ≤ 10000000) :
  Calls Tryd.prog 24 #[v, .int .i64 k] w fun e w' => e = .returned (.int .i64 (k + 3 * n : Nat)) ∧ w'.ownsRow base 26 3 v n (dcells (dmarks k n)) ∧ w.grownBy w' v.ownBlock := by
 rcases hv.2 with ⟨rfl, rfl⟩ | ⟨g, cap, cur, rfl, hb, _⟩
 ·
  clear hv
  go_enter Tryd.func24, Tryd.ntmps24
  go_wp2_with fail
  refine wp_loop_rounds 1 ?_
  rw [rounds_succ]
  go_wp2
  go_returns
  exact ⟨by simp, World.ownsRow_nil _ _ _ _, World.grownBy.refl _ _⟩
 ·
  refine (markDeeds g n cap cs k w (Own.of hv).1 hk0 hk hn).mono ?_
  rintro e w' ⟨rfl, h1, h2⟩
  exact ⟨rfl, h1.back hb, h2⟩

set_option maxRecDepth 100000 in
set_option maxHeartbeats 400000 in
theorem heldDeeds_any (v : Value) (n k : Nat) (w : World) (hv : Rds w v n 3 (dcells (dmarks k n))) (hk0 : 0 < k) (hk : k ≤ 100000000) (hn : n ≤ 10000000) :
  Calls Tryd.prog 25 #[v, .int .i64 k] w fun e w' => e = .returned (.int .i64 (k + 3 * n : Nat)) ∧ Below w.heap.size w w' := by
 obtain ⟨hl1, hm1, a, ca, rfl, hn1, hc1⟩ := hv
 unfold maxLen at hm1
 clear hl1
 go_enter Tryd.func25, Tryd.ntmps25
 go_wp2_with fail
 go_loopw [1, 5] (fun kk i wr => ∃ j : Nat, j ≤ n ∧ i = .int .i64 j ∧ kk = .int .i64 (k + 3 * j : Nat) ∧ Below w.heap.size w wr) (fun _ i _ => n - (intOf i).toNat)
 case atStart => exact ⟨0, by omega, rfl, by simp, Below.refl _ _⟩
 case round =>
  obtain ⟨j, hj, rfl, rfl, hbel⟩ := hrel
  by_cases hjn : j < n
  ·
   rcases hc1 with hc1 | ⟨b, off, rfl, hb, hc1⟩
   ·
    omega
   obtain ⟨g1, g2, g3⟩ := dcells_at _ _ _ (dmarks_at k n j hjn)
   have c1 : wr.cell? ⟨b, off + j * 3, none⟩ = some (.int .i64 (k + 3 * j : Nat)) := by rw [hbel.cell (p := ⟨b, off + j * 3, none⟩) hb, hc1 _ (by omega), g1]
   have c2 : wr.cell? ⟨b, off + j * 3 + 1, none⟩ = some (.int .i64 (k + 3 * j + 1 : Nat)) := by rw [Nat.add_assoc, hbel.cell (p := ⟨b, off + (j * 3 + 1), none⟩) hb, hc1 _ (by omega), g2]
   have c3 : wr.cell? ⟨b, off + j * 3 + 2, none⟩ = some (.string (mt (k + 3 * j + 2))) := by rw [Nat.add_assoc, hbel.cell (p := ⟨b, off + (j * 3 + 2), none⟩) hb, hc1 _ (by omega), g3]
   have hsb := str_eq (rfl : mt (k + 3 * j + 2) = mt (k + 3 * j + 2))
   have hz := hbel.size
   have hblt : b < wr.heap.size := by omega
   clear hc1 g1 g2 g3
   go_wp2_with fail
   go_region_held3 (fun w' => w'.cell? ⟨b, off + j * 3 + 2, none⟩ = some (.string (mt (k + 3 * j + 2)))) (exact keepA)
    (first | (go_at_call 43; refine (markText_any (k + 3 * j + 2) _ (by omega) (by omega)).mono ?_; rintro e w2 ⟨rfl, hb2⟩))
   have hz2 := hb2.size
   have hbel2 : Below w.heap.size w w2 := by (exact grownA)
   clear hb2 c1 c2 c3
   go_wp2_with fail
   go_roundw
   case rel => exact ⟨j + 1, by omega, by go_num, by go_num, by (exact grownA)⟩
   case measure => simp [intOf]; omega
  ·
   obtain rfl : j = n := by omega
   go_wp2
   go_returns
   exact ⟨rfl, hbel⟩

end Go.Proofs.YtedadhoneebfnaaDoor
