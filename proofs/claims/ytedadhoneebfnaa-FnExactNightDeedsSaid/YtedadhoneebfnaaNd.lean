/- Contracts of NightDeeds (program and reference). -/
import Derived.Test.YtedadhoneebfnaaLp
import Derived.Test.YtedadhoneebfnaaDh
import Derived.Test.YtedadhoneebfnaaDoP
set_option linter.unusedSimpArgs false
set_option linter.unusedVariables false
namespace Go.Proofs.Ytedadhoneebfnaa
open Go.RowKit

noncomputable def nightX (O E M : Int) (ps : List ByteArray) (cs : List Cl) : List Ded := if exB O E M ps cs = true then nightL cs else []
theorem nightL_at {cs : List Cl} {k : Nat} {c : Cl} (h : cs[k]? = some c) : nightL (cs.take (k + 1)) = nightL (cs.take k) ++ [(1, c.1, ByteArray.empty)] := by
  obtain ⟨hk, rfl⟩ := List.getElem?_eq_some_iff.1 h
  unfold nightL
  rw [List.take_succ_eq_append_getElem hk, List.map_append]; rfl
theorem nightL_len (cs : List Cl) : (nightL cs).length = cs.length := by simp [nightL]
theorem Blk.gbr {w1 w2 : World} {b : Nat} {cs : Array Value} {T : TypeId} {r : Option Nat} (hg : w1.grownBy w2 r) (hne : some b ≠ r) (h : Blk w1 b cs T) : Blk w2 b cs T := by
  have := h.lt; unfold Blk at h ⊢; rw [hg.block b this hne]; exact h
theorem news3 (w : World) (T : TypeId) (x0 x1 x2 : Value) (b : Nat) (hb : b = w.heap.size) : ∀ (j : Nat) (u : Value), [x0, x1, x2][j]? = some u → (w.alloc (.cells #[x0, x1, x2] T)).cell? ((⟨b, 0, none⟩ : Addr).add j) = some u := by
  intro j u hu
  rw [Addr.add_spot, Nat.zero_add, (Blk.new hb).at j]
  simpa using hu
theorem oneD (a b : Int) (s : ByteArray) : ∀ u ∈ [Value.int .i64 a, Value.int .i64 b, Value.string s], u.oneCell' = true := by
  intro u hu; simp at hu; rcases hu with rfl | rfl | rfl <;> rfl
theorem oneC (a b c : Int) : ∀ u ∈ [Value.int .i64 a, Value.int .i64 b, Value.int .i64 c], u.oneCell' = true := by
  intro u hu; simp at hu; rcases hu with rfl | rfl | rfl <;> rfl
/-- A list of deeds made anew. -/
def DdOut (ds : List Ded) (w : World) (e : Ending) (w' : World) : Prop := ∃ v, e = .returned v ∧ w'.ownsRow w.heap.size 68 3 v ds.length (dcells ds) ∧ Below w.heap.size w w'

set_option maxRecDepth 100000 in
set_option maxHeartbeats 1000000 in
theorem iNightDeeds_any (O E M : Int) (vp vc : Value) (ps : List ByteArray) (cs : List Cl) (w : World) (hR : ExRd w vp vc ps cs) (hL : StLen ps) :
    Calls Try.prog 36 #[.agg #[.int .i64 O, .int .i64 E, .int .i64 M, vp, vc]] w (DdOut (nightX O E M ps cs) w) := by
  obtain ⟨i0, hi, hz0, hz1, hz2⟩ := info_parts infoD
  have hB := Blk.new (w := w) (cs := #[.int .i64 O, .int .i64 E, .int .i64 M, vp, vc]) (T := 33) rfl
  have hbel0 : Below w.heap.size w (w.alloc (.cells #[.int .i64 O, .int .i64 E, .int .i64 M, vp, vc] 33)) := by (repeat' (first | (with_reducible exact Below.refl _ _) | (with_reducible assumption) | (with_reducible refine Below.drew ?_) | (with_reducible refine below_drewN ?_ _) | (with_reducible refine Below.alloc ?_ ?_ _) | (with_reducible refine Below.setCell ?_ ?_ _) | (refine Below.trans ?_ (Below.mono (by assumption) (by first | omega | (with_reducible exact Below.size (by assumption)) | (simp; done) | (simp; omega)))) | (with_reducible exact Nat.le_refl _) | omega | (with_reducible exact Below.size (by assumption)) | (simp only [World.size_alloc, World.size_setCell, World.size_drew]; omega) | (simp; done) | (simp; omega)))
  have HR := Lib.hid hR
  have HL := Lib.hid hL
  obtain ⟨a1, c1, rfl, _⟩ := hR.plan.open1
  obtain ⟨_, hm1, a2, c2, rfl, hn1, hc1⟩ := hR.calls
  unfold maxLen at hm1
  have HC1 := Lib.hid hc1
  clear hR hL hc1
  obtain ⟨p0, p1, p2, p3, p4, _, _, _, _, _, plt⟩ := hB.five
  go_enter Try.func36, Try.ntmps36
  go_wp2_with fail
  refine (iExchangeValid_any O E M _ _ ps cs _ (HR.out.below hbel0) HL.out).mono ?_
  rintro e w1 ⟨rfl, hb⟩
  have hbel1 : Below w.heap.size w w1 := by (repeat' (first | (with_reducible exact Below.refl _ _) | (with_reducible assumption) | (with_reducible refine Below.drew ?_) | (with_reducible refine below_drewN ?_ _) | (with_reducible refine Below.alloc ?_ ?_ _) | (with_reducible refine Below.setCell ?_ ?_ _) | (refine Below.trans ?_ (Below.mono (by assumption) (by first | omega | (with_reducible exact Below.size (by assumption)) | (simp; done) | (simp; omega)))) | (with_reducible exact Nat.le_refl _) | omega | (with_reducible exact Below.size (by assumption)) | (simp only [World.size_alloc, World.size_setCell, World.size_drew]; omega) | (simp; done) | (simp; omega)))
  have hB1 := hB.belowAll hb
  clear hB hb hbel0 p0 p1 p2 p3 p4 plt
  obtain ⟨p0, p1, p2, p3, p4, _, _, _, _, _, plt⟩ := hB1.five
  obtain ⟨d, hd⟩ : ∃ d, exB O E M ps cs = d := ⟨_, rfl⟩
  have HD := Lib.hid hd
  rw [hd]
  clear hd
  cases d
  · have HF : Hid (nightX O E M ps cs = []) := by unfold Hid nightX; rw [HD.out]; rfl
    go_wp2
    go_returns
    exact ⟨_, rfl, by rw [HF.out]; exact World.ownsRow_nil _ _ _ _, hbel1⟩
  · have HF : Hid (nightX O E M ps cs = nightL cs) := by unfold Hid nightX; rw [HD.out]; rfl
    have HOK := Lib.hid ((exB_iff _ _ _ _ _).1 HD.out)
    have hcnt := HOK.out.calls.count (lines_le HOK.out.calls.sh)
    obtain ⟨n, hn⟩ : ∃ n, cs.length = n := ⟨_, rfl⟩
    have HN := Lib.hid hn
    rw [hn] at HC1 hcnt hm1 hn1 p4 ⊢
    clear hn hB1
    go_wp2_with fail
    go_loopw [3, 12] (fun v i wr => ∃ k : Nat, k ≤ n ∧ i = .int .i64 k ∧ wr.ownsRow w.heap.size 68 3 v k (dcells (nightL (cs.take k))) ∧ Below w.heap.size w wr) (fun _ i _ => n - (intOf i).toNat)
    case atStart => exact ⟨0, by omega, rfl, World.ownsRow_nil _ _ _ _, hbel1⟩
    case round =>
      obtain ⟨k, hk, rfl, hown, hbel⟩ := hrel
      have hz := hbel.size
      by_cases hkn : k < n
      · rcases HC1.out with hc1 | ⟨b, off, rfl, hb, hc1⟩
        · omega
        obtain ⟨c, hc⟩ : ∃ c, cs[k]? = some c := ⟨_, List.getElem?_eq_getElem (by rw [HN.out]; omega)⟩
        obtain ⟨g1, g2, g3⟩ := ccells_at cs k c hc
        have k1 : wr.cell? ⟨b, off + k * 3, none⟩ = some (.int .i64 c.1) := by rw [hbel.cell (p := ⟨b, off + k * 3, none⟩) hb, hc1 _ (by omega), g1]
        have k2 : wr.cell? ⟨b, off + k * 3 + 1, none⟩ = some (.int .i64 c.2.1) := by rw [Nat.add_assoc, hbel.cell (p := ⟨b, off + (k * 3 + 1), none⟩) hb, hc1 _ (by omega), g2]
        have k3 : wr.cell? ⟨b, off + k * 3 + 2, none⟩ = some (.int .i64 c.2.2) := by rw [Nat.add_assoc, hbel.cell (p := ⟨b, off + (k * 3 + 2), none⟩) hb, hc1 _ (by omega), g3]
        have HST := Lib.hid (nightL_at hc)
        clear hc g1 g2 g3 hc1
        obtain ⟨x, y, m⟩ := c
        simp only at k1 k2 k3
        go_wp2_with (at_builtin; refine wpList_append_own _ rfl _ _ 47 rfl w.heap.size 68 i0 _ 3 32 Try.underlying47 hi hz0 hz1 hz2 rfl (by decide) _ _ _ rfl ((hown.alloc _).alloc _) ⟨wr.heap.size + 1, 0, none⟩ 1 1 [.int .i64 1, .int .i64 x, .string ByteArray.empty] rfl rfl (news3 _ _ _ _ _ _ (by simp)) (oneD _ _ _) (by unfold maxLen; omega) (by omega) (by simp; omega) ?_; intro v' w3 hown' hgrow _)
        have hbel3 : Below w.heap.size w w3 := Below.grown (by (repeat' (first | (with_reducible exact Below.refl _ _) | (with_reducible assumption) | (with_reducible refine Below.drew ?_) | (with_reducible refine below_drewN ?_ _) | (with_reducible refine Below.alloc ?_ ?_ _) | (with_reducible refine Below.setCell ?_ ?_ _) | (refine Below.trans ?_ (Below.mono (by assumption) (by first | omega | (with_reducible exact Below.size (by assumption)) | (simp; done) | (simp; omega)))) | (with_reducible exact Nat.le_refl _) | omega | (with_reducible exact Below.size (by assumption)) | (simp only [World.size_alloc, World.size_setCell, World.size_drew]; omega) | (simp; done) | (simp; omega)))) hgrow (by simp; omega) (own_ge hown)
        clear hgrow k1 k2 k3
        go_roundw
        case rel => exact ⟨k + 1, by omega, by go_num, by rw [HST.out, dcells_app]; exact hown', hbel3⟩
        case measure => simp [intOf]; omega
      · obtain rfl : k = n := by omega
        go_wp2
        go_returns
        refine ⟨_, rfl, ?_, hbel⟩
        rw [HF.out, nightL_len, HN.out]
        rw [List.take_of_length_le (by rw [HN.out]; omega)] at hown
        exact hown

set_option maxRecDepth 100000 in
set_option maxHeartbeats 1000000 in
theorem sNightDeeds_any (O E M : Int) (vp vc : Value) (ps : List ByteArray) (cs : List Cl) (w : World) (hR : ExRd w vp vc ps cs) (hL : StLen ps) :
    Calls Try.prog 35 #[.agg #[.int .i64 O, .int .i64 E, .int .i64 M, vp, vc]] w (DdOut (nightX O E M ps cs) w) := by
  obtain ⟨i0, hi, hz0, hz1, hz2⟩ := info_parts infoD
  have hB := (Blk.new (w := w) (cs := #[.int .i64 O, .int .i64 E, .int .i64 M, vp, vc]) (T := 33) rfl).alloc (.cells #[] 68)
  have HR := Lib.hid hR
  have HL := Lib.hid hL
  obtain ⟨a1, c1, rfl, _⟩ := hR.plan.open1
  obtain ⟨_, hm1, a2, c2, rfl, hn1, hc1⟩ := hR.calls
  unfold maxLen at hm1
  have HC1 := Lib.hid hc1
  obtain ⟨n, hn⟩ : ∃ n, cs.length = n := ⟨_, rfl⟩
  have HN := Lib.hid hn
  rw [hn] at hB HR HC1 hm1 hn1 ⊢
  have hbel0 : Below w.heap.size w ((w.alloc (.cells #[.int .i64 O, .int .i64 E, .int .i64 M, .slice a1 ps.length c1, .slice a2 n c2] 33)).alloc (.cells #[] 68)) := by (repeat' (first | (with_reducible exact Below.refl _ _) | (with_reducible assumption) | (with_reducible refine Below.drew ?_) | (with_reducible refine below_drewN ?_ _) | (with_reducible refine Below.alloc ?_ ?_ _) | (with_reducible refine Below.setCell ?_ ?_ _) | (refine Below.trans ?_ (Below.mono (by assumption) (by first | omega | (with_reducible exact Below.size (by assumption)) | (simp; done) | (simp; omega)))) | (with_reducible exact Nat.le_refl _) | omega | (with_reducible exact Below.size (by assumption)) | (simp only [World.size_alloc, World.size_setCell, World.size_drew]; omega) | (simp; done) | (simp; omega)))
  clear hR hL hc1 hn
  obtain ⟨d, hd⟩ : ∃ d, exB O E M ps cs = d := ⟨_, rfl⟩
  have HD := Lib.hid hd
  clear hd
  go_enter Try.func35, Try.ntmps35
  go_wp2_with fail
  go_loopw [3, 4] (fun v i wr => ∃ k : Nat, k ≤ n ∧ i = .int .i64 k ∧ Hid (k = 0 ∨ d = true) ∧ wr.ownsRow (w.heap.size + 1) 68 3 v k (dcells (nightL (cs.take k))) ∧ Below w.heap.size w wr ∧ Blk wr w.heap.size #[.int .i64 O, .int .i64 E, .int .i64 M, .slice a1 ps.length c1, .slice a2 n c2] 33) (fun _ i _ => n - (intOf i).toNat)
  case atStart => exact ⟨0, by omega, rfl, .inl rfl, (by have := World.ownsRow_lit (base := w.heap.size + 1) (e := 68) (size := 3) (w.alloc (.cells #[.int .i64 O, .int .i64 E, .int .i64 M, .slice a1 ps.length c1, .slice a2 n c2] 33)) #[] 0 (by simp) (by unfold maxLen; omega) rfl; simpa [nightL, dcells] using this), hbel0, hB⟩
  case round =>
    obtain ⟨k, hk, rfl, hdk, hown, hbel, hBw⟩ := hrel
    have hz := hbel.size
    obtain ⟨p0, p1, p2, p3, p4, _, _, _, _, _, plt⟩ := hBw.five
    by_cases hkn : k < n
    · rcases HC1.out with hc1 | ⟨b, off, rfl, hb, hc1⟩
      · omega
      obtain ⟨c, hc⟩ : ∃ c, cs[k]? = some c := ⟨_, List.getElem?_eq_getElem (by rw [HN.out]; omega)⟩
      obtain ⟨g1, g2, g3⟩ := ccells_at cs k c hc
      have HK1 := Lib.hid ((hc1 (k * 3) (by omega)).trans g1)
      have HST := Lib.hid (nightL_at hc)
      clear hc g1 g2 g3 hc1
      go_wp2_with fail
      refine (sExchangeValid_any O E M _ _ ps cs _ (HR.out.below hbel) HL.out).mono ?_
      rintro e w1 ⟨rfl, hb1⟩
      rw [HD.out]
      have hbel1 : Below w.heap.size w w1 := by (repeat' (first | (with_reducible exact Below.refl _ _) | (with_reducible assumption) | (with_reducible refine Below.drew ?_) | (with_reducible refine below_drewN ?_ _) | (with_reducible refine Below.alloc ?_ ?_ _) | (with_reducible refine Below.setCell ?_ ?_ _) | (refine Below.trans ?_ (Below.mono (by assumption) (by first | omega | (with_reducible exact Below.size (by assumption)) | (simp; done) | (simp; omega)))) | (with_reducible exact Nat.le_refl _) | omega | (with_reducible exact Below.size (by assumption)) | (simp only [World.size_alloc, World.size_setCell, World.size_drew]; omega) | (simp; done) | (simp; omega)))
      have hB1 := hBw.belowAll hb1
      have hown1 := owns_below hb1 hown
      have hzb := hbel1.size
      clear hb1 hBw p0 p1 p2 p3 p4 plt
      obtain ⟨p0, p1, p2, p3, p4, _, _, _, _, _, plt⟩ := hB1.five
      have k1 : w1.cell? ⟨b, off + k * 3, none⟩ = some (.int .i64 c.1) := by rw [hbel1.cell (p := ⟨b, off + k * 3, none⟩) hb]; exact HK1.out
      cases d
      · have HF : Hid (nightX O E M ps cs = []) := by unfold Hid nightX; rw [HD.out]; rfl
        have hk0 : Hid (k = 0) := by rcases hdk.out with h | h; exact h; cases h
        go_wp2
        go_returns
        refine ⟨_, rfl, ?_, hbel1⟩
        rw [HF.out]
        have e := hk0.out
        subst e
        exact owns_base (Nat.le_succ _) hown1
      · have HOK := Lib.hid ((exB_iff _ _ _ _ _).1 HD.out)
        have hcnt := HOK.out.calls.count (lines_le HOK.out.calls.sh)
        rw [HN.out] at hcnt
        obtain ⟨x, y, m⟩ := c
        simp only at k1
        go_wp2_with (at_builtin; refine wpList_append_own _ rfl _ _ 47 rfl (w.heap.size + 1) 68 i0 _ 3 32 Try.underlying47 hi hz0 hz1 hz2 rfl (by decide) _ _ _ rfl (hown1.alloc _) ⟨w1.heap.size, 0, none⟩ 1 1 [.int .i64 1, .int .i64 x, .string ByteArray.empty] rfl rfl (news3 _ _ _ _ _ _ (by rfl)) (oneD _ _ _) (by unfold maxLen; omega) (by omega) (by simp; omega) ?_; intro v' w3 hown' hgrow hnew)
        have hge := own_ge hown1
        have hbel3 : Below w.heap.size w w3 := Below.grown (by (repeat' (first | (with_reducible exact Below.refl _ _) | (with_reducible assumption) | (with_reducible refine Below.drew ?_) | (with_reducible refine below_drewN ?_ _) | (with_reducible refine Below.alloc ?_ ?_ _) | (with_reducible refine Below.setCell ?_ ?_ _) | (refine Below.trans ?_ (Below.mono (by assumption) (by first | omega | (with_reducible exact Below.size (by assumption)) | (simp; done) | (simp; omega)))) | (with_reducible exact Nat.le_refl _) | omega | (with_reducible exact Below.size (by assumption)) | (simp only [World.size_alloc, World.size_setCell, World.size_drew]; omega) | (simp; done) | (simp; omega)))) hgrow (by simp; omega) (fun k hk => by have := hge k hk; omega)
        have hB3 : Blk w3 w.heap.size #[.int .i64 O, .int .i64 E, .int .i64 M, .slice a1 ps.length c1, .slice (some ⟨b, off, none⟩) n c2] 33 := Blk.gbr hgrow (fun e => by have := hge _ e.symm; omega) (hB1.alloc _)
        clear hgrow hge k1 p0 p1 p2 p3 p4 plt hown hown1 hB1
        go_wp2_with fail
        go_roundw
        case rel => exact ⟨k + 1, by omega, by go_num, Or.inr (by first | rfl | trivial), by rw [HST.out, dcells_app]; exact hown', hbel3, hB3⟩
        case measure => simp [intOf]; omega
    · obtain rfl : k = n := by omega
      go_wp2
      go_returns
      refine ⟨_, rfl, ?_, hbel⟩
      have hF : nightX O E M ps cs = nightL cs := by
        unfold nightX
        rcases hdk.out with h | h
        · have : cs = [] := List.length_eq_zero_iff.1 (by rw [HN.out, h])
          subst this; split <;> rfl
        · rw [HD.out, h]; rfl
      rw [hF, nightL_len, HN.out]
      rw [List.take_of_length_le (by rw [HN.out]; omega)] at hown
      exact owns_base (Nat.le_succ _) hown

end Go.Proofs.Ytedadhoneebfnaa
