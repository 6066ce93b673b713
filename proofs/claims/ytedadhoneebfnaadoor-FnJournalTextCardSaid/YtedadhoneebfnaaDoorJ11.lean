/- Joined texts: Df, Dg, Ru, Eh, Db. -/
import Derived.Test.YtedadhoneebfnaaDoorJ10
import Derived.Deep.QuietTactic
import Derived.BigQuiet
import Derived.Test.YtedadhoneebfnaaDoorJ3
import Derived.Test.YtedadhoneebfnaaDoorJ6
import Derived.Test.YtedadhoneebfnaaDoorJ5
import Derived.StillTailTactics
set_option linter.unusedSimpArgs false
set_option linter.unusedVariables false
/- Contract of doNumber (program). -/
namespace Go.Proofs.YtedadhoneebfnaaDoor
open Go.RowKit

theorem strs_set8 (ps : List ByteArray) (j : Nat) (s : ByteArray) : (strs ps).set j (.string s) = strs (ps.set j s) := by simp [strs, List.map_set]
section
variable {w W W' : World} {O E M : Int} {vp vc : Value} {k l : Int} {s : ByteArray} {nb : Nat} {vq vr : Value} {ps : List ByteArray} {cs : List Cl}
theorem DoSt.drewN (q : Nat) (h : DoSt w W O E M vp vc k l s nb vq vr ps cs) : DoSt w (W.drewN q) O E M vp vc k l s nb vq vr ps cs :=
 ⟨below_drewN h.bel _, h.box.drewN _, h.dee.drewN _, h.res.drewN _, h.nxt.drewN _, h.own.drewN q, h.ap1, h.ap2, h.big⟩
/-- A number is another one. -/
theorem DoSt.number {g cap n : Nat} (h : DoSt w W O E M vp vc k l s nb (.slice (some ⟨g, 0, none⟩) n cap) vr ps cs) (hn : n = ps.length) (t : ByteArray) (j : Nat) : DoSt w (W.setCell ⟨g, j, none⟩ (.string t)) O E M vp vc k l s nb (.slice (some ⟨g, 0, none⟩) n cap) vr (ps.set j t) cs := by
 subst hn
 have hg : W.grownBy (W.setCell ⟨g, j, none⟩ (.string t)) (some g) := gb_set (World.grownBy.refl _ _)
 obtain ⟨ho, hgb⟩ := Own.of h.own.plan
 have hgn : g ≠ nb := by
  rcases h.ap1 with e | e
  ·
   cases e
  ·
   exact fun e2 => e (by rw [e2]; rfl)
 have hcv : vr.ownBlock = none ∨ vr.ownBlock ≠ some g := by
  rcases h.own.apart with e | e
  ·
   cases e
  ·
   exact .inr (fun e2 => e e2.symm)
 refine ⟨h.bel.setCell (by show _ ≤ g; omega) _, h.box.other (by show _ ≠ g; omega), h.dee.other (by show _ ≠ g; omega), h.res.other (by show _ ≠ g; omega), h.nxt.other (fun e => hgn e.symm), ⟨?_, h.own.calls.kept hg hcv, h.own.apart⟩, h.ap1, h.ap2, h.big⟩
 rw [List.length_set]
 exact (ho.set (strs_set8 ps j t)).back hgb
end

end Go.Proofs.YtedadhoneebfnaaDoor

/- Contract of ExDo (program). -/
namespace Go.Proofs.YtedadhoneebfnaaDoor
open Go.RowKit

/-- What ExDo leaves. -/
noncomputable def doXQ (O E M : Int) (ps : List ByteArray) (cs : List Cl) (k l : Int) (s : ByteArray) : World → Ending → World → Prop :=
 if exB O E M ps cs = true then doQ O E M ps cs (doL E M ps cs k l s) else ExNewB 0 0 0 [] [] false
theorem doXQ_no {O E M : Int} {ps : List ByteArray} {cs : List Cl} (h : exB O E M ps cs = false) {k l : Int} {s : ByteArray} {w : World} {e : Ending} {w' : World} (hh : ExNewB 0 0 0 [] [] false w e w') : doXQ O E M ps cs k l s w e w' := by
 unfold doXQ; rw [h]; exact hh
theorem doXQ_yes {O E M : Int} {ps : List ByteArray} {cs : List Cl} (h : exB O E M ps cs = true) {k l : Int} {s : ByteArray} {w : World} {e : Ending} {w' : World} (hh : doQ O E M ps cs (doL E M ps cs k l s) w e w') : doXQ O E M ps cs k l s w e w' := by
 unfold doXQ; rw [h]; exact hh
theorem agg_parts {w : World} {vp vc : Value} {ps : List ByteArray} {cs : List Cl} {base : Nat} (h : ExOwn w base vp vc ps cs) : ∃ a1 c1 a2 c2, vp = .slice a1 ps.length c1 ∧ vc = .slice a2 cs.length c2 := by
 obtain ⟨a1, c1, h1⟩ := own_len9 h.plan
 obtain ⟨a2, c2, h2⟩ := own_len9 h.calls
 exact ⟨a1, c1, a2, c2, h1, h2⟩

end Go.Proofs.YtedadhoneebfnaaDoor

/- Where the running of deeds stands (both programs). -/
namespace Go.Proofs.YtedadhoneebfnaaDoor
open Go.RowKit

/-- Where the running stands: the result's block, and the exchange as it is now. -/
structure RnSt (w W : World) (O E M : Int) (nb : Nat) (vq vr : Value) (ps : List ByteArray) (cs : List Cl) : Prop where
 bel : Below w.heap.size w W
 res : Blk W (w.heap.size + 1) #[.int .i64 0, .int .i64 0, .int .i64 0, .slice none 0 0, .slice none 0 0] 74
 nxt : Blk W nb #[.int .i64 O, .int .i64 E, .int .i64 M, vq, vr] 74
 own : ExOwn W (w.heap.size + 2) vq vr ps cs
 ap1 : vq.ownBlock = none ∨ vq.ownBlock ≠ some nb
 ap2 : vr.ownBlock = none ∨ vr.ownBlock ≠ some nb
 big : w.heap.size + 2 ≤ nb
section
variable {w W W' : World} {O E M : Int} {nb : Nat} {vq vr vp' vc' : Value} {ps ps' : List ByteArray} {cs cs' : List Cl}
theorem RnSt.belowAll (h : RnSt w W O E M nb vq vr ps cs) (hb : Below W.heap.size W W') : RnSt w W' O E M nb vq vr ps cs :=
 ⟨h.bel.trans (Below.mono hb h.bel.size), h.res.belowAll hb, h.nxt.belowAll hb, h.own.below hb, h.ap1, h.ap2, h.big⟩
theorem RnSt.alloc (h : RnSt w W O E M nb vq vr ps cs) (o : Obj) : RnSt w (W.alloc o) O E M nb vq vr ps cs :=
 h.belowAll ((Below.refl _ _).alloc (Nat.le_refl _) _)
theorem RnSt.drew (h : RnSt w W O E M nb vq vr ps cs) : RnSt w W.drew O E M nb vq vr ps cs :=
 ⟨h.bel.drew, h.res.drew, h.nxt.drew, h.own.drewN 1, h.ap1, h.ap2, h.big⟩
theorem RnSt.drewN (n : Nat) (h : RnSt w W O E M nb vq vr ps cs) : RnSt w (W.drewN n) O E M nb vq vr ps cs :=
 ⟨below_drewN h.bel _, h.res.drewN _, h.nxt.drewN _, h.own.drewN n, h.ap1, h.ap2, h.big⟩
theorem own_new8 {w : World} {base n : Nat} {E : TypeId} {size : Nat} {v : Value} {xs : List Value} (h : w.ownsRow base E size v n xs) : v.ownBlock = none ∨ v.ownBlock ≠ some w.heap.size := by
 cases hv : v.ownBlock with
 | none => exact .inl rfl
 | some k => exact .inr (fun e => by have := own_lt h k hv; cases e; omega)
theorem far_of {w : World} {base n nb : Nat} {E : TypeId} {size : Nat} {v : Value} {xs : List Value} (h : w.ownsRow base E size v n xs) (hb : nb < base) : v.ownBlock = none ∨ v.ownBlock ≠ some nb := by
 cases hv : v.ownBlock with
 | none => exact .inl rfl
 | some k => exact .inr (fun e => by have := own_ge h k hv; cases e; omega)
/-- Another exchange, made anew, comes in its place. -/
theorem RnSt.next {B : Nat} (h : RnSt w W O E M nb vq vr ps cs) (ho : ExOwn W B vp' vc' ps' cs') (hB : nb < B) :
  RnSt w (((((W.setCell ⟨nb, 0, none⟩ (.int .i64 O)).setCell ⟨nb, 1, none⟩ (.int .i64 E)).setCell ⟨nb, 2, none⟩ (.int .i64 M)).setCell ⟨nb, 3, none⟩ vp').setCell ⟨nb, 4, none⟩ vc') O E M nb vp' vc' ps' cs' := by
 have hbg := h.big
 exact ⟨five_below _ _ _ _ _ h.bel (by omega), (((((h.res.other (by show _ ≠ nb; omega)).other (by show _ ≠ nb; omega)).other (by show _ ≠ nb; omega)).other (by show _ ≠ nb; omega)).other (by show _ ≠ nb; omega)), five_set h.nxt, (ho.result _ _ _ _ _ hB).lower (by omega), far_of ho.plan hB, far_of ho.calls hB, hbg⟩
/-- Handed back. -/
theorem RnSt.back (h : RnSt w W O E M nb vq vr ps cs) (n : Int) : ∃ vp vc, (Ending.returned (.tuple #[.agg #[.int .i64 O, .int .i64 E, .int .i64 M, vq, vr], .int .i64 n])) = .returned (.tuple #[.agg #[.int .i64 O, .int .i64 E, .int .i64 M, vp, vc], .int .i64 n]) ∧ ExOwn (((((W.setCell ⟨w.heap.size + 1, 0, none⟩ (.int .i64 O)).setCell ⟨w.heap.size + 1, 1, none⟩ (.int .i64 E)).setCell ⟨w.heap.size + 1, 2, none⟩ (.int .i64 M)).setCell ⟨w.heap.size + 1, 3, none⟩ vq).setCell ⟨w.heap.size + 1, 4, none⟩ vr) w.heap.size vp vc ps cs ∧ Below w.heap.size w (((((W.setCell ⟨w.heap.size + 1, 0, none⟩ (.int .i64 O)).setCell ⟨w.heap.size + 1, 1, none⟩ (.int .i64 E)).setCell ⟨w.heap.size + 1, 2, none⟩ (.int .i64 M)).setCell ⟨w.heap.size + 1, 3, none⟩ vq).setCell ⟨w.heap.size + 1, 4, none⟩ vr) :=
 ⟨_, _, rfl, (h.own.result _ _ _ _ _ (by omega)).lower (by omega), five_below _ _ _ _ _ h.bel (by omega)⟩
end
def RunPost (r : (Int × Int × Int) × (List ByteArray × List Cl) × Nat) (w : World) (e : Ending) (w' : World) : Prop :=
 ∃ vp vc, e = .returned (.tuple #[.agg #[.int .i64 r.1.1, .int .i64 r.1.2.1, .int .i64 r.1.2.2, vp, vc], .int .i64 r.2.2]) ∧ ExOwn w' w.heap.size vp vc r.2.1.1 r.2.1.2 ∧ Below w.heap.size w w'
end Go.Proofs.YtedadhoneebfnaaDoor

/- Contracts of the laws' helpers on exchanges. -/
namespace Go.Proofs.YtedadhoneebfnaaDoor
open Go.RowKit

end Go.Proofs.YtedadhoneebfnaaDoor

/- The laws' helpers on deeds. -/
namespace Go.Proofs.YtedadhoneebfnaaDoor
open Go.RowKit

set_option maxHeartbeats 400000 in
theorem toExDeed_any (k l : Int) (s : ByteArray) (w : World) :
  Calls Tryd.prog 12 #[.agg #[.int .i64 k, .int .i64 l, .string s]] w fun e w' => e = .returned (.agg #[.int .i64 k, .int .i64 l, .string s]) ∧ Below w.heap.size w w' := by
 go_enter Tryd.func12, Tryd.ntmps12
 go_wp2
 go_returns
 exact ⟨by simp [go_sem], by (exact grownA)⟩

set_option maxHeartbeats 400000 in
theorem szExDeed_gen (k l x : Int) (s : ByteArray) (w : World) (hs : s.size ≤ maxLen) (h0 : 0 ≤ x) (h1 : x ≤ 1048576) :
  Calls Tryd.prog 10 #[.agg #[.int .i64 k, .int .i64 l, .string s], .int .i64 x] w fun e w' => e = .returned (.int .i64 (if (s.size : Int) ≤ x then x - (s.size : Int) else -1)) ∧ Below w.heap.size w w' := by
 unfold maxLen at hs
 by_cases h : (s.size : Int) ≤ x
 ·
  rw [if_pos h]
  go_enter Tryd.func10, Tryd.ntmps10
  go_wp2
  go_returns
  exact ⟨rfl, by (exact grownA)⟩
 ·
  rw [if_neg h]
  go_enter Tryd.func10, Tryd.ntmps10
  go_wp2
  go_returns
  exact ⟨rfl, by (exact grownA)⟩

/-- What is left of a bulk: at least -1 and, if not negative, the deeds were few. -/
def SzOut (n : Nat) (w : World) (e : Ending) (w' : World) : Prop := ∃ z : Int, e = .returned (.int .i64 z) ∧ (0 ≤ z → n ≤ 1048576) ∧ Below w.heap.size w w'

set_option maxRecDepth 100000 in
set_option maxHeartbeats 1000000 in
theorem szExDeedS_any (v : Value) (zs : List Ded) (x0 : Int) (w : World) (hv : Rds w v zs.length 3 (dcells zs)) (hs : ∀ d ∈ zs, d.2.2.size ≤ maxLen) (h0 : 0 ≤ x0) (h1 : x0 ≤ 1048576) :
  Calls Tryd.prog 14 #[v, .int .i64 x0] w (SzOut zs.length w) := by
 obtain ⟨hl1, hm1, a, ca, rfl, hn1, hc1⟩ := hv
 unfold maxLen at hm1
 unfold SzOut
 obtain ⟨n, hn⟩ : ∃ n, zs.length = n := ⟨_, rfl⟩
 rw [hn] at hm1 hn1 hc1 ⊢
 have HN := Lib.hid hn
 have HS := Lib.hid hs
 clear hn hl1 hs
 by_cases hbig : x0 < (n : Int)
 ·
  clear hc1
  go_enter Tryd.func14, Tryd.ntmps14
  go_wp2
  go_returns
  exact ⟨-1, rfl, by omega, Below.refl _ _⟩
 ·
  go_enter Tryd.func14, Tryd.ntmps14
  go_wp2_with fail
  go_loopw [1, 5] (fun t i wr => ∃ (k : Nat) (x : Int), k ≤ n ∧ i = .int .i64 k ∧ t = .int .i64 x ∧ 0 ≤ x ∧ x ≤ 1048576 ∧ Below w.heap.size w wr) (fun _ i _ => n - (intOf i).toNat)
  case atStart => exact ⟨0, x0 - n, by omega, rfl, rfl, by omega, by omega, Below.refl _ _⟩
  case round =>
   obtain ⟨k, x, hk, rfl, rfl, hx0, hx1, hbel⟩ := hrel
   by_cases hkn : k < n
   ·
    rcases hc1 with hc1 | ⟨b1, o1, rfl, hb1, hc1⟩
    ·
     omega
    obtain ⟨z, hz⟩ : ∃ z, zs[k]? = some z := ⟨_, List.getElem?_eq_getElem (by rw [HN.out]; omega)⟩
    obtain ⟨g1, g2, g3⟩ := dcells_at zs k z hz
    have c1 : wr.cell? ⟨b1, o1 + k * 3, none⟩ = some (.int .i64 z.1) := by rw [hbel.cell (p := ⟨b1, o1 + k * 3, none⟩) hb1, hc1 _ (by omega), g1]
    have c2 : wr.cell? ⟨b1, o1 + k * 3 + 1, none⟩ = some (.int .i64 z.2.1) := by rw [Nat.add_assoc, hbel.cell (p := ⟨b1, o1 + (k * 3 + 1), none⟩) hb1, hc1 _ (by omega), g2]
    have c3 : wr.cell? ⟨b1, o1 + k * 3 + 2, none⟩ = some (.string z.2.2) := by rw [Nat.add_assoc, hbel.cell (p := ⟨b1, o1 + (k * 3 + 2), none⟩) hb1, hc1 _ (by omega), g3]
    have hzs := HS.out z (List.mem_of_getElem? hz)
    clear hz hc1 g1 g2 g3
    go_wp2_with fail
    refine (szExDeed_gen z.1 z.2.1 x z.2.2 _ hzs hx0 hx1).mono ?_
    rintro e w1 ⟨rfl, hb⟩
    have hbel1 : Below w.heap.size w w1 := by (exact grownA)
    by_cases hle : (z.2.2.size : Int) ≤ x
    ·
     rw [if_pos hle]
     obtain ⟨y, hy⟩ : ∃ y, x - (z.2.2.size : Int) = y := ⟨_, rfl⟩
     rw [hy]
     have hy0 : 0 ≤ y := by omega
     have hy1 : y ≤ 1048576 := by omega
     clear hy hle
     go_wp2_with fail
     go_roundw
     case rel => exact ⟨k + 1, y, by omega, by go_num, rfl, hy0, hy1, by (exact grownA)⟩
     case measure => simp [intOf]; omega
    ·
     rw [if_neg hle]
     go_wp2
     go_returns
     exact ⟨-1, rfl, by omega, hbel1⟩
   ·
    go_wp2
    go_returns
    exact ⟨x, rfl, by omega, hbel⟩

set_option maxHeartbeats 1000000 in
theorem toExDeedS_any (v : Value) (cs : List Ded) (w : World) (hv : Rds w v cs.length 3 (dcells cs)) (hlen : cs.length ≤ 1048576) :
  Calls Tryd.prog 16 #[v] w (Made3 26 (dcells cs) cs.length w) := by
 obtain ⟨hl1, hm1, a, ca, rfl, hn1, hc1⟩ := hv
 unfold maxLen at hm1
 obtain ⟨i0, hi, hz0, hz1, hz2⟩ := info_parts infoD
 unfold Made3
 obtain ⟨n, hn⟩ : ∃ n, cs.length = n := ⟨_, rfl⟩
 rw [hn] at hm1 hn1 hc1 hlen ⊢
 have HN := Lib.hid hn
 clear hn hl1
 go_enter Tryd.func16, Tryd.ntmps16
 go_wp2_with (refine wpList_make_full _ rfl _ _ 32 rfl w.heap.size 26 i0 _ 3 Tryd.underlying32 hi hz0 hz1 .i64 .i64 _ _ n rfl rfl rfl rfl (by rw [hz2]; omega) (by unfold maxLen; omega) (Nat.le_refl _) ?_; intro w1 hown hgr)
 rw [dcells_zero] at hown
 obtain ⟨hO, -⟩ := Own.of hown
 have hB : Below w.heap.size w w1 := (Below.refl w.heap.size w).grown hgr (Nat.le_refl _) (by intro k hk; cases hk)
 clear hown hgr
 go_wp2_with fail
 go_loopw [4] (fun i wr => ∃ (k : Nat), k ≤ n ∧ i = .int .i64 k ∧ Own wr w.heap.size n n 26 3 (dcells (ovTo (0, 0, ByteArray.empty) cs k)) ∧ Below w.heap.size w wr) (fun i _ => n - (intOf i).toNat)
 case atStart => exact ⟨0, by omega, rfl, by rw [ovTo_zero, HN.out]; exact hO, hB⟩
 case round =>
  obtain ⟨k, hk, rfl, hown, hbel⟩ := hrel
  by_cases hkn : k < n
  ·
   rcases hc1 with hc1 | ⟨b, off, rfl, hb, hc1⟩
   ·
    omega
   obtain ⟨c, hr⟩ : ∃ r, cs[k]? = some r := ⟨_, List.getElem?_eq_getElem (by rw [HN.out]; omega)⟩
   obtain ⟨g1, g2, g3⟩ := dcells_at cs k c hr
   have c1 : wr.cell? ⟨b, off + k * 3, none⟩ = some (.int .i64 c.1) := by rw [hbel.cell (p := ⟨b, off + k * 3, none⟩) hb, hc1 _ (by omega), g1]
   have c2 : wr.cell? ⟨b, off + k * 3 + 1, none⟩ = some (.int .i64 c.2.1) := by rw [Nat.add_assoc, hbel.cell (p := ⟨b, off + (k * 3 + 1), none⟩) hb, hc1 _ (by omega), g2]
   have c3 : wr.cell? ⟨b, off + k * 3 + 2, none⟩ = some (.string c.2.2) := by rw [Nat.add_assoc, hbel.cell (p := ⟨b, off + (k * 3 + 2), none⟩) hb, hc1 _ (by omega), g3]
   have HR := Lib.hid hr
   clear hc1 hr g1 g2 g3
   have hlt := hown.lt
   go_wp2_with fail
   refine (toExDeed_any c.1 c.2.1 c.2.2 _).mono ?_
   rintro e w2 ⟨rfl, hb2⟩
   have hown2 := hown.below hb2 hlt
   have hlt2 := hown2.lt
   obtain ⟨y, hy⟩ : ∃ y, (ovTo (0, 0, ByteArray.empty) cs k)[k]? = some y := ⟨_, List.getElem?_eq_getElem (by rw [ovTo_len _ _ _ (by rw [HN.out]; omega), HN.out]; omega)⟩
   obtain ⟨y1, y2, y3⟩ := dcells_at _ _ _ hy
   have d1 := hown2.cell (k * 3) (by omega)
   rw [y1] at d1
   have d2 := hown2.cell (k * 3 + 1) (by omega)
   rw [y2] at d2
   have d3 := hown2.cell (k * 3 + 2) (by omega)
   rw [y3] at d3
   have f1 := hown2.free (k * 3)
   have f2 := hown2.free (k * 3 + 1)
   have f3 := hown2.free (k * 3 + 2)
   clear hown hy y1 y2 y3
   go_wp2_with fail
   go_roundw
   case rel =>
    refine ⟨k + 1, by omega, by go_num, ?_, by (exact grownA)⟩
    rw [← ovTo_set _ _ _ _ HR.out, ← dcells_set _ _ _ (by rw [ovTo_len _ _ _ (by rw [HN.out]; omega), HN.out]; omega)]
    (exact ownA)
   case measure => simp [intOf]; omega
  ·
   obtain rfl : k = n := by omega
   go_wp2
   go_returns
   have := ovTo_all (0, 0, ByteArray.empty) cs
   rw [HN.out] at this
   rw [this] at hown
   exact ⟨_, rfl, Nat.le_refl _, hown, hbel⟩


end Go.Proofs.YtedadhoneebfnaaDoor
