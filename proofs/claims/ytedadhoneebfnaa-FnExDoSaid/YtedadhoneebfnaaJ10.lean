/- Joined texts: Ru, Eh, Db, Lw, Rx. -/
import Derived.Test.YtedadhoneebfnaaDg
import Derived.Test.YtedadhoneebfnaaJ1
import Derived.Test.YtedadhoneebfnaaJ5
import Derived.Test.YtedadhoneebfnaaJ4
import Derived.StillTailTactics
import Derived.Test.YtedadhoneebfnaaJ2
set_option linter.unusedSimpArgs false
set_option linter.unusedVariables false
/- Where the running of deeds stands (both programs). -/
namespace Go.Proofs.Ytedadhoneebfnaa
open Go.RowKit

/-- One deed more: what ExDo leaves, as the plain step. -/
def StepQ (O E M : Int) (ps : List ByteArray) (cs : List Cl) (n : Nat) (d : Dd) (w : World) (e : Ending) (w' : World) : Prop :=
 ∃ vp vc b ps' cs' n', e = .returned (.tuple #[.agg #[.int .i64 O, .int .i64 E, .int .i64 M, vp, vc], .bool b]) ∧ stepL E M ((ps, cs), n) d = ((ps', cs'), n') ∧ ExOwn w' w.heap.size vp vc ps' cs' ∧ Below w.heap.size w w' ∧ (b = true ∧ n' = n + 1 ∨ b = false ∧ n' = n ∧ ps' = ps ∧ cs' = cs)
theorem doXQ_step {O E M : Int} {ps : List ByteArray} {cs : List Cl} (n : Nat) {d : Dd} {w : World} {e : Ending} {w' : World} (h : ExOk O E M ps cs) (hq : doXQ O E M ps cs d.1 d.2.1 d.2.2 w e w') : StepQ O E M ps cs n d w e w' := by
 unfold doXQ at hq
 rw [if_pos ((exB_iff _ _ _ _ _).2 h)] at hq
 unfold StepQ stepL
 simp only
 cases hr : doL E M ps cs d.1 d.2.1 d.2.2 with
 | none =>
  rw [hr] at hq
  obtain ⟨vp, vc, h1, h2, h3⟩ := hq
  exact ⟨vp, vc, false, ps, cs, n, h1, rfl, h2, h3, .inr ⟨rfl, rfl, rfl, rfl⟩⟩
 | some y =>
  rw [hr] at hq
  obtain ⟨vp, vc, h1, h2, h3⟩ := hq
  exact ⟨vp, vc, true, y.1, y.2, n + 1, h1, rfl, h2, h3, .inl ⟨rfl, rfl⟩⟩
theorem step_ok2 {O E M : Int} {ps ps' : List ByteArray} {cs cs' : List Cl} {n n' : Nat} {d : Dd} (h : ExOk O E M ps cs) (hs : stepL E M ((ps, cs), n) d = ((ps', cs'), n')) : ExOk O E M ps' cs' := by
 have := step_ok (x := ((ps, cs), n)) (d := d) h
 rw [hs] at this
 exact this
theorem ExOk.lens {O E M : Int} {ps : List ByteArray} {cs : List Cl} (h : ExOk O E M ps cs) : StLen ps := by
 intro k s hs
 have := h.plan.at k s hs
 have := numB_size this
 unfold maxLen
 omega


/-- Where the running stands: the result's block, and the exchange as it is now. -/
structure RnSt (w W : World) (O E M : Int) (nb : Nat) (vq vr : Value) (ps : List ByteArray) (cs : List Cl) : Prop where
 bel : Below w.heap.size w W
 res : Blk W (w.heap.size + 1) #[.int .i64 0, .int .i64 0, .int .i64 0, .slice none 0 0, .slice none 0 0] 33
 nxt : Blk W nb #[.int .i64 O, .int .i64 E, .int .i64 M, vq, vr] 33
 own : ExOwn W (w.heap.size + 2) vq vr ps cs
 ap1 : vq.ownBlock = none ∨ vq.ownBlock ≠ some nb
 ap2 : vr.ownBlock = none ∨ vr.ownBlock ≠ some nb
 big : w.heap.size + 2 ≤ nb
section
variable {w W W' : World} {O E M : Int} {nb : Nat} {vq vr vp' vc' : Value} {ps ps' : List ByteArray} {cs cs' : List Cl}
theorem RnSt.belowAll (h : RnSt w W O E M nb vq vr ps cs) (hb : Below W.heap.size W W') : RnSt w W' O E M nb vq vr ps cs :=
 ⟨h.bel.trans (Below.mono hb h.bel.size), h.res.belowAll hb, h.nxt.belowAll hb, h.own.below hb, h.ap1, h.ap2, h.big⟩
theorem RnSt.alloc (h : RnSt w W O E M nb vq vr ps cs) (o : Obj) : RnSt w (W.alloc o) O E M nb vq vr ps cs :=
 h.belowAll ((Below.refl _ _).alloc (Nat.le_refl _) _)
theorem RnSt.drew (h : RnSt w W O E M nb vq vr ps cs) : RnSt w W.drew O E M nb vq vr ps cs :=
 ⟨h.bel.drew, h.res.drew, h.nxt.drew, h.own.drewN 1, h.ap1, h.ap2, h.big⟩
theorem RnSt.drewN (n : Nat) (h : RnSt w W O E M nb vq vr ps cs) : RnSt w (W.drewN n) O E M nb vq vr ps cs :=
 ⟨below_drewN h.bel _, h.res.drewN _, h.nxt.drewN _, h.own.drewN n, h.ap1, h.ap2, h.big⟩
theorem own_new8 {w : World} {base n : Nat} {E : TypeId} {size : Nat} {v : Value} {xs : List Value} (h : w.ownsRow base E size v n xs) : v.ownBlock = none ∨ v.ownBlock ≠ some w.heap.size := by
 cases hv : v.ownBlock with
 | none => exact .inl rfl
 | some k => exact .inr (fun e => by have := own_lt h k hv; cases e; omega)
theorem far_of {w : World} {base n nb : Nat} {E : TypeId} {size : Nat} {v : Value} {xs : List Value} (h : w.ownsRow base E size v n xs) (hb : nb < base) : v.ownBlock = none ∨ v.ownBlock ≠ some nb := by
 cases hv : v.ownBlock with
 | none => exact .inl rfl
 | some k => exact .inr (fun e => by have := own_ge h k hv; cases e; omega)
/-- Another exchange, made anew, comes in its place. -/
theorem RnSt.next {B : Nat} (h : RnSt w W O E M nb vq vr ps cs) (ho : ExOwn W B vp' vc' ps' cs') (hB : nb < B) :
  RnSt w (((((W.setCell ⟨nb, 0, none⟩ (.int .i64 O)).setCell ⟨nb, 1, none⟩ (.int .i64 E)).setCell ⟨nb, 2, none⟩ (.int .i64 M)).setCell ⟨nb, 3, none⟩ vp').setCell ⟨nb, 4, none⟩ vc') O E M nb vp' vc' ps' cs' := by
 have hbg := h.big
 exact ⟨five_below _ _ _ _ _ h.bel (by omega), (((((h.res.other (by show _ ≠ nb; omega)).other (by show _ ≠ nb; omega)).other (by show _ ≠ nb; omega)).other (by show _ ≠ nb; omega)).other (by show _ ≠ nb; omega)), five_set h.nxt, (ho.result _ _ _ _ _ hB).lower (by omega), far_of ho.plan hB, far_of ho.calls hB, hbg⟩
/-- Handed back. -/
theorem RnSt.back (h : RnSt w W O E M nb vq vr ps cs) (n : Int) : ∃ vp vc, (Ending.returned (.tuple #[.agg #[.int .i64 O, .int .i64 E, .int .i64 M, vq, vr], .int .i64 n])) = .returned (.tuple #[.agg #[.int .i64 O, .int .i64 E, .int .i64 M, vp, vc], .int .i64 n]) ∧ ExOwn (((((W.setCell ⟨w.heap.size + 1, 0, none⟩ (.int .i64 O)).setCell ⟨w.heap.size + 1, 1, none⟩ (.int .i64 E)).setCell ⟨w.heap.size + 1, 2, none⟩ (.int .i64 M)).setCell ⟨w.heap.size + 1, 3, none⟩ vq).setCell ⟨w.heap.size + 1, 4, none⟩ vr) w.heap.size vp vc ps cs ∧ Below w.heap.size w (((((W.setCell ⟨w.heap.size + 1, 0, none⟩ (.int .i64 O)).setCell ⟨w.heap.size + 1, 1, none⟩ (.int .i64 E)).setCell ⟨w.heap.size + 1, 2, none⟩ (.int .i64 M)).setCell ⟨w.heap.size + 1, 3, none⟩ vq).setCell ⟨w.heap.size + 1, 4, none⟩ vr) :=
 ⟨_, _, rfl, (h.own.result _ _ _ _ _ (by omega)).lower (by omega), five_below _ _ _ _ _ h.bel (by omega)⟩
end
/-- What ExRun leaves. -/
noncomputable def runX (O E M : Int) (ps : List ByteArray) (cs : List Cl) (ds : List Dd) : (Int × Int × Int) × (List ByteArray × List Cl) × Nat := if exB O E M ps cs = true then ((O, E, M), runL E M ps cs ds) else ((0, 0, 0), ([], []), 0)
def RunPost (r : (Int × Int × Int) × (List ByteArray × List Cl) × Nat) (w : World) (e : Ending) (w' : World) : Prop :=
 ∃ vp vc, e = .returned (.tuple #[.agg #[.int .i64 r.1.1, .int .i64 r.1.2.1, .int .i64 r.1.2.2, vp, vc], .int .i64 r.2.2]) ∧ ExOwn w' w.heap.size vp vc r.2.1.1 r.2.1.2 ∧ Below w.heap.size w w'
theorem runX_no {O E M : Int} {ps : List ByteArray} {cs : List Cl} {ds : List Dd} (h : exB O E M ps cs = false) : runX O E M ps cs ds = ((0, 0, 0), ([], []), 0) := by unfold runX; rw [h]; rfl
theorem runX_yes {O E M : Int} {ps : List ByteArray} {cs : List Cl} {ds : List Dd} (h : exB O E M ps cs = true) : runX O E M ps cs ds = ((O, E, M), runL E M ps cs ds) := by unfold runX; rw [h]; rfl

end Go.Proofs.Ytedadhoneebfnaa

/- Contracts of the laws' helpers on exchanges. -/
namespace Go.Proofs.Ytedadhoneebfnaa
open Go.RowKit

/-- What szExchange leaves. -/
def SzePost (ps : List ByteArray) (cs : List Cl) (w : World) (e : Ending) (w' : World) : Prop :=
 ∃ x : Int, e = .returned (.int .i64 x) ∧ -1 ≤ x ∧ x ≤ 1048576 ∧ (0 ≤ x → ps.length ≤ 1048576 ∧ cs.length ≤ 1048576) ∧ Below w.heap.size w w'
set_option maxHeartbeats 400000 in
theorem szExchange_any (O E M : Int) (vp vc : Value) (ps : List ByteArray) (cs : List Cl) (w : World) (hR : ExRd w vp vc ps cs) (hL : StLen ps) :
  Calls Try.prog 17 #[.agg #[.int .i64 O, .int .i64 E, .int .i64 M, vp, vc], .int .i64 1048576] w (SzePost ps cs w) := by
 have hb0 : Below w.heap.size w (w.alloc (.cells #[.int .i64 O, .int .i64 E, .int .i64 M, vp, vc] 27)) := by (exact grownA)
 have HR := Lib.hid (hR.below hb0)
 obtain ⟨a1, c1, rfl, _⟩ := hR.plan.open1
 obtain ⟨_, _, a2, c2, rfl, _⟩ := hR.calls
 have HL := Lib.hid hL
 clear hL hR
 go_enter Try.func17, Try.ntmps17
 go_wp2_with fail
 refine (szStringS_any _ ps _ HR.out.plan HL.out).mono ?_
 rintro e w1 ⟨x, rfl, hx0, hx1, hx2, rfl⟩
 by_cases hx : 0 ≤ x
 ·
  have HX := Lib.hid (hx2 hx).1
  clear hx2
  go_wp2_with fail
  refine (szCallS_any _ cs x _ HR.out.calls hx hx1).mono ?_
  rintro e w2 ⟨rfl, rfl⟩
  by_cases hc : x < (cs.length : Int)
  ·
   rw [if_pos hc]
   go_wp2
   go_returns
   exact ⟨-1, rfl, by omega, by omega, fun h => absurd h (by omega), hb0⟩
  ·
   rw [if_neg hc]
   have hc2 : ¬ x - (cs.length : Int) < 0 := by omega
   go_wp2
   go_returns
   exact ⟨_, rfl, by omega, by omega, fun _ => ⟨HX.out, by omega⟩, hb0⟩
 ·
  clear hx2
  go_wp2
  go_returns
  exact ⟨-1, rfl, by omega, by omega, fun h => absurd h (by omega), hb0⟩

/-- What toExchange leaves. -/
def ToePost (O E M : Int) (ps : List ByteArray) (cs : List Cl) (w : World) (e : Ending) (w' : World) : Prop :=
 ∃ g h : Nat, e = .returned (.agg #[.int .i64 O, .int .i64 E, .int .i64 M, .slice (some ⟨g, 0, none⟩) ps.length ps.length, .slice (some ⟨h, 0, none⟩) cs.length cs.length]) ∧
  ExOwn w' w.heap.size (.slice (some ⟨g, 0, none⟩) ps.length ps.length) (.slice (some ⟨h, 0, none⟩) cs.length cs.length) ps cs ∧ Below w.heap.size w w'
set_option maxHeartbeats 1000000 in
theorem toExchange_any (O E M : Int) (vp vc : Value) (ps : List ByteArray) (cs : List Cl) (w : World) (hR : ExRd w vp vc ps cs) (hp : ps.length ≤ 1048576) (hc : cs.length ≤ 1048576) :
  Calls Try.prog 19 #[.agg #[.int .i64 O, .int .i64 E, .int .i64 M, vp, vc]] w (ToePost O E M ps cs w) := by
 obtain ⟨a1, c1, rfl, hl1, hm1, hn1, _⟩ := hR.plan.open1
 obtain ⟨_, hm2, a2, c2, rfl, hn2, _⟩ := hR.calls
 unfold maxLen at hm1 hm2
 have HR := Lib.hid hR
 have HP := Lib.hid hp
 have HC := Lib.hid hc
 obtain ⟨n, hn⟩ : ∃ n, ps.length = n := ⟨_, rfl⟩
 obtain ⟨m, hm⟩ : ∃ m, cs.length = m := ⟨_, rfl⟩
 unfold ToePost
 rw [hn, hm] at HR ⊢
 rw [hn] at hm1 hn1 HP
 rw [hm] at hm2 hn2 HC
 have HN := Lib.hid hn
 have HM := Lib.hid hm
 clear hR hp hc hl1 hn hm
 have hB := ((Blk.new (w := w) (cs := #[.int .i64 O, .int .i64 E, .int .i64 M, .slice a1 n c1, .slice a2 m c2]) (T := 27) rfl).alloc (.cells #[.int .i64 0, .int .i64 0, .int .i64 0, .slice none 0 0, .slice none 0 0] 33)).alloc (.cells #[.int .i64 0, .int .i64 0, .int .i64 0, .slice none 0 0, .slice none 0 0] 33)
 have hR1 := (Blk.new (w := w.alloc (.cells #[.int .i64 O, .int .i64 E, .int .i64 M, .slice a1 n c1, .slice a2 m c2] 27)) (cs := #[.int .i64 0, .int .i64 0, .int .i64 0, .slice none 0 0, .slice none 0 0]) (T := 33) (b := w.heap.size + 1) (by simp)).alloc (.cells #[.int .i64 0, .int .i64 0, .int .i64 0, .slice none 0 0, .slice none 0 0] 33)
 have hO1 := Blk.new (w := (w.alloc (.cells #[.int .i64 O, .int .i64 E, .int .i64 M, .slice a1 n c1, .slice a2 m c2] 27)).alloc (.cells #[.int .i64 0, .int .i64 0, .int .i64 0, .slice none 0 0, .slice none 0 0] 33)) (cs := #[.int .i64 0, .int .i64 0, .int .i64 0, .slice none 0 0, .slice none 0 0]) (T := 33) (b := w.heap.size + 1 + 1) (by simp)
 go_enter Try.func19, Try.ntmps19
 go_wp2_with fail
 refine (toShape_any O E M _).mono ?_
 rintro e w1 ⟨rfl, hb1⟩
 have hbel1 : Below w.heap.size w w1 := by (exact grownA)
 have hz1 := hb1.size
 simp only [World.size_alloc] at hz1
 have hB1 := hB.belowAll hb1
 have hR2 := hR1.belowAll hb1
 have hO2 := hO1.belowAll hb1
 clear hB hR1 hO1 hb1
 obtain ⟨p0, p1, p2, p3, p4, _, _, _, _, _, plt⟩ := hB1.five
 obtain ⟨q0, q1, q2, q3, q4, k0, k1, k2, k3, k4, qlt⟩ := hO2.five
 go_wp2_with fail
 refine (toStringS_any (.slice a1 n c1) ps _ ?_ (by rw [HN.out]; exact HP.out)).mono ?_
 ·
  refine Rds.below ?_ (by have := HR.out.plan; exact this)
  (exact grownA)
 rintro e w2 ⟨g, rfl, hg, hOg, hb2⟩
 rw [HN.out] at hOg ⊢
 have hbel2 : Below w.heap.size w w2 := by (exact grownA)
 have hz2 := hb2.size
 simp only [World.size_setCell] at hz2 hg
 have hB2 : Blk w2 w.heap.size #[.int .i64 O, .int .i64 E, .int .i64 M, .slice a1 n c1, .slice a2 m c2] 27 := by (refine Blk.belowAll ?_ hb2; (exact blkA))
 have hR3 : Blk w2 (w.heap.size + 1) #[.int .i64 0, .int .i64 0, .int .i64 0, .slice none 0 0, .slice none 0 0] 33 := by (refine Blk.belowAll ?_ hb2; (exact blkA))
 have hO3 : Blk w2 (w.heap.size + 1 + 1) #[.int .i64 O, .int .i64 E, .int .i64 M, .slice none 0 0, .slice none 0 0] 33 := by (refine Blk.belowAll ?_ hb2; (exact blkA))
 clear hb2 hB1 hR2 hO2 p0 p1 p2 p3 p4 plt q0 q1 q2 q3 q4 k0 k1 k2 k3 k4 qlt
 obtain ⟨p0, p1, p2, p3, p4, _, _, _, _, _, plt⟩ := hB2.five
 obtain ⟨q0, q1, q2, q3, q4, k0, k1, k2, k3, k4, qlt⟩ := hO3.five
 go_wp2_with fail
 refine (toCallS_any (.slice a2 m c2) cs _ ?_ (by rw [HM.out]; exact HC.out)).mono ?_
 ·
  refine Rds.below ?_ (by have := HR.out.calls; exact this)
  (exact grownA)
 rintro e w3 ⟨h, rfl, hh, hOh, hb3⟩
 rw [HM.out] at hOh ⊢
 have hbel3 : Below w.heap.size w w3 := by (exact grownA)
 have hz3 := hb3.size
 simp only [World.size_setCell] at hz3 hh
 have hR4 : Blk w3 (w.heap.size + 1) #[.int .i64 0, .int .i64 0, .int .i64 0, .slice none 0 0, .slice none 0 0] 33 := by (refine Blk.belowAll ?_ hb3; (exact blkA))
 have hO4 : Blk w3 (w.heap.size + 1 + 1) #[.int .i64 O, .int .i64 E, .int .i64 M, .slice (some ⟨g, 0, none⟩) n n, .slice none 0 0] 33 := by (refine Blk.belowAll ?_ hb3; (exact blkA))
 have hOg3 : Own w3 g n n 9 1 (strs ps) := by
  have := hOg.lt
  refine Own.below hb3 (by simp; omega) (Own.other (by simp; omega) hOg)
 have hOgl := hOg.lt
 clear hb3 hB2 hR3 hO3 p0 p1 p2 p3 p4 plt q0 q1 q2 q3 q4 k0 k1 k2 k3 k4 qlt hOg
 obtain ⟨p0, p1, p2, p3, p4, l0, l1, l2, l3, l4, plt⟩ := hR4.five
 obtain ⟨q0, q1, q2, q3, q4, k0, k1, k2, k3, k4, qlt⟩ := hO4.five
 have hgh : g ≠ h := by omega
 have hlt3 := hR4.lt
 go_wp2
 refine bodyPost_ret (v := .agg #[.int .i64 O, .int .i64 E, .int .i64 M, .slice (some ⟨g, 0, none⟩) n n, .slice (some ⟨h, 0, none⟩) m m]) (by simp [results, Try.results19, go_sem, p0, p1, p2, p3, p4]) rfl ⟨g, h, rfl, ⟨?_, ?_, .inr (by simp [Value.ownBlock]; omega)⟩, by (exact grownA)⟩
 ·
  rw [HN.out]
  apply Own.back
  ·
   (exact ownA)
  ·
   omega
 ·
  rw [HM.out]
  apply Own.back
  ·
   (exact ownA)
  ·
   omega

set_option maxHeartbeats 400000 in
theorem eqExchange_any (O E M O' E' M' : Int) (vp vc up uc : Value) (ps qs : List ByteArray) (cs ds : List Cl) (w : World) (h1 : ExRd w vp vc ps cs) (h2 : ExRd w up uc qs ds) :
  Calls Try.prog 21 #[.agg #[.int .i64 O, .int .i64 E, .int .i64 M, vp, vc], .agg #[.int .i64 O', .int .i64 E', .int .i64 M', up, uc]] w
   fun e w' => e = .returned (.bool (decide ((O, E, M) = (O', E', M')) && (decide (ps = qs) && decide (cs = ds)))) ∧ Below w.heap.size w w' := by
 have hB1 := (Blk.new (w := w) (cs := #[.int .i64 O, .int .i64 E, .int .i64 M, vp, vc]) (T := 33) rfl).alloc (.cells #[.int .i64 O', .int .i64 E', .int .i64 M', up, uc] 33)
 have hB2 := Blk.new (w := w.alloc (.cells #[.int .i64 O, .int .i64 E, .int .i64 M, vp, vc] 33)) (cs := #[.int .i64 O', .int .i64 E', .int .i64 M', up, uc]) (T := 33) (b := w.heap.size + 1) (by simp)
 obtain ⟨a1, c1, rfl, _⟩ := h1.plan.open1
 obtain ⟨_, _, a2, c2, rfl, _⟩ := h1.calls
 obtain ⟨a3, c3, rfl, _⟩ := h2.plan.open1
 obtain ⟨_, _, a4, c4, rfl, _⟩ := h2.calls
 have H1 := Lib.hid h1
 have H2 := Lib.hid h2
 clear h1 h2
 go_enter Try.func21, Try.ntmps21
 go_wp2_with fail
 refine (eqShape_any O E M O' E' M' _).mono ?_
 rintro e w1 ⟨rfl, hb1⟩
 have hbel1 : Below w.heap.size w w1 := by (exact grownA)
 have hB3 := hB1.belowAll hb1
 have hB4 := hB2.belowAll hb1
 clear hb1 hB1 hB2
 obtain ⟨d1, hd1⟩ : ∃ d, decide ((O, E, M) = (O', E', M')) = d := ⟨_, rfl⟩
 have HD1 := Lib.hid hd1
 rw [hd1]
 clear hd1
 cases d1
 ·
  go_wp2
  go_returns
  exact ⟨by rw [HD1.out]; rfl, hbel1⟩
 ·
  obtain ⟨p0, p1, p2, p3, p4, _, _, _, _, _, plt⟩ := hB3.five
  obtain ⟨q0, q1, q2, q3, q4, _, _, _, _, _, qlt⟩ := hB4.five
  go_wp2_with fail
  refine (eqStringS_any _ _ ps qs _ (H1.out.plan.below hbel1) (H2.out.plan.below hbel1)).mono ?_
  rintro e w2 ⟨rfl, hb2⟩
  have hbel2 : Below w.heap.size w w2 := by (exact grownA)
  have hB5 := hB3.belowAll hb2
  have hB6 := hB4.belowAll hb2
  clear hb2 hB3 hB4 p0 p1 p2 p3 p4 plt q0 q1 q2 q3 q4 qlt
  obtain ⟨d1, hd1⟩ : ∃ d, decide (ps = qs) = d := ⟨_, rfl⟩
  have HD2 := Lib.hid hd1
  rw [hd1]
  clear hd1
  cases d1
  ·
   go_wp2
   go_returns
   exact ⟨by rw [HD1.out, HD2.out]; rfl, hbel2⟩
  ·
   obtain ⟨p0, p1, p2, p3, p4, _, _, _, _, _, plt⟩ := hB5.five
   obtain ⟨q0, q1, q2, q3, q4, _, _, _, _, _, qlt⟩ := hB6.five
   go_wp2_with fail
   refine (eqCallS_any _ _ cs ds _ (H1.out.calls.below hbel2) (H2.out.calls.below hbel2)).mono ?_
   rintro e w3 ⟨rfl, hb3⟩
   have hbel3 : Below w.heap.size w w3 := by (exact grownA)
   clear hb3 hB5 hB6 p0 p1 p2 p3 p4 plt q0 q1 q2 q3 q4 qlt
   obtain ⟨d1, hd1⟩ : ∃ d, decide (cs = ds) = d := ⟨_, rfl⟩
   have HD3 := Lib.hid hd1
   rw [hd1]
   clear hd1
   cases d1
   ·
    go_wp2
    go_returns
    exact ⟨by rw [HD1.out, HD2.out, HD3.out]; rfl, hbel3⟩
   ·
    go_wp2
    go_returns
    exact ⟨by rw [HD1.out, HD2.out, HD3.out]; rfl, hbel3⟩


set_option maxHeartbeats 400000 in
theorem markExchange_any (O E M : Int) (base : Nat) (vp vc : Value) (ps : List ByteArray) (cs : List Cl) (k : Nat) (w : World) (h1 : ExOwn w base vp vc ps cs) (hk0 : 0 < k) (hk : k ≤ 1000000) (hp : ps.length ≤ 10000000) (hc : cs.length ≤ 10000000) :
  Calls Try.prog 33 #[.agg #[.int .i64 O, .int .i64 E, .int .i64 M, vp, vc], .int .i64 k] w
   fun e w' => e = .returned (.int .i64 (k + ps.length + 3 * cs.length : Nat)) ∧ ExOwn w' base vp vc (smarks k ps.length) (cmarks (k + ps.length) cs.length) ∧ Gb2 w w' vp.ownBlock vc.ownBlock := by
 have hB := Blk.new (w := w) (cs := #[.int .i64 O, .int .i64 E, .int .i64 M, vp, vc]) (T := 33) rfl
 have hg0 : w.grownBy (w.alloc (.cells #[.int .i64 O, .int .i64 E, .int .i64 M, vp, vc] 33)) vp.ownBlock := gb_alloc (World.grownBy.refl _ _)
 have o1 := h1.plan.alloc (.cells #[.int .i64 O, .int .i64 E, .int .i64 M, vp, vc] 33)
 have o2 := h1.calls.alloc (.cells #[.int .i64 O, .int .i64 E, .int .i64 M, vp, vc] 33)
 have hlp := own_lt h1.plan
 have hlc := own_lt h1.calls
 have HA := Lib.hid h1.apart
 obtain ⟨p0, p1, p2, p3, p4, _, _, _, _, _, plt⟩ := hB.five
 clear h1
 go_enter Try.func33, Try.ntmps33
 go_wp2_with fail
 refine (markStrs_any base vp ps.length ps k _ o1 hk0 hk hp).mono ?_
 rintro e w1 ⟨rfl, ho1, hg1⟩
 have hgA := gb_trans hg0 hg1
 have hBl : Blk w1 w.heap.size #[.int .i64 O, .int .i64 E, .int .i64 M, vp, vc] 33 := by
  unfold Blk at hB ⊢
  rw [hg1.block w.heap.size (by simp) (by intro e; have := hlp _ e.symm; omega)]
  exact hB
 have o3 := o2.kept hg1 (by
  rcases HA.out with h | h
  ·
   cases hv : Value.ownBlock vc with
   | none => exact .inl rfl
   | some x => rw [h]; exact .inr (by simp)
  ·
   exact .inr fun e => h e.symm)
 clear hB p0 p1 p2 p3 p4 plt o1 o2 hg0
 obtain ⟨p0, p1, p2, p3, p4, _, _, _, _, _, plt⟩ := hBl.five
 go_wp2_with fail
 refine (markCalls_any base vc cs.length cs (k + ps.length) _ o3 (by omega) (by omega) hc).mono ?_
 rintro e w2 ⟨rfl, ho2, hg2⟩
 have o4 := ho1.kept hg2 HA.out
 go_wp2
 go_returns
 refine ⟨rfl, ⟨?_, ?_, HA.out⟩, w1, hgA, hg2⟩
 ·
  rw [smarks_len]; exact o4
 ·
  rw [cmarks_len]; exact ho2

set_option maxHeartbeats 400000 in
theorem heldExchange_any (O E M : Int) (vp vc : Value) (n m k : Nat) (w : World) (h1 : ExRd w vp vc (smarks k n) (cmarks (k + n) m)) (hk0 : 0 < k) (hk : k ≤ 1000000) (hp : n ≤ 10000000) (hc : m ≤ 10000000) :
  Calls Try.prog 34 #[.agg #[.int .i64 O, .int .i64 E, .int .i64 M, vp, vc], .int .i64 k] w
   fun e w' => e = .returned (.int .i64 (k + n + 3 * m : Nat)) ∧ Below w.heap.size w w' := by
 have hB := Blk.new (w := w) (cs := #[.int .i64 O, .int .i64 E, .int .i64 M, vp, vc]) (T := 33) rfl
 have hb0 : Below w.heap.size w (w.alloc (.cells #[.int .i64 O, .int .i64 E, .int .i64 M, vp, vc] 33)) := by (exact grownA)
 have hP := h1.plan
 have hC := h1.calls
 rw [smarks_len] at hP
 rw [cmarks_len] at hC
 have HP := Lib.hid hP
 have HC := Lib.hid hC
 obtain ⟨a1, c1, rfl, _⟩ := hP.open1
 obtain ⟨_, _, a2, c2, rfl, _⟩ := hC
 clear h1 hP
 go_enter Try.func34, Try.ntmps34
 go_wp2_with fail
 refine (heldStrs_any _ n k _ (HP.out.below hb0) hk0 hk hp).mono ?_
 rintro e w1 ⟨rfl, hb1⟩
 have hbel1 : Below w.heap.size w w1 := by (exact grownA)
 have hB1 := hB.belowAll hb1
 clear hB hb1 hb0
 obtain ⟨p0, p1, p2, p3, p4, _, _, _, _, _, plt⟩ := hB1.five
 have hn1 : ¬ ((k + n : Nat) : Int) < 0 := by omega
 go_wp2_with fail
 refine (heldCalls_any _ m (k + n) _ (HC.out.below hbel1) (by omega) (by omega) hc).mono ?_
 rintro e w2 ⟨rfl, hb2⟩
 have hbel2 : Below w.heap.size w w2 := by (exact grownA)
 have hn2 : ¬ ((k + n + 3 * m : Nat) : Int) < 0 := by omega
 go_wp2
 go_returns
 exact ⟨rfl, hbel2⟩

end Go.Proofs.Ytedadhoneebfnaa

/- The laws' helpers on deeds. -/
namespace Go.Proofs.Ytedadhoneebfnaa
open Go.RowKit

set_option maxHeartbeats 400000 in
theorem toExDeed_any (k l : Int) (s : ByteArray) (w : World) :
  Calls Try.prog 53 #[.agg #[.int .i64 k, .int .i64 l, .string s]] w fun e w' => e = .returned (.agg #[.int .i64 k, .int .i64 l, .string s]) ∧ Below w.heap.size w w' := by
 go_enter Try.func53, Try.ntmps53
 go_wp2
 go_returns
 exact ⟨by simp [go_sem], by (exact grownA)⟩

set_option maxHeartbeats 400000 in
theorem szExDeed_gen (k l x : Int) (s : ByteArray) (w : World) (hs : s.size ≤ maxLen) (h0 : 0 ≤ x) (h1 : x ≤ 1048576) :
  Calls Try.prog 52 #[.agg #[.int .i64 k, .int .i64 l, .string s], .int .i64 x] w fun e w' => e = .returned (.int .i64 (if (s.size : Int) ≤ x then x - (s.size : Int) else -1)) ∧ Below w.heap.size w w' := by
 unfold maxLen at hs
 by_cases h : (s.size : Int) ≤ x
 ·
  rw [if_pos h]
  go_enter Try.func52, Try.ntmps52
  go_wp2
  go_returns
  exact ⟨rfl, by (exact grownA)⟩
 ·
  rw [if_neg h]
  go_enter Try.func52, Try.ntmps52
  go_wp2
  go_returns
  exact ⟨rfl, by (exact grownA)⟩

/-- What is left of a bulk: at least -1 and, if not negative, the deeds were few. -/
def SzOut (n : Nat) (w : World) (e : Ending) (w' : World) : Prop := ∃ z : Int, e = .returned (.int .i64 z) ∧ (0 ≤ z → n ≤ 1048576) ∧ Below w.heap.size w w'

set_option maxRecDepth 100000 in
set_option maxHeartbeats 1000000 in
theorem szExDeedS_any (v : Value) (zs : List Ded) (x0 : Int) (w : World) (hv : Rds w v zs.length 3 (dcells zs)) (hs : ∀ d ∈ zs, d.2.2.size ≤ maxLen) (h0 : 0 ≤ x0) (h1 : x0 ≤ 1048576) :
  Calls Try.prog 60 #[v, .int .i64 x0] w (SzOut zs.length w) := by
 obtain ⟨hl1, hm1, a, ca, rfl, hn1, hc1⟩ := hv
 unfold maxLen at hm1
 unfold SzOut
 obtain ⟨n, hn⟩ : ∃ n, zs.length = n := ⟨_, rfl⟩
 rw [hn] at hm1 hn1 hc1 ⊢
 have HN := Lib.hid hn
 have HS := Lib.hid hs
 clear hn hl1 hs
 by_cases hbig : x0 < (n : Int)
 ·
  clear hc1
  go_enter Try.func60, Try.ntmps60
  go_wp2
  go_returns
  exact ⟨-1, rfl, by omega, Below.refl _ _⟩
 ·
  go_enter Try.func60, Try.ntmps60
  go_wp2_with fail
  go_loopw [1, 5] (fun t i wr => ∃ (k : Nat) (x : Int), k ≤ n ∧ i = .int .i64 k ∧ t = .int .i64 x ∧ 0 ≤ x ∧ x ≤ 1048576 ∧ Below w.heap.size w wr) (fun _ i _ => n - (intOf i).toNat)
  case atStart => exact ⟨0, x0 - n, by omega, rfl, rfl, by omega, by omega, Below.refl _ _⟩
  case round =>
   obtain ⟨k, x, hk, rfl, rfl, hx0, hx1, hbel⟩ := hrel
   by_cases hkn : k < n
   ·
    rcases hc1 with hc1 | ⟨b1, o1, rfl, hb1, hc1⟩
    ·
     omega
    obtain ⟨z, hz⟩ : ∃ z, zs[k]? = some z := ⟨_, List.getElem?_eq_getElem (by rw [HN.out]; omega)⟩
    obtain ⟨g1, g2, g3⟩ := dcells_at zs k z hz
    have c1 : wr.cell? ⟨b1, o1 + k * 3, none⟩ = some (.int .i64 z.1) := by rw [hbel.cell (p := ⟨b1, o1 + k * 3, none⟩) hb1, hc1 _ (by omega), g1]
    have c2 : wr.cell? ⟨b1, o1 + k * 3 + 1, none⟩ = some (.int .i64 z.2.1) := by rw [Nat.add_assoc, hbel.cell (p := ⟨b1, o1 + (k * 3 + 1), none⟩) hb1, hc1 _ (by omega), g2]
    have c3 : wr.cell? ⟨b1, o1 + k * 3 + 2, none⟩ = some (.string z.2.2) := by rw [Nat.add_assoc, hbel.cell (p := ⟨b1, o1 + (k * 3 + 2), none⟩) hb1, hc1 _ (by omega), g3]
    have hzs := HS.out z (List.mem_of_getElem? hz)
    clear hz hc1 g1 g2 g3
    go_wp2_with fail
    refine (szExDeed_gen z.1 z.2.1 x z.2.2 _ hzs hx0 hx1).mono ?_
    rintro e w1 ⟨rfl, hb⟩
    have hbel1 : Below w.heap.size w w1 := by (exact grownA)
    by_cases hle : (z.2.2.size : Int) ≤ x
    ·
     rw [if_pos hle]
     obtain ⟨y, hy⟩ : ∃ y, x - (z.2.2.size : Int) = y := ⟨_, rfl⟩
     rw [hy]
     have hy0 : 0 ≤ y := by omega
     have hy1 : y ≤ 1048576 := by omega
     clear hy hle
     go_wp2_with fail
     go_roundw
     case rel => exact ⟨k + 1, y, by omega, by go_num, rfl, hy0, hy1, by (exact grownA)⟩
     case measure => simp [intOf]; omega
    ·
     rw [if_neg hle]
     go_wp2
     go_returns
     exact ⟨-1, rfl, by omega, hbel1⟩
   ·
    go_wp2
    go_returns
    exact ⟨x, rfl, by omega, hbel⟩

set_option maxHeartbeats 1000000 in
theorem toExDeedS_any (v : Value) (cs : List Ded) (w : World) (hv : Rds w v cs.length 3 (dcells cs)) (hlen : cs.length ≤ 1048576) :
  Calls Try.prog 61 #[v] w (Made3 68 (dcells cs) cs.length w) := by
 obtain ⟨hl1, hm1, a, ca, rfl, hn1, hc1⟩ := hv
 unfold maxLen at hm1
 obtain ⟨i0, hi, hz0, hz1, hz2⟩ := info_parts infoD
 unfold Made3
 obtain ⟨n, hn⟩ : ∃ n, cs.length = n := ⟨_, rfl⟩
 rw [hn] at hm1 hn1 hc1 hlen ⊢
 have HN := Lib.hid hn
 clear hn hl1
 go_enter Try.func61, Try.ntmps61
 go_wp2_with (refine wpList_make_full _ rfl _ _ 47 rfl w.heap.size 68 i0 _ 3 Try.underlying47 hi hz0 hz1 .i64 .i64 _ _ n rfl rfl rfl rfl (by rw [hz2]; omega) (by unfold maxLen; omega) (Nat.le_refl _) ?_; intro w1 hown hgr)
 rw [dcells_zero] at hown
 obtain ⟨hO, -⟩ := Own.of hown
 have hB : Below w.heap.size w w1 := (Below.refl w.heap.size w).grown hgr (Nat.le_refl _) (by intro k hk; cases hk)
 clear hown hgr
 go_wp2_with fail
 go_loopw [4] (fun i wr => ∃ (k : Nat), k ≤ n ∧ i = .int .i64 k ∧ Own wr w.heap.size n n 68 3 (dcells (ovTo (0, 0, ByteArray.empty) cs k)) ∧ Below w.heap.size w wr) (fun i _ => n - (intOf i).toNat)
 case atStart => exact ⟨0, by omega, rfl, by rw [ovTo_zero, HN.out]; exact hO, hB⟩
 case round =>
  obtain ⟨k, hk, rfl, hown, hbel⟩ := hrel
  by_cases hkn : k < n
  ·
   rcases hc1 with hc1 | ⟨b, off, rfl, hb, hc1⟩
   ·
    omega
   obtain ⟨c, hr⟩ : ∃ r, cs[k]? = some r := ⟨_, List.getElem?_eq_getElem (by rw [HN.out]; omega)⟩
   obtain ⟨g1, g2, g3⟩ := dcells_at cs k c hr
   have c1 : wr.cell? ⟨b, off + k * 3, none⟩ = some (.int .i64 c.1) := by rw [hbel.cell (p := ⟨b, off + k * 3, none⟩) hb, hc1 _ (by omega), g1]
   have c2 : wr.cell? ⟨b, off + k * 3 + 1, none⟩ = some (.int .i64 c.2.1) := by rw [Nat.add_assoc, hbel.cell (p := ⟨b, off + (k * 3 + 1), none⟩) hb, hc1 _ (by omega), g2]
   have c3 : wr.cell? ⟨b, off + k * 3 + 2, none⟩ = some (.string c.2.2) := by rw [Nat.add_assoc, hbel.cell (p := ⟨b, off + (k * 3 + 2), none⟩) hb, hc1 _ (by omega), g3]
   have HR := Lib.hid hr
   clear hc1 hr g1 g2 g3
   have hlt := hown.lt
   go_wp2_with fail
   refine (toExDeed_any c.1 c.2.1 c.2.2 _).mono ?_
   rintro e w2 ⟨rfl, hb2⟩
   have hown2 := hown.below hb2 hlt
   have hlt2 := hown2.lt
   obtain ⟨y, hy⟩ : ∃ y, (ovTo (0, 0, ByteArray.empty) cs k)[k]? = some y := ⟨_, List.getElem?_eq_getElem (by rw [ovTo_len _ _ _ (by rw [HN.out]; omega), HN.out]; omega)⟩
   obtain ⟨y1, y2, y3⟩ := dcells_at _ _ _ hy
   have d1 := hown2.cell (k * 3) (by omega)
   rw [y1] at d1
   have d2 := hown2.cell (k * 3 + 1) (by omega)
   rw [y2] at d2
   have d3 := hown2.cell (k * 3 + 2) (by omega)
   rw [y3] at d3
   have f1 := hown2.free (k * 3)
   have f2 := hown2.free (k * 3 + 1)
   have f3 := hown2.free (k * 3 + 2)
   clear hown hy y1 y2 y3
   go_wp2_with fail
   go_roundw
   case rel =>
    refine ⟨k + 1, by omega, by go_num, ?_, by (exact grownA)⟩
    rw [← ovTo_set _ _ _ _ HR.out, ← dcells_set _ _ _ (by rw [ovTo_len _ _ _ (by rw [HN.out]; omega), HN.out]; omega)]
    (exact ownA)
   case measure => simp [intOf]; omega
  ·
   obtain rfl : k = n := by omega
   go_wp2
   go_returns
   have := ovTo_all (0, 0, ByteArray.empty) cs
   rw [HN.out] at this
   rw [this] at hown
   exact ⟨_, rfl, Nat.le_refl _, hown, hbel⟩


end Go.Proofs.Ytedadhoneebfnaa

/- What the laws on exchanges keep in memory: results in boxes, and marks that hit nothing else. No program in sight. -/
namespace Go.Proofs.Ytedadhoneebfnaa
open Go.RowKit

/-- An exchange made behind world W0, in a box of its own. -/
structure ExRes (W0 W : World) (b : Nat) (O E M : Int) (vq vr : Value) (ps : List ByteArray) (cs : List Cl) : Prop where
 bel : Below W0.heap.size W0 W
 box : Blk W b #[.int .i64 O, .int .i64 E, .int .i64 M, vq, vr] 33
 own : ExOwn W W0.heap.size vq vr ps cs
 ap1 : vq.ownBlock = none ∨ vq.ownBlock ≠ some b
 ap2 : vr.ownBlock = none ∨ vr.ownBlock ≠ some b
 big : W0.heap.size ≤ b
section
variable {W0 W W' : World} {b B : Nat} {O E M : Int} {vq vr : Value} {ps : List ByteArray} {cs : List Cl}
theorem ExRes.mkA (hb : Below W0.heap.size W0 W) (ho : ExOwn W B vq vr ps cs) (hB : W0.heap.size ≤ B) : ExRes W0 (W.alloc (.cells #[.int .i64 O, .int .i64 E, .int .i64 M, vq, vr] 33)) W.heap.size O E M vq vr ps cs :=
 ⟨hb.alloc hb.size _, Blk.new rfl, (ho.lower hB).below (by (exact grownA)), own_new8 ho.plan, own_new8 ho.calls, hb.size⟩
theorem ExRes.mkB {z0 z1 z2 z3 z4 : Value} (hb : Below W0.heap.size W0 W) (hX : Blk W b #[z0, z1, z2, z3, z4] 33) (hbig : W0.heap.size ≤ b) (ho : ExOwn W B vq vr ps cs) (hB : b < B) :
  ExRes W0 (((((W.setCell ⟨b, 0, none⟩ (.int .i64 O)).setCell ⟨b, 1, none⟩ (.int .i64 E)).setCell ⟨b, 2, none⟩ (.int .i64 M)).setCell ⟨b, 3, none⟩ vq).setCell ⟨b, 4, none⟩ vr) b O E M vq vr ps cs :=
 ⟨five_below _ _ _ _ _ hb hbig, five_set hX, (ho.result _ _ _ _ _ hB).lower (by omega), far_of ho.plan hB, far_of ho.calls hB, hbig⟩
end
/-- All of it lies below, above a line. -/
def Lo (v : Value) (B : Nat) : Prop := ∀ k, v.ownBlock = some k → k < B
def Hi (v : Value) (B : Nat) : Prop := ∀ k, v.ownBlock = some k → B ≤ k
theorem Lo.mono {v : Value} {B B' : Nat} (h : Lo v B) (hb : B ≤ B') : Lo v B' := fun k hk => Nat.lt_of_lt_of_le (h k hk) hb
theorem Hi.mono {v : Value} {B B' : Nat} (h : Hi v B) (hb : B' ≤ B) : Hi v B' := fun k hk => Nat.le_trans hb (h k hk)
theorem Lo.of {w : World} {base n : Nat} {E : TypeId} {size : Nat} {v : Value} {xs : List Value} (h : w.ownsRow base E size v n xs) : Lo v w.heap.size := own_lt h
theorem Hi.of {w : World} {base n : Nat} {E : TypeId} {size : Nat} {v : Value} {xs : List Value} (h : w.ownsRow base E size v n xs) : Hi v base := own_ge h
theorem Lo.apart {v u : Value} {B : Nat} (h : Lo v B) (h' : Hi u B) : v.ownBlock = none ∨ v.ownBlock ≠ u.ownBlock := by
 cases hv : v.ownBlock with
 | none => exact .inl rfl
 | some k => exact .inr (fun e => by have h1 := h k hv; have h2 := h' k e.symm; omega)
theorem Hi.apart {v u : Value} {B : Nat} (h : Hi v B) (h' : Lo u B) : v.ownBlock = none ∨ v.ownBlock ≠ u.ownBlock := by
 cases hv : v.ownBlock with
 | none => exact .inl rfl
 | some k => exact .inr (fun e => by have h1 := h k hv; have h2 := h' k e.symm; omega)
theorem Hi.ne {v : Value} {B b : Nat} (h : Hi v B) (hb : b < B) : some b ≠ v.ownBlock := fun e => by have := h b e.symm; omega
theorem Lo.ne {v : Value} {B b : Nat} (h : Lo v B) (hb : B ≤ b) : some b ≠ v.ownBlock := fun e => by have := h b e.symm; omega
theorem ap_ne {v : Value} {b : Nat} (h : v.ownBlock = none ∨ v.ownBlock ≠ some b) : some b ≠ v.ownBlock := fun e => by
 rcases h with h | h
 ·
  rw [h] at e; cases e
 ·
  exact h e.symm
section
variable {w w' : World} {r1 r2 : Option Nat}
theorem Blk.gb2 {b : Nat} {cs : Array Value} {T : TypeId} (hg : Gb2 w w' r1 r2) (h1 : some b ≠ r1) (h2 : some b ≠ r2) (h : Blk w b cs T) : Blk w' b cs T := by
 obtain ⟨wm, q1, q2⟩ := hg
 exact Blk.gbr q2 h2 (Blk.gbr q1 h1 h)
theorem Below.gb2 {w0 : World} {base : Nat} {vp vc : Value} (hb : Below base w0 w) (hg : Gb2 w w' vp.ownBlock vc.ownBlock) (hs : base ≤ w.heap.size) (h1 : Hi vp base) (h2 : Hi vc base) : Below base w0 w' :=
 hg.below hs h1 h2 hb
end
/-- What a deed leaves, as one value. -/
noncomputable def doR (O E M : Int) (ps : List ByteArray) (cs : List Cl) (k l : Int) (s : ByteArray) : (Int × Int × Int) × (List ByteArray × List Cl) × Bool :=
 if exB O E M ps cs = true then (match doL E M ps cs k l s with
  | some y => ((O, E, M), y, true)
  | none => ((O, E, M), (ps, cs), false)) else ((0, 0, 0), ([], []), false)
/-- What is handed back: an exchange and something beside it. -/
def ExR (O E M : Int) (ps : List ByteArray) (cs : List Cl) (x : Value) (w : World) (e : Ending) (w' : World) : Prop :=
 ∃ vp vc, e = .returned (.tuple #[.agg #[.int .i64 O, .int .i64 E, .int .i64 M, vp, vc], x]) ∧ ExOwn w' w.heap.size vp vc ps cs ∧ Below w.heap.size w w'
theorem doXQ_res {O E M : Int} {ps : List ByteArray} {cs : List Cl} {k l : Int} {s : ByteArray} {w : World} {e : Ending} {w' : World} (h : doXQ O E M ps cs k l s w e w') :
  ExR (doR O E M ps cs k l s).1.1 (doR O E M ps cs k l s).1.2.1 (doR O E M ps cs k l s).1.2.2 (doR O E M ps cs k l s).2.1.1 (doR O E M ps cs k l s).2.1.2 (.bool (doR O E M ps cs k l s).2.2) w e w' := by
 unfold doXQ at h
 unfold doR
 split at h
 ·
  rename_i hx
  rw [if_pos hx]
  cases hr : doL E M ps cs k l s with
  | none => rw [hr] at h; exact h
  | some y => rw [hr] at h; exact h
 ·
  rename_i hx
  rw [if_neg hx]
  exact h
theorem RunPost.res {r : (Int × Int × Int) × (List ByteArray × List Cl) × Nat} {w : World} {e : Ending} {w' : World} (h : RunPost r w e w') : ExR r.1.1 r.1.2.1 r.1.2.2 r.2.1.1 r.2.1.2 (.int .i64 r.2.2) w e w' := h
theorem ok_small {O E M : Int} {ps : List ByteArray} {cs : List Cl} (h : ExOk O E M ps cs) : ps.length ≤ 13 ∧ cs.length ≤ 13 := by
 have h1 := h.lines.2
 have h2 := h.calls.count (lines_le h.calls.sh)
 exact ⟨by omega, by omega⟩
theorem doR_small (O E M : Int) (ps : List ByteArray) (cs : List Cl) (k l : Int) (s : ByteArray) : (doR O E M ps cs k l s).2.1.1.length ≤ 13 ∧ (doR O E M ps cs k l s).2.1.2.length ≤ 13 := by
 unfold doR
 split
 ·
  rename_i hx
  have hok := (exB_iff _ _ _ _ _).1 hx
  split
  ·
   rename_i y hy
   exact ok_small (do_ok hok hy)
  ·
   exact ok_small hok
 ·
  simp
theorem runX_small (O E M : Int) (ps : List ByteArray) (cs : List Cl) (ds : List Dd) : (runX O E M ps cs ds).2.1.1.length ≤ 13 ∧ (runX O E M ps cs ds).2.1.2.length ≤ 13 := by
 unfold runX
 split
 ·
  rename_i hx
  exact ok_small (run_ok ((exB_iff _ _ _ _ _).1 hx) ds)
 ·
  simp

end Go.Proofs.Ytedadhoneebfnaa

/- Contract of ExRun (program). -/
namespace Go.Proofs.Ytedadhoneebfnaa
open Go.RowKit

set_option maxRecDepth 100000 in
set_option maxHeartbeats 8000000 in
theorem iExRun_any (O E M : Int) (vp vc vd : Value) (ps : List ByteArray) (cs : List Cl) (ds : List Dd) (w : World) (hR : ExRd w vp vc ps cs) (hn : SomeV vp ps.length) (hL : StLen ps) (hD : Rds w vd ds.length 3 (dcells ds)) (hDL : DdLen ds) :
  Calls Try.prog 56 #[.agg #[.int .i64 O, .int .i64 E, .int .i64 M, vp, vc], vd] w (RunPost (runX O E M ps cs ds) w) := by
 have hB := (Blk.new (w := w) (cs := #[.int .i64 O, .int .i64 E, .int .i64 M, vp, vc]) (T := 33) rfl).alloc (.cells #[.int .i64 0, .int .i64 0, .int .i64 0, .slice none 0 0, .slice none 0 0] 33)
 have hZ := Blk.new (w := w.alloc (.cells #[.int .i64 O, .int .i64 E, .int .i64 M, vp, vc] 33)) (cs := #[.int .i64 0, .int .i64 0, .int .i64 0, .slice none 0 0, .slice none 0 0]) (T := 33) (b := w.heap.size + 1) (by simp)
 have hbel0 : Below w.heap.size w ((w.alloc (.cells #[.int .i64 O, .int .i64 E, .int .i64 M, vp, vc] 33)).alloc (.cells #[.int .i64 0, .int .i64 0, .int .i64 0, .slice none 0 0, .slice none 0 0] 33)) := by (exact grownA)
 have HR := Lib.hid hR
 have HNN := Lib.hid hn
 have HL := Lib.hid hL
 have HDL := Lib.hid hDL
 obtain ⟨_, _, a1, c1, rfl, _⟩ := hR.plan
 obtain ⟨_, _, a2, c2, rfl, _⟩ := hR.calls
 obtain ⟨_, hm, a3, c3, rfl, hn3, hc3⟩ := hD
 unfold maxLen at hm
 obtain ⟨m, hmm⟩ : ∃ m, ds.length = m := ⟨_, rfl⟩
 have HN := Lib.hid hmm
 rw [hmm] at hm hn3 hc3 ⊢
 have HC3 := Lib.hid hc3
 obtain ⟨b0, b1, b2, b3, b4, -, -, -, -, -, blt⟩ := hB.five
 clear hR hn hL hDL hc3 hmm
 go_enter Try.func56, Try.ntmps56
 go_wp2_with fail
 refine (iExchangeValid_any O E M _ _ ps cs _ (HR.out.below hbel0) HL.out).mono ?_
 rintro e w1 ⟨rfl, hb1⟩
 have hbel1 : Below w.heap.size w w1 := by (exact grownA)
 have hB1 := hB.belowAll hb1
 have hZ1 := hZ.belowAll hb1
 clear hB hZ hb1 hbel0 b0 b1 b2 b3 b4 blt
 obtain ⟨b0, b1, b2, b3, b4, -, -, -, -, -, blt⟩ := hB1.five
 obtain ⟨r0, r1, r2, r3, r4, f0, f1, f2, f3, f4, rlt⟩ := hZ1.five
 obtain ⟨d, hd⟩ : ∃ d, exB O E M ps cs = d := ⟨_, rfl⟩
 have HD := Lib.hid hd
 rw [hd]
 clear hd
 cases d
 ·
  go_wp2
  obtain ⟨z0, z1, z2, z3, z4, -⟩ := (five_set (y0 := .int .i64 0) (y1 := .int .i64 0) (y2 := .int .i64 0) (y3 := .slice none 0 0) (y4 := .slice none 0 0) hZ1).five
  refine bodyPost_ret (v := .tuple #[.agg #[.int .i64 0, .int .i64 0, .int .i64 0, .slice none 0 0, .slice none 0 0], .int .i64 0]) (by simp [results, Try.results56, go_sem, z0, z1, z2, z3, z4, r0, r1, r2, r3, r4]) rfl ?_
  rw [runX_no HD.out]
  exact ⟨_, _, rfl, ExOwn.nothing _ _, five_below _ _ _ _ _ hbel1 (by omega)⟩
 have HOK := Lib.hid ((exB_iff _ _ _ _ _).1 HD.out)
 have hcn := HOK.out.calls.count (lines_le HOK.out.calls.sh)
 have hpn := HOK.out.lines.2
 go_wp2_with fail
 refine (copyExchange_any O E M _ _ ps cs _ (HR.out.below hbel1) HNN.out (by omega) (by omega)).mono ?_
 rintro e w2 ⟨vq, vr, rfl, ho2, hb2⟩
 have hbel2 : Below w.heap.size w w2 := hbel1.trans (Below.mono hb2 hbel1.size)
 have hz2 : w.heap.size + 2 ≤ w2.heap.size := by have := hZ1.lt; have := hb2.size; omega
 have hz1 : w.heap.size + 2 ≤ w1.heap.size := hZ1.lt
 obtain ⟨aq, cq, ar, cr, rfl, rfl⟩ := agg_parts ho2
 have hst : RnSt w (w2.alloc (.cells #[.int .i64 O, .int .i64 E, .int .i64 M, .slice aq ps.length cq, .slice ar cs.length cr] 33)) O E M w2.heap.size (.slice aq ps.length cq) (.slice ar cs.length cr) ps cs :=
  ⟨hbel2.alloc hbel2.size _, (hZ1.belowAll hb2).alloc _, Blk.new rfl, (ho2.lower hz1).below (by (exact grownA)), own_new8 ho2.plan, own_new8 ho2.calls, hz2⟩
 clear hZ1 hB1 hb2 ho2 b0 b1 b2 b3 b4 blt r0 r1 r2 r3 r4 f0 f1 f2 f3 f4 rlt
 obtain ⟨nb, hnb⟩ : ∃ nb, w2.heap.size = nb := ⟨_, rfl⟩
 rw [hnb] at hst
 go_wp2_with fail
 try rw [hnb]
 clear hnb
 go_loopw [7, 20] (fun t i wr => ∃ (k n : Nat) (vq vr : Value) (ps' : List ByteArray) (cs' : List Cl), i = .int .i64 k ∧ t = .int .i64 n ∧ k ≤ m ∧ n ≤ k ∧ Hid (runL E M ps cs (ds.take k) = ((ps', cs'), n)) ∧ Hid (ExOk O E M ps' cs') ∧ RnSt w wr O E M nb vq vr ps' cs') (fun _ i _ => m - (intOf i).toNat)
 case atStart => exact ⟨0, 0, _, _, ps, cs, rfl, rfl, Nat.zero_le _, Nat.le_refl _, rfl, HOK.out, hst⟩
 case round =>
  clear hst hbel2 hbel1
  obtain ⟨k, n, vq, vr, ps', cs', rfl, rfl, hk, hnk, HRN, HOK2, hst⟩ := hrel
  obtain ⟨aq, cq, ar, cr, rfl, rfl⟩ := agg_parts hst.own
  obtain ⟨n0, n1, n2, n3, n4, g0, g1, g2, g3, g4, nlt⟩ := hst.nxt.five
  obtain ⟨r0, r1, r2, r3, r4, f0, f1, f2, f3, f4, rlt⟩ := hst.res.five
  have hbg := hst.big
  by_cases hkm : k < m
  ·
   rcases HC3.out with h | ⟨b, off, rfl, hbl, hc3⟩
   ·
    omega
   obtain ⟨x, hx⟩ : ∃ x, ds[k]? = some x := ⟨_, List.getElem?_eq_getElem (by rw [HN.out]; omega)⟩
   obtain ⟨q1, q2, q3⟩ := dcells_at ds k x hx
   have k1 : wr.cell? ⟨b, off + k * 3, none⟩ = some (.int .i64 x.1) := by rw [hst.bel.cell (p := ⟨b, off + k * 3, none⟩) hbl, hc3 _ (by omega), q1]
   have k2 : wr.cell? ⟨b, off + k * 3 + 1, none⟩ = some (.int .i64 x.2.1) := by rw [Nat.add_assoc, hst.bel.cell (p := ⟨b, off + (k * 3 + 1), none⟩) hbl, hc3 _ (by omega), q2]
   have k3 : wr.cell? ⟨b, off + k * 3 + 2, none⟩ = some (.string x.2.2) := by rw [Nat.add_assoc, hst.bel.cell (p := ⟨b, off + (k * 3 + 2), none⟩) hbl, hc3 _ (by omega), q3]
   have HXL := Lib.hid (HDL.out k x hx)
   have HSN : Hid (runL E M ps cs (ds.take (k + 1)) = stepL E M ((ps', cs'), n) x) := by unfold Hid; rw [run_snoc hx, HRN.out]
   clear hx q1 q2 q3 hc3
   obtain ⟨xk, xl, xs⟩ := x
   simp only at k1 k2 k3
   have hst1 := hst.alloc (.cells #[.int .i64 xk, .int .i64 xl, .string xs] 68)
   go_wp2_with fail
   refine (iExDo_any O E M _ _ ps' cs' xk xl xs _ hst1.own.rd (own_somev hst1.own.plan) HOK2.out.lens HXL.out).mono ?_
   intro e w4 h4
   obtain ⟨vp', vc', b', ps2, cs2, n2', rfl, hs4, ho4, hb4, hca⟩ := doXQ_step (d := (xk, xl, xs)) n HOK2.out h4
   have hst4 := hst1.belowAll hb4
   have HOK4 := Lib.hid (step_ok2 HOK2.out hs4)
   have HR4 : Hid (runL E M ps cs (ds.take (k + 1)) = ((ps2, cs2), n2')) := by unfold Hid; rw [HSN.out]; exact hs4
   have hnbB : nb < wr.heap.size + 1 := by omega
   have hst5 := (hst4.next ho4 (by simpa using hnbB))
   obtain ⟨a4, c4, a5, c5, rfl, rfl⟩ := agg_parts ho4
   clear h4 hs4 ho4 hb4 hst1 hst HSN HRN HOK2 k1 k2 k3 n0 n1 n2 n3 n4 g0 g1 g2 g3 g4 nlt r0 r1 r2 r3 r4 f0 f1 f2 f3 f4 rlt
   obtain ⟨n0, n1, n2, n3, n4, g0, g1, g2, g3, g4, nlt⟩ := hst4.nxt.five
   have hst6 := hst5.alloc (.cells #[.int .i64 O, .int .i64 E, .int .i64 M, .slice a4 ps2.length c4, .slice a5 cs2.length c5] 33)
   clear hst4 hst5
   rcases hca with ⟨rfl, rfl⟩ | ⟨rfl, rfl, rfl, rfl⟩
   all_goals
    go_wp2
    go_roundw
    case rel => exact ⟨k + 1, _, _, _, _, _, by go_num, by go_num, by omega, by omega, HR4, HOK4, hst6⟩
    case measure => simp [intOf]; omega
  ·
   obtain rfl : k = m := by omega
   go_wp2
   obtain ⟨z0, z1, z2, z3, z4, -⟩ := (five_set (y0 := .int .i64 O) (y1 := .int .i64 E) (y2 := .int .i64 M) (y3 := .slice aq ps'.length cq) (y4 := .slice ar cs'.length cr) hst.res).five
   refine bodyPost_ret (v := .tuple #[.agg #[.int .i64 O, .int .i64 E, .int .i64 M, .slice aq ps'.length cq, .slice ar cs'.length cr], .int .i64 n]) (by simp [results, Try.results56, go_sem, z0, z1, z2, z3, z4]) rfl ?_
   have hrr : runL E M ps cs ds = ((ps', cs'), n) := by have := HRN.out; rwa [List.take_of_length_le (by rw [HN.out]; omega)] at this
   rw [runX_yes HD.out, hrr]
   exact hst.back n

end Go.Proofs.Ytedadhoneebfnaa
