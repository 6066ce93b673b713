/- What the exact law of ExLines keeps in memory: an exchange and a row of texts beside it; the size of a row of texts from any start. -/
import Derived.Test.YtedadhoneebfnaaGreatDoorTo
import Derived.Test.YtedadhoneebfnaaGreatDoorJ14
set_option linter.unusedSimpArgs false
set_option linter.unusedVariables false
namespace Go.Proofs.YtedadhoneebfnaaGreatDoor
open Go.RowKit

theorem linesR_small (O E M : Int) (ps : List ByteArray) (cs : List Cl) (ls : List ByteArray) : (linesR O E M ps cs ls).2.1.1.length ≤ 13 ∧ (linesR O E M ps cs ls).2.1.2.length ≤ 13 ∧ (linesR O E M ps cs ls).2.2.length ≤ 40 := by
 unfold linesR
 split
 ·
  rename_i hx
  have h := ok_small (lines_ok ((exB_iff _ _ _ _ _).1 hx.1) ls).1
  exact ⟨h.1, h.2, by show (linesQ E M ps cs ls).2.length ≤ 40; rw [lines_len]; exact hx.2⟩
 ·
  simp
theorem ap_sym {u v : Value} (h : u.ownBlock = none ∨ u.ownBlock ≠ v.ownBlock) : v.ownBlock = none ∨ v.ownBlock ≠ u.ownBlock := by
 rcases h with h | h
 ·
  cases hv : v.ownBlock with
  | none => exact .inl rfl
  | some k => exact .inr (fun e => by rw [h] at e; cases e)
 ·
  exact .inr (fun e => h e.symm)
theorem own_ty {w : World} {base n b : Nat} {E T : TypeId} {size : Nat} {v : Value} {xs : List Value} {cs : Array Value} (h : w.ownsRow base E size v n xs) (hb : Blk w b cs T) (hT : T ≠ E) : v.ownBlock = none ∨ v.ownBlock ≠ some b := by
 rcases h.2 with ⟨rfl, _⟩ | ⟨g, cap, cur, rfl, _, hg, _⟩
 ·
  exact .inl rfl
 ·
  refine .inr fun e => ?_
  simp [Value.ownBlock] at e
  subst e
  unfold Blk at hb
  rw [hg] at hb
  simp at hb
  exact hT hb.2.symm
/-- An exchange made behind world W0, in a box of its own, and a row of texts. -/
structure LnRes (W0 W : World) (b : Nat) (O E M : Int) (vq vr va : Value) (ps : List ByteArray) (cs : List Cl) (av : List ByteArray) : Prop where
 res : ExRes W0 W b O E M vq vr ps cs
 row : W.ownsRow W0.heap.size 9 1 va av.length (strs av)
 apP : vq.ownBlock = none ∨ vq.ownBlock ≠ va.ownBlock
section
variable {W0 W W' : World} {b B : Nat} {O E M : Int} {vq vr va : Value} {ps : List ByteArray} {cs : List Cl} {av : List ByteArray}
theorem LnRes.mkA (hb : Below W0.heap.size W0 W) (ho : ExOwn W B vq vr ps cs) (hr : W.ownsRow B 9 1 va av.length (strs av)) (ap : vq.ownBlock = none ∨ vq.ownBlock ≠ va.ownBlock) (hB : W0.heap.size ≤ B) : LnRes W0 (W.alloc (.cells #[.int .i64 O, .int .i64 E, .int .i64 M, vq, vr] 33)) W.heap.size O E M vq vr va ps cs av :=
 ⟨ExRes.mkA hb ho hB, owns_base hB (hr.alloc _), ap⟩
theorem LnRes.mkB {z0 z1 z2 z3 z4 : Value} (hb : Below W0.heap.size W0 W) (hX : Blk W b #[z0, z1, z2, z3, z4] 33) (hbig : W0.heap.size ≤ b) (ho : ExOwn W B vq vr ps cs) (hr : W.ownsRow B 9 1 va av.length (strs av)) (ap : vq.ownBlock = none ∨ vq.ownBlock ≠ va.ownBlock) (hB : b < B) :
  LnRes W0 (((((W.setCell ⟨b, 0, none⟩ (.int .i64 O)).setCell ⟨b, 1, none⟩ (.int .i64 E)).setCell ⟨b, 2, none⟩ (.int .i64 M)).setCell ⟨b, 3, none⟩ vq).setCell ⟨b, 4, none⟩ vr) b O E M vq vr va ps cs av :=
 ⟨ExRes.mkB hb hX hbig ho hB, owns_base (by omega) (hr.kept (five_gb _ _ _ _ _ _ _) (far_of hr hB)), ap⟩
end

set_option maxHeartbeats 400000 in
theorem szStringS_gen (v : Value) (ps : List ByteArray) (z : Int) (w : World) (hv : Rds w v ps.length 1 (strs ps)) (hL : StLen ps) (hz0 : 0 ≤ z) (hz1 : z ≤ 1048576) :
  Calls Tryz.prog 9 #[v, .int .i64 z] w fun e w' => ∃ x : Int, e = .returned (.int .i64 x) ∧ (0 ≤ x → ps.length ≤ 1048576 ∧ ∀ (k : Nat) (s : ByteArray), ps[k]? = some s → s.size ≤ 1048576) ∧ Below w.heap.size w w' := by
 obtain ⟨a, ca, rfl, hl1, hm1, hn1, hc1⟩ := hv.open1
 unfold maxLen at hm1
 obtain ⟨n, hn⟩ : ∃ n, ps.length = n := ⟨_, rfl⟩
 rw [hn] at hm1 hn1 hc1 ⊢
 have HN := Lib.hid hn
 have HL := Lib.hid hL
 clear hn hl1 hL hv
 by_cases hbig : z < (n : Int)
 ·
  have hs2 : z - (n : Int) < 0 := by omega
  go_enter Tryz.func9, Tryz.ntmps9
  go_wp2
  go_returns
  exact ⟨-1, rfl, fun h => absurd h (by omega), Below.refl _ _⟩
 ·
  have hs2 : ¬ z - (n : Int) < 0 := by omega
  go_enter Tryz.func9, Tryz.ntmps9
  go_wp2_with fail
  clear hs2
  go_loop [1, 5] (fun l i => ∃ (k : Nat) (x : Int), k ≤ n ∧ i = .int .i64 k ∧ l = .int .i64 x ∧ 0 ≤ x ∧ x ≤ 1048576 ∧ Hid (∀ (j : Nat) (s : ByteArray), j < k → ps[j]? = some s → s.size ≤ 1048576)) (fun _ i => n - (intOf i).toNat)
  case atStart => exact ⟨0, z - n, by omega, rfl, by first | rfl | go_num, by omega, by omega, fun j r h => absurd h (by omega)⟩
  case round =>
   obtain ⟨k, x, hk, rfl, rfl, hx0, hx1, hall⟩ := hrel
   by_cases hkn : k < n
   ·
    rcases hc1 with hc1 | ⟨b, off, rfl, hb, hc1⟩
    ·
     omega
    obtain ⟨s, hr⟩ : ∃ r, ps[k]? = some r := ⟨_, List.getElem?_eq_getElem (by rw [HN.out]; omega)⟩
    have c1 := hc1 k hkn
    rw [strs_at ps k s hr] at c1
    have hrl := HL.out k s hr
    unfold maxLen at hrl
    have HR := Lib.hid hr
    clear hc1 hr
    by_cases hs : x < (s.size : Int)
    ·
     have hs2 : x - s.size < 0 := by omega
     go_wp2
     go_returns
     exact ⟨-1, rfl, fun h => absurd h (by omega), Below.refl _ _⟩
    ·
     have hs2 : ¬ x - s.size < 0 := by omega
     go_wp2_with fail
     go_round
     case rel =>
      refine ⟨k + 1, x - s.size, by omega, by go_num, rfl, by omega, by omega, ?_⟩
      intro j r hj hr
      by_cases e : j = k
      ·
       subst e; have := HR.out; rw [hr] at this; cases this; omega
      ·
       exact hall.out j r (by omega) hr
     case measure => simp [intOf]; omega
   ·
    obtain rfl : k = n := by omega
    go_wp2
    go_returns
    exact ⟨x, rfl, fun _ => ⟨by omega, fun j r hr => hall.out j r (by have := (List.getElem?_eq_some_iff.1 hr).1; rw [HN.out] at this; exact this) hr⟩, Below.refl _ _⟩
set_option maxHeartbeats 400000 in
theorem markStrsB (g n cap : Nat) (ps : List ByteArray) (k : Nat) (w : World) (hv : Own w g n cap 9 1 (strs ps)) (hk0 : 0 < k) (hk : k ≤ 100000000) (hn : n ≤ 10000000) :
  Calls Tryz.prog 17 #[.slice (some ⟨g, 0, none⟩) n cap, .int .i64 k] w fun e w' => e = .returned (.int .i64 (k + n : Nat)) ∧ Own w' g n cap 9 1 (strs (smarks k n)) ∧ w.grownBy w' (some g) := by
 have hlen := hv.len
 rw [strs_len] at hlen
 have hlen' : ps.length = n := by omega
 have HLEN := Lib.hid hlen'
 clear hlen hlen'
 go_enter Tryz.func17, Tryz.ntmps17
 go_wp2_with fail
 go_loopw [1, 5] (fun kk i wr => ∃ j : Nat, j ≤ n ∧ i = .int .i64 j ∧ kk = .int .i64 (k + j : Nat) ∧ Own wr g n cap 9 1 (strs (smarkTo ps k j)) ∧ w.grownBy wr (some g)) (fun _ i _ => n - (intOf i).toNat)
 case atStart => exact ⟨0, by omega, rfl, by simp, by rw [smarkTo_zero]; exact hv, World.grownBy.refl _ _⟩
 case round =>
  obtain ⟨j, hj, rfl, rfl, hown, hgr⟩ := hrel
  by_cases hjn : j < n
  ·
   have hlt := hown.lt
   go_wp2_with fail
   refine (markText_any (k + j) _ (by omega) (by omega)).mono ?_
   rintro e w2 ⟨rfl, hb2⟩
   have hown2 := hown.below hb2 hlt
   have hgr2 : w.grownBy w2 (some g) := gb_below hb2 hgr.size hgr
   have hlt2 := hown2.lt
   obtain ⟨y, hy⟩ : ∃ y, (smarkTo ps k j)[j]? = some y := ⟨_, List.getElem?_eq_getElem (by rw [smarkTo_len _ _ _ (by rw [HLEN.out]; omega), HLEN.out]; omega)⟩
   have d1 := hown2.cell j (by omega)
   rw [strs_at _ _ _ hy] at d1
   have f1 := hown2.free j
   clear hown hy hb2
   go_wp2_with fail
   go_roundw
   case rel =>
    refine ⟨j + 1, by omega, by go_num, by go_num, ?_, ?_⟩
    ·
     rw [← smarkTo_set _ _ _ (by rw [HLEN.out]; omega), ← strs_set]
     (exact ownA)
    ·
     (exact gbA)
   case measure => simp [intOf]; omega
  ·
   obtain rfl : j = n := by omega
   go_wp2
   go_returns
   refine ⟨rfl, ?_, hgr⟩
   have := smarkTo_all ps k
   rw [HLEN.out] at this
   rw [← this]
   exact hown

set_option maxHeartbeats 400000 in
theorem markStrsB_any (base : Nat) (v : Value) (n : Nat) (ps : List ByteArray) (k : Nat) (w : World) (hv : w.ownsRow base 9 1 v n (strs ps)) (hk0 : 0 < k) (hk : k ≤ 100000000) (hn : n ≤ 10000000) :
  Calls Tryz.prog 17 #[v, .int .i64 k] w fun e w' => e = .returned (.int .i64 (k + n : Nat)) ∧ w'.ownsRow base 9 1 v n (strs (smarks k n)) ∧ w.grownBy w' v.ownBlock := by
 rcases hv.2 with ⟨rfl, rfl⟩ | ⟨g, cap, cur, rfl, hb, _⟩
 ·
  clear hv
  go_enter Tryz.func17, Tryz.ntmps17
  go_wp2_with fail
  refine wp_loop_rounds 1 ?_
  rw [rounds_succ]
  go_wp2
  go_returns
  exact ⟨by simp, World.ownsRow_nil _ _ _ _, World.grownBy.refl _ _⟩
 ·
  refine (markStrsB g n cap ps k w (Own.of hv).1 hk0 hk hn).mono ?_
  rintro e w' ⟨rfl, h1, h2⟩
  exact ⟨rfl, h1.back hb, h2⟩


end Go.Proofs.YtedadhoneebfnaaGreatDoor
