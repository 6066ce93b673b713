/- Contract of ReadJournal (program). -/
import Derived.Test.YtedadhoneebfnaaGreatDoorJ2
import Derived.Test.YtedadhoneebfnaaGreatDoorJ3
import Derived.Deep.DeepCutAuto
set_option linter.unusedSimpArgs false
set_option linter.unusedVariables false
namespace Go.Proofs.YtedadhoneebfnaaGreatDoor
open Go.RowKit

theorem infoDj : (Tryz.prog.info? 55).map (fun i => (i.zero, i.size, i.bytes)) = some (some (.agg #[.int .i64 0, .int .i64 0, .string ByteArray.empty]), 3, 32) := by kernel_rfl
theorem news3j (w : World) (T : TypeId) (x0 x1 x2 : Value) (b : Nat) (hb : b = w.heap.size) : ∀ (j : Nat) (u : Value), [x0, x1, x2][j]? = some u → (w.alloc (.cells #[x0, x1, x2] T)).cell? ((⟨b, 0, none⟩ : Addr).add j) = some u := by
 intro j u hu
 rw [Addr.add_spot, Nat.zero_add, (Blk.new hb).at j]
 simpa using hu
theorem oneDj (a b : Int) (s : ByteArray) : ∀ u ∈ [Value.int .i64 a, Value.int .i64 b, Value.string s], u.oneCell' = true := by
 intro u hu; simp at hu; rcases hu with rfl | rfl | rfl <;> rfl
/-- What ReadJournal leaves. -/
def JrPost (s : ByteArray) (w : World) (e : Ending) (w' : World) : Prop :=
 ∃ v, e = .returned (.tuple #[v, .int .i64 ((jL (tl s)).2 : Nat)]) ∧ w'.ownsRow w.heap.size 55 3 v (jL (tl s)).1.length (dcells (jL (tl s)).1) ∧ Below w.heap.size w w'
theorem extr_tl (s : ByteArray) (b : Nat) : s.extract b s.size = ba ((tl s).drop b) := by
 apply bytes_ext; simp [ba, tl, ByteArray.data_extract]
 exact List.take_of_length_le (by rw [List.length_drop]; simp)

set_option maxRecDepth 100000 in
set_option maxHeartbeats 2000000 in
theorem iReadJournal_any (s : ByteArray) (w : World) (hs : s.size ≤ 1100000) :
  Calls Tryz.prog 21 #[.string s] w (JrPost s w) := by
 obtain ⟨i0, hi, hz0, hz1, hz2⟩ := info_parts infoDj
 have HZ := Lib.hid (tl_size s)
 go_enter Tryz.func21, Tryz.ntmps21
 go_wp2_with fail
 go_loopw [4, 5] (fun v i wr => ∃ (b : Nat) (ds : List Ded), i = .int .i64 b ∧ b ≤ s.size ∧ Hid (JAt (tl s) b ds) ∧ wr.ownsRow w.heap.size 55 3 v ds.length (dcells ds) ∧ Below w.heap.size w wr) (fun _ i _ => s.size - (intOf i).toNat)
 case atStart => exact ⟨0, [], rfl, Nat.zero_le _, JAt.start _, World.ownsRow_nil _ _ _ _, Below.refl _ _⟩
 case round =>
  obtain ⟨b, ds, rfl, hb, HJ, hown, hbel⟩ := hrel
  have hfew := HJ.out.few
  have hz := hbel.size
  have i1 : (0 : Int) ≤ (b : Int) := by omega
  have i2 : (b : Int) ≤ (s.size : Int) := by omega
  obtain ⟨t, ht⟩ : ∃ t, s.extract b s.size = t := ⟨_, rfl⟩
  have htl : tl t = (tl s).drop b := by rw [← ht, extr_tl, tl_ba]
  have hts : t.size = s.size - b := by rw [← tl_size, htl, List.length_drop, HZ.out]
  have HTL := Lib.hid htl
  have hixl := ix_le 10 (tl t)
  have hixb := bef_len (c := 10) (l := tl t)
  have HBS : Hid ((ba (bef 10 (tl t))).size = ix 10 (tl t)) := by unfold Hid; rw [ba_size]; exact hixb
  have hbt : (ba (bef 10 (tl t))).size ≤ maxLen := by rw [HBS.out]; rw [tl_size] at hixl; unfold maxLen; omega
  have HBT := Lib.hid hbt
  have htm : t.size ≤ maxLen := by unfold maxLen; omega
  have HTM := Lib.hid htm
  clear htl hts hixb hbt htm
  go_wp2_with fail
  try rw [ht]
  refine (cut_any t 10 _ HTM.out).mono ?_
  rintro e w1 ⟨q, rfl, rfl⟩
  clear ht
  by_cases hm : ix 10 (tl t) < t.size
  ·
   have hmem : (10 : UInt8) ∈ tl t := ix_mem.2 (by rw [tl_size]; exact hm)
   have HMM := Lib.hid hmem
   clear hmem
   obtain ⟨u, hu⟩ : ∃ u, ba (bef 10 (tl t)) = u := ⟨_, rfl⟩
   have HU := Lib.hid hu
   have HUS : Hid (u.size = ix 10 (tl t)) := by unfold Hid; rw [← hu]; exact HBS.out
   rw [hu] at HBT
   rw [hu, decide_eq_true hm]
   clear hu HBS
   go_wp2_with fail
   refine (iReadDeed_any u _ HBT.out).mono ?_
   rintro e w2 ⟨rfl, hb2⟩
   have hown2 := owns_below hb2 hown
   have hbel2 : Below w.heap.size w w2 := (below_drewN hbel q).trans (Below.mono hb2 hbel.size)
   obtain ⟨⟨⟨dk, dl, dn⟩, ok⟩, hr⟩ : ∃ z, rdeed u = z := ⟨_, rfl⟩
   have HRD := Lib.hid hr
   rw [hr]
   clear hr hb2 hown
   cases ok
   ·
    have HF : Hid (jL (tl s) = (ds, b)) := HJ.out.fin (by
     rintro ⟨_, h2⟩
     rw [← HTL.out, HU.out, HRD.out] at h2
     cases h2)
    go_wp2
    go_returns
    refine ⟨_, by rw [HF.out]; rfl, by rw [HF.out]; exact owns_below (by (exact grownA)) hown2, by (exact grownA)⟩
   ·
    have hstep := HJ.out.step (d := (dk, dl, dn)) (by rw [← HTL.out]; exact HMM.out) (by rw [← HTL.out, HU.out, HRD.out])
    rw [← HTL.out, bef_len, ← HUS.out] at hstep
    have HST := Lib.hid hstep
    have hle := hstep.le
    rw [HZ.out] at hle
    have hus : u.size ≤ 1100000 := by omega
    clear hstep
    have hz2' := hbel2.size
    have k1 : IntKind.i64.wrap (u.size + 1 : Int) = (u.size + 1 : Int) := IntWalk.i64_in _ (by omega)
    go_wp2_with (at_builtin; refine wpList_append_own _ rfl _ _ 44 rfl w.heap.size 55 i0 _ 3 32 Tryz.underlying44 hi hz0 hz1 hz2 rfl (by decide) _ _ _ rfl ((hown2.alloc _).alloc _) ⟨w2.heap.size + 1, 0, none⟩ 1 1 [.int .i64 dk, .int .i64 dl, .string dn] rfl rfl (news3j _ _ _ _ _ _ (by simp)) (oneDj _ _ _) (by unfold maxLen; omega) (by omega) (by simp; omega) ?_; intro v' w3 hown' hgrow _)
    have hbel3 : Below w.heap.size w w3 := Below.grown (by (exact grownA)) hgrow (by have := hbel2.size; simp; omega) (own_ge hown2)
    clear hgrow
    go_roundw
    case rel =>
     refine ⟨b + (u.size + 1), ds ++ [(dk, dl, dn)], by go_num, hle, HST.out, ?_, hbel3⟩
     rw [dcells_app, List.length_append]
     exact hown'
    case measure => simp [intOf]; omega
  ·
   rw [decide_eq_false hm]
   have HF : Hid (jL (tl s) = (ds, b)) := HJ.out.fin (by
    rintro ⟨h1, _⟩
    rw [← HTL.out] at h1
    have := ix_mem.1 h1
    rw [tl_size] at this
    exact hm this)
   go_wp2
   go_returns
   exact ⟨_, by rw [HF.out]; rfl, by rw [HF.out]; exact hown, below_drewN hbel q⟩

end Go.Proofs.YtedadhoneebfnaaGreatDoor
