/- The draw of deeds that have texts, and of a journal. -/
import Derived.Test.YtedadhoneebfnaaGreatDoorDwe
import Derived.Test.YtedadhoneebfnaaGreatDoorJ2
import Derived.Maps.AppendAt
set_option linter.unusedSimpArgs false
set_option linter.unusedVariables false
namespace Go.Proofs.YtedadhoneebfnaaGreatDoor
open Go.RowKit

/-- What l20Written leaves. -/
def WrPost (rb p : Nat) (w : World) (e : Ending) (w' : World) : Prop :=
 ∃ (v : Value) (ds : List Ded) (q : Nat), e = .returned v ∧ w'.ownsRow w.heap.size 55 3 v ds.length (dcells ds) ∧ ds.length ≤ 13 ∧ (∀ d ∈ ds, d.2.2.size ≤ 8 ∧ (dt d).size ≠ 0) ∧ p ≤ q ∧ q ≤ p + 1400 ∧ Rdr w' rb q ∧ w.grownBy w' (some rb)
theorem ap_next {W : World} {base n size : Nat} {E : TypeId} {u v v' : Value} {xs : List Value} (h : W.ownsRow base E size u n xs) (ha : u.ownBlock = none ∨ u.ownBlock ≠ v.ownBlock) (hat : v'.ownBlock = v.ownBlock ∨ v'.ownBlock = some W.heap.size) : u.ownBlock = none ∨ u.ownBlock ≠ v'.ownBlock := by
 cases hu : u.ownBlock with
 | none => exact .inl rfl
 | some k =>
  refine .inr fun e => ?_
  rcases hat with h1 | h1
  ·
   rcases ha with h2 | h2
   ·
    rw [hu] at h2; cases h2
   ·
    exact h2 (by rw [hu, e, h1])
  ·
   rw [h1] at e
   have := own_lt h k hu
   cases e
   omega
theorem ap_first {W : World} {base n size b : Nat} {E : TypeId} {u : Value} {xs : List Value} (h : W.ownsRow base E size u n xs) (hb : b < base) : u.ownBlock = none ∨ u.ownBlock ≠ some b := by
 cases hu : u.ownBlock with
 | none => exact .inl rfl
 | some k => exact .inr fun e => by have := own_ge h k hu; cases e; omega

set_option maxRecDepth 100000 in
set_option maxHeartbeats 8000000 in
theorem l20Written_any (rb p : Nat) (w : World) (h : Rdr w rb p) (hp : p ≤ 1000) :
  Calls Tryz.prog 50 #[.pointer (some ⟨rb, 0, none⟩)] w (WrPost rb p w) := by
 obtain ⟨i0, hi, hz0, hz1, hz2⟩ := info_parts infoD
 have hold := h.lt
 have hO0 : (w.alloc (.cells #[] 55)).ownsRow w.heap.size 55 3 (.slice (some ⟨w.heap.size, 0, none⟩) 0 0) 0 (dcells []) := by
  have := World.ownsRow_lit (base := w.heap.size) (e := 55) (size := 3) w #[] 0 (by simp) (by unfold maxLen; omega) rfl
  simpa [dcells] using this
 have hr0 := h.alloc (o := .cells #[] 55)
 have hg0 : w.grownBy (w.alloc (.cells #[] 55)) (some rb) := gb_alloc (World.grownBy.refl _ _)
 clear h
 go_enter Tryz.func50, Tryz.ntmps50
 go_wp2_with fail
 refine (l20Exchange_any rb p _ _ hr0 (by omega) (by omega)).mono ?_
 rintro e w2 ⟨O, E, M, vp, vc, ps, cs, q, rfl, ho, hl, hc, hs, hqa, hqb, hrd, hg⟩
 have hO2 := hO0.kept hg (.inr (by simp [Value.ownBlock]; omega))
 have hg2 := gb_trans hg0 hg
 have hz2' := hg.size
 simp only [World.size_alloc] at hz2' ho
 obtain ⟨ap, cp, ac, cc, rfl, rfl⟩ := agg_parts ho
 clear hr0 hg hO0 hg0
 go_wp2_with fail
 refine (l20ExDeeds_any rb q O E M _ _ ps cs _ hrd (by omega) (ho.lower (by omega)) hl hc hs).mono ?_
 rintro en w3 ⟨vd, ds, q3, rfl, hod, hdl, hds, hqc, hqd, hr3, hg3⟩
 have hO3 := hO2.kept hg3 (.inr (by simp [Value.ownBlock]; omega))
 have hg4 := gb_trans hg2 hg3
 have HAP := Lib.hid (ap_first hod (show w.heap.size < w2.heap.size by omega))
 have HDS := Lib.hid hds
 obtain ⟨ad, cd, rfl⟩ := own_len9 hod
 obtain ⟨n, hn⟩ : ∃ n, ds.length = n := ⟨_, rfl⟩
 have HN := Lib.hid hn
 rw [hn] at hod hdl HAP
 rw [hn]
 clear hrd hg3 hO2 hg2 ho hs hds hn
 go_wp2_with fail
 go_loopw [3, 5] (fun v t wr => ∃ (k : Nat) (es : List Ded), t = .int .i64 k ∧ k ≤ n ∧ es.length ≤ k ∧ Hid (∀ d ∈ es, d.2.2.size ≤ 8 ∧ (dt d).size ≠ 0) ∧ wr.ownsRow w.heap.size 55 3 v es.length (dcells es) ∧ Hid ((Value.slice ad n cd).ownBlock = none ∨ (Value.slice ad n cd).ownBlock ≠ v.ownBlock) ∧ wr.ownsRow w2.heap.size 55 3 (.slice ad n cd) n (dcells ds) ∧ Rdr wr rb q3 ∧ w.grownBy wr (some rb)) (fun _ t _ => n - (intOf t).toNat)
 case atStart => exact ⟨0, [], rfl, by omega, by simp, (fun d hd => by cases hd), hO3, HAP, hod, hr3, hg4⟩
 case round =>
  clear hO3 hg4 HAP hod hr3
  obtain ⟨k, es, rfl, hk, hek, HES, hO, HAP, hod, hr, hg⟩ := hrel
  by_cases hkn : k < n
  ·
   obtain ⟨hl1, hm1, a1, ca1, he, hn1, hc1⟩ := Rds.ofOwns hod
   cases he
   rcases hc1 with hc1 | ⟨b1, o1, rfl, hb1, hc1⟩
   ·
    omega
   obtain ⟨z, hz⟩ : ∃ z, ds[k]? = some z := ⟨_, List.getElem?_eq_getElem (by rw [HN.out]; omega)⟩
   obtain ⟨g1, g2, g3⟩ := dcells_at ds k z hz
   have hzs := HDS.out z (List.mem_of_getElem? hz)
   obtain ⟨zk, zl, zn⟩ := z
   simp only at g1 g2 g3 hzs
   have c1 : wr.cell? ⟨b1, o1 + k * 3, none⟩ = some (.int .i64 zk) := by rw [hc1 _ (by omega), g1]
   have c2 : wr.cell? ⟨b1, o1 + k * 3 + 1, none⟩ = some (.int .i64 zl) := by rw [Nat.add_assoc, hc1 _ (by omega), g2]
   have c3 : wr.cell? ⟨b1, o1 + k * 3 + 2, none⟩ = some (.string zn) := by rw [Nat.add_assoc, hc1 _ (by omega), g3]
   have HC : Hid (∀ W : World, Below wr.heap.size wr W → W.cell? ⟨b1, o1 + k * 3, none⟩ = some (.int .i64 zk) ∧ W.cell? ⟨b1, o1 + k * 3 + 1, none⟩ = some (.int .i64 zl) ∧ W.cell? ⟨b1, o1 + k * 3 + 2, none⟩ = some (.string zn)) := fun W hW => ⟨by rw [hW.cell (p := ⟨b1, o1 + k * 3, none⟩) hb1, hc1 _ (by omega), g1], by rw [Nat.add_assoc, hW.cell (p := ⟨b1, o1 + (k * 3 + 1), none⟩) hb1, hc1 _ (by omega), g2], by rw [Nat.add_assoc, hW.cell (p := ⟨b1, o1 + (k * 3 + 2), none⟩) hb1, hc1 _ (by omega), g3]⟩
   have hsm : zn.size ≤ maxLen := by unfold maxLen; omega
   have HZS := Lib.hid hzs
   clear hz hc1 g1 g2 g3 hl1 hm1 hzs
   go_wp2_with fail
   refine (sDeedText_any zk zl zn _ hsm).mono ?_
   rintro e w5 ⟨rfl, hb⟩
   obtain ⟨d1, d2, d3⟩ := HC.out w5 hb
   have hO5 := owns_below hb hO
   have hod5 := owns_below hb hod
   have hr5 := hr.below hb hr.lt
   have hg5 := gb_below hb hg.size hg
   have hwz := hg5.size
   obtain ⟨T, hT⟩ : ∃ T, dtxt zk zl zn = T := ⟨_, rfl⟩
   have HT := Lib.hid hT
   rw [hT]
   clear hb hO hod hr hg c1 c2 c3 HC hT hsm
   by_cases h0 : T.size = 0
   ·
    obtain rfl : T = ⟨#[]⟩ := empty_of h0
    clear h0 d1 d2 d3
    go_wp2_with fail
    go_roundw
    case rel => exact ⟨k + 1, es, by go_num, by omega, by omega, HES, hO5, HAP, hod5, hr5, hg5⟩
    case measure => simp [intOf]; omega
   ·
    obtain ⟨q1, q2⟩ := some_of h0
    have H0 := Lib.hid h0
    clear h0
    go_wp2_with (at_builtin; refine wpList_append_own_at _ rfl _ _ 44 rfl w.heap.size 55 i0 _ 3 32 Tryz.underlying44 hi hz0 hz1 hz2 rfl (by decide) _ _ _ rfl (hO5.alloc _) ⟨w5.heap.size, 0, none⟩ 1 1 [.int .i64 zk, .int .i64 zl, .string zn] rfl rfl (news3 _ _ _ _ _ _ (by first | rfl | simp)) (oneD _ _ _) (by unfold maxLen; omega) (by omega) (by simp; omega) ?_; intro v' w6 hown' hgrow _ hat)
    have hod6 := (hod5.alloc (.cells #[.int .i64 zk, .int .i64 zl, .string zn] 55)).kept hgrow HAP.out
    have hr6 := (hr5.alloc (o := .cells #[.int .i64 zk, .int .i64 zl, .string zn] 55)).kept hgrow (fun b hb => by have := own_ge hO5 b hb; omega)
    have hg6 := gb_low (gb_alloc (o := .cells #[.int .i64 zk, .int .i64 zl, .string zn] 55) hg5) hgrow (fun b hb => own_ge hO5 b hb)
    have HAP6 := Lib.hid (ap_next (hod5.alloc (.cells #[.int .i64 zk, .int .i64 zl, .string zn] 55)) HAP.out hat)
    have hdc : dcells es ++ [.int .i64 zk, .int .i64 zl, .string zn] = dcells (es ++ [(zk, zl, zn)]) := by rw [dcells_app]; rfl
    rw [hdc] at hown'
    have HES2 : Hid (∀ d ∈ es ++ [(zk, zl, zn)], d.2.2.size ≤ 8 ∧ (dt d).size ≠ 0) := fun d hd => by
     rcases List.mem_append.1 hd with h | h
     ·
      exact HES.out d h
     ·
      simp at h; subst h; exact ⟨HZS.out, by show (dtxt zk zl zn).size ≠ 0; rw [HT.out]; exact H0.out⟩
    clear hO5 hod5 hr5 hg5 hgrow hat d1 d2 d3
    go_wp2_with fail
    go_roundw
    case rel => exact ⟨k + 1, es ++ [(zk, zl, zn)], by go_num, by omega, by simp; omega, HES2, by rw [List.length_append]; exact hown', HAP6, hod6, hr6, hg6⟩
    case measure => simp [intOf]; omega
  ·
   obtain rfl : k = n := by omega
   go_wp2
   go_returns
   exact ⟨_, es, q3, rfl, hO, by omega, HES.out, by omega, by omega, hr, hg⟩

end Go.Proofs.YtedadhoneebfnaaGreatDoor
