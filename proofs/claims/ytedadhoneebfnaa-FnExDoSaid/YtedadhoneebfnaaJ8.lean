/- Joined texts: Mg, Cd, Cl8, Cx. -/
import Derived.Test.YtedadhoneebfnaaJ7
import Derived.Test.YtedadhoneebfnaaCv2
import Derived.Test.YtedadhoneebfnaaCm
import Derived.Deep.DeepCutAuto
import Derived.Test.YtedadhoneebfnaaJ4
import Derived.Test.YtedadhoneebfnaaJ1
import Derived.Lib.AppendZeros
import Derived.Lib.SliceRun
import Derived.Test.YtedadhoneebfnaaJ5
set_option linter.unusedSimpArgs false
set_option linter.unusedVariables false
/- Contract of MiddleFree of the reference. -/
namespace Go.Proofs.Ytedadhoneebfnaa
open Go.RowKit

theorem own_empty8 {w : World} {base g : Nat} {E : TypeId} {size : Nat} (hg : g = w.heap.size) (hb : base ≤ g) : (w.alloc (.cells #[] E)).ownsRow base E size (.slice (some ⟨g, 0, none⟩) 0 0) 0 [] := by
 subst hg
 exact World.ownsRow_lit w #[] 0 hb (by unfold maxLen; omega) (by simp)
theorem rds_one3 {w : World} {b : Nat} {T : TypeId} {x0 x1 x2 : Value} (h : Blk w b #[x0, x1, x2] T) : Rds w (.slice (some ⟨b, 0, none⟩) 1 1) 1 3 [x0, x1, x2] := by
 refine ⟨rfl, by unfold maxLen; omega, _, _, rfl, Nat.le_refl _, .inr ⟨b, 0, rfl, h.lt, fun i hi => ?_⟩⟩
 rw [Nat.zero_add, h.at i]
 match i with
 | 0 => rfl
 | 1 => rfl
 | 2 => rfl
 | i + 3 => omega

set_option maxRecDepth 100000 in
set_option maxHeartbeats 4000000 in
theorem sMiddleFree_any (O E : Int) (m : Nat) (v : Value) (cs : List Cl) (x y : Int) (w : World) (hok : CallsOk O E m cs) (hv : Rds w v cs.length 3 (ccells cs)) (hx : 0 ≤ x ∧ x < O * E) (hy : 0 ≤ y ∧ y < O * E) (hf : freeB cs x y) :
  Calls Try.prog 115 #[.agg #[.int .i64 O, .int .i64 E, .int .i64 m], v, .int .i64 x, .int .i64 y] w (IvOut (freeL E m cs x y) w) := by
 obtain ⟨i0, hi, hz0, hz1, hz2⟩ := info_parts infoI8
 obtain ⟨j0, hj, hy0, hy1, hy2⟩ := info_parts infoC
 have hm5 := hok.sh.m
 have HOK := Lib.hid hok
 have HX := Lib.hid hx
 have HY := Lib.hid hy
 have HF := Lib.hid hf
 have hcn := hok.count (lines_le hok.sh)
 have hB := (Blk.new (w := w) (cs := #[.int .i64 O, .int .i64 E, .int .i64 (m : Nat)]) (T := 30) rfl).alloc (.cells #[] 3)
 have hbel0 : Below w.heap.size w ((w.alloc (.cells #[.int .i64 O, .int .i64 E, .int .i64 (m : Nat)] 30)).alloc (.cells #[] 3)) := by (exact grownA)
 have HV := Lib.hid hv
 obtain ⟨_, _, a, ca, rfl, _⟩ := hv
 have HCB := Lib.hid ((callsB_iff O E m cs).2 hok)
 clear hok hf hx hy
 go_enter Try.func115, Try.ntmps115
 go_wp2_with fail
 go_loopw [9, 10] (fun v i wr => ∃ k : Nat, k ≤ m ∧ i = .int .i64 k ∧ wr.ownsRow (w.heap.size + 1) 3 1 v (freeTo E m cs x y k).length (ivs (freeTo E m cs x y k)) ∧ Below w.heap.size w wr ∧ Blk wr w.heap.size #[.int .i64 O, .int .i64 E, .int .i64 (m : Nat)] 30) (fun _ i _ => m - (intOf i).toNat)
 case atStart => exact ⟨0, by omega, rfl, (by rw [freeTo_zero]; exact own_empty8 (by simp) (Nat.le_refl _)), hbel0, hB⟩
 case round =>
  obtain ⟨k, hk, rfl, hown, hbel, hBr⟩ := hrel
  have hz := hbel.size
  obtain ⟨s1, s2, s3, _, _, _, slt⟩ := hBr.three
  by_cases hkn : k < m
  ·
   have hlen := freeTo_len E m cs x y k
   go_wp2_with fail
   refine (sCallsValid_any _ _ _ _ _ _ (HV.out.below hbel)).mono ?_
   rintro e w1 ⟨rfl, hb1⟩
   have hbel1 : Below w.heap.size w w1 := by (exact grownA)
   have hB1 := hBr.belowAll hb1
   have hown1 := owns_below hb1 hown
   rw [HCB.out]
   clear hBr hb1 s1 s2 s3 slt hown
   obtain ⟨s1, s2, s3, _, _, _, slt⟩ := hB1.three
   have hzw1 := hbel1.size
   go_upto_region 5 with fail
   go_cut [33] (fun t wc => t = .bool (callsB O E m (cs ++ [(x, y, (k : Int))])) ∧ Below w1.heap.size w1 wc)
   case first =>
    have hRA : Rds w1 (.slice a cs.length ca) cs.length 3 (ccells cs) := HV.out.below hbel1
    go_wp2_with fail
    refine wp_region_held_drew (S := fun w' => w'.cell? ⟨w.heap.size, 0, none⟩ = some (.int .i64 O) ∧ w'.cell? ⟨w.heap.size, 1, none⟩ = some (.int .i64 E) ∧ w'.cell? ⟨w.heap.size, 2, none⟩ = some (.int .i64 (m : Nat))) (by kernel_rfl) (by (try dsimp only); (exact keepA)) (fun hHeld => ?_)
    refine take_y 0 23 (v := ?_) rfl ?_ ?_; rotate_left; focus (intro w hSw; (try dsimp only at hSw); go_simp; (try rw [if_neg (by omega)]); (try with_reducible rfl))
    try simp only [Act.put, zp1, zp2, zp3]
    refine take_y 2 25 (v := ?_) rfl ?_ ?_; rotate_left; focus (intro w hSw; (try dsimp only at hSw); go_simp; (try rw [if_neg (by omega)]); (try with_reducible rfl))
    try simp only [Act.put, zp1, zp2, zp3]
    refine take_y 4 27 (v := ?_) rfl ?_ ?_; rotate_left; focus (intro w hSw; (try dsimp only at hSw); go_simp; (try rw [if_neg (by omega)]); (try with_reducible rfl))
    try simp only [Act.put, zp1, zp2, zp3]
    refine take_y 5 28 (v := ?_) rfl ?_ ?_; rotate_left; focus (intro w hSw; (try dsimp only at hSw); go_simp; (try rw [if_neg (by omega)]); (try with_reducible rfl))
    try simp only [Act.put, zp1, zp2, zp3]
    refine take_y 6 29 (v := ?_) rfl ?_ ?_; rotate_left; focus (intro w hSw; (try dsimp only at hSw); go_simp; (try rw [if_neg (by omega)]); (try with_reducible rfl))
    try simp only [Act.put, zp1, zp2, zp3]
    refine take_y 7 30 (v := ?_) rfl ?_ ?_; rotate_left; focus (intro w hSw; (try dsimp only at hSw); go_simp; (try rw [if_neg (by omega)]); (try with_reducible rfl))
    try simp only [Act.put, zp1, zp2, zp3]
    refine wpAnyH_ready (rs := [1, 8]) (by kernel_rfl) (by simp) ?_
    refine AllReadyH.cons rfl (fun K hK => ?_) (AllReadyH.cons rfl (fun K hK => ?_) AllReadyH.nil)
    ·
     go_simp
     refine hK.out _ _ againA (fun hHeld2 => ?_); clear hHeld hK K; have hHeld := hHeld2; clear hHeld2; (try simp only [Act.put, zp1, zp2, zp3])
     refine wpAnyH_ready (rs := [3, 8]) (by kernel_rfl) (by simp) ?_
     refine AllReadyH.cons rfl (fun K hK => ?_) (AllReadyH.cons rfl (fun K hK => ?_) AllReadyH.nil)
     ·
      skip
      have hoE : World.ownsRow (World.alloc w1.drew (.cells #[] 57)) w1.heap.size 57 3 (.slice (some ⟨w1.heap.size, 0, none⟩) 0 0) 0 [] := (by (repeat' (first | (with_reducible refine own_empty8 (by first | rfl | (simp; done)) (by first | (simp; done) | (simp; omega) | omega)) | (with_reducible apply World.ownsRow.alloc))))
      have hbE : Below w1.heap.size w1 (World.alloc w1.drew (.cells #[] 57)) := by (exact grownA)
      refine step_append_rds _ (by rfl) _ _ _ (by rfl) w1.heap.size 57 j0 _ 3 24 Try.underlying31 hj hy0 hy1 hy2 rfl (by decide) _ 0 [] (by rfl) hoE _ cs.length (ccells cs) (by rfl) (hRA.below hbE) (ccells_one cs) (by unfold maxLen; omega) (by omega) (by first | omega | (simp; done) | (simp; omega)) ?_
      intro va wa hoa hga hva
      have hbA : Below w1.heap.size w1 wa := hbE.grown hga hbE.size (own_ge hoE)
      have hzA := hbA.size
      have hBA := hB1.belowAll hbA
      obtain ⟨p1, p2, p3, _, _, _, plt⟩ := hBA.three
      clear hga hoE hbE
      refine hK.out _ _ againA (fun hHeld2 => ?_); clear hHeld hK K; have hHeld := hHeld2; clear hHeld2; (try simp only [Act.put, zp1, zp2, zp3])
      refine wpAnyH_ready (rs := [8]) (by kernel_rfl) (by simp) ?_
      refine AllReadyH.cons rfl (fun K hK => ?_) AllReadyH.nil
      go_simp
      refine hK.out _ _ againA (fun hHeld2 => ?_); clear hHeld hK K; have hHeld := hHeld2; clear hHeld2; (try simp only [Act.put, zp1, zp2, zp3])
      have hoB := World.ownsRow.alloc hoa (.cells #[.int .i64 x, .int .i64 y, .int .i64 (k : Nat)] 57)
      have hbB := hbA.alloc hzA (.cells #[.int .i64 x, .int .i64 y, .int .i64 (k : Nat)] 57)
      have hBq := Blk.new (w := wa) (cs := #[.int .i64 x, .int .i64 y, .int .i64 (k : Nat)]) (T := 57) rfl
      refine wpAnyH_ready (rs := [9]) (by kernel_rfl) (by simp) ?_
      refine AllReadyH.cons rfl (fun K hK => ?_) AllReadyH.nil
      refine step_append_rds _ (by rfl) _ _ _ (by rfl) w1.heap.size 57 j0 _ 3 24 Try.underlying31 hj hy0 hy1 hy2 rfl (by decide) _ (0 + cs.length) ([] ++ ccells cs) (by rfl) hoB _ 1 [.int .i64 x, .int .i64 y, .int .i64 (k : Nat)] (by rfl) (rds_one3 hBq) (oneC _ _ _) (by unfold maxLen; omega) (by omega) (by first | omega | (simp; done) | (simp; omega)) ?_
      intro vb wb hob hgb hvb
      have hbC : Below w1.heap.size w1 wb := hbB.grown hgb hbB.size (own_ge hoB)
      have hzC := hbC.size
      have hBC := hB1.belowAll hbC
      obtain ⟨r1, r2, r3, _, _, _, rlt⟩ := hBC.three
      clear hgb
      refine hK.out _ _ againA (fun hHeld2 => ?_); clear hHeld hK K; have hHeld := hHeld2; clear hHeld2; (try simp only [Act.put, zp1, zp2, zp3])
      refine wpAnyH_ready (rs := [10]) (by kernel_rfl) (by simp) ?_
      refine AllReadyH.cons rfl (fun K hK => ?_) AllReadyH.nil
      go_simp
      have hrd : Rds wb vb (cs ++ [(x, y, (k : Int))]).length 3 (ccells (cs ++ [(x, y, (k : Int))])) := by
       have := Rds.ofOwns hob
       rw [List.nil_append, ccells_snoc] at this
       rw [List.length_append]
       rw [Nat.zero_add] at this
       exact this
      clear hob
      refine (sCallsValid_any _ _ _ _ _ _ hrd).mono ?_
      rintro e wd ⟨rfl, hbd⟩
      refine hK.out _ _ againA (fun hHeld2 => ?_); clear hHeld hK K; have hHeld := hHeld2; clear hHeld2; (try simp only [Act.put, zp1, zp2, zp3])
      refine wpAnyH_done (by kernel_rfl) ?_ _
      clear hHeld
      go_wp2_with fail
      go_meet
      exact ⟨rfl, hbC.trans (Below.mono hbd hzC)⟩
     ·
      skip
      go_simp
      refine hK.out _ _ againA (fun hHeld2 => ?_); clear hHeld hK K; have hHeld := hHeld2; clear hHeld2; (try simp only [Act.put, zp1, zp2, zp3])
      refine wpAnyH_ready (rs := [3]) (by kernel_rfl) (by simp) ?_
      refine AllReadyH.cons rfl (fun K hK => ?_) AllReadyH.nil
      have hoE : World.ownsRow (World.alloc (World.alloc w1.drew (.cells #[] 57)) (.cells #[.int .i64 x, .int .i64 y, .int .i64 (k : Nat)] 57)) w1.heap.size 57 3 (.slice (some ⟨w1.heap.size, 0, none⟩) 0 0) 0 [] := (by (repeat' (first | (with_reducible refine own_empty8 (by first | rfl | (simp; done)) (by first | (simp; done) | (simp; omega) | omega)) | (with_reducible apply World.ownsRow.alloc))))
      have hbE : Below w1.heap.size w1 (World.alloc (World.alloc w1.drew (.cells #[] 57)) (.cells #[.int .i64 x, .int .i64 y, .int .i64 (k : Nat)] 57)) := by (exact grownA)
      refine step_append_rds _ (by rfl) _ _ _ (by rfl) w1.heap.size 57 j0 _ 3 24 Try.underlying31 hj hy0 hy1 hy2 rfl (by decide) _ 0 [] (by rfl) hoE _ cs.length (ccells cs) (by rfl) (hRA.below hbE) (ccells_one cs) (by unfold maxLen; omega) (by omega) (by first | omega | (simp; done) | (simp; omega)) ?_
      intro va wa hoa hga hva
      have hbA : Below w1.heap.size w1 wa := hbE.grown hga hbE.size (own_ge hoE)
      have hzA := hbA.size
      have hBA := hB1.belowAll hbA
      obtain ⟨p1, p2, p3, _, _, _, plt⟩ := hBA.three
      have hgaK := hga
      clear hga hoE hbE
      refine hK.out _ _ againA (fun hHeld2 => ?_); clear hHeld hK K; have hHeld := hHeld2; clear hHeld2; (try simp only [Act.put, zp1, zp2, zp3])
      have hoB := hoa
      have hbB := hbA
      have hBq0 := Blk.new (w := World.alloc w1.drew (.cells #[] 57)) (cs := #[.int .i64 x, .int .i64 y, .int .i64 (k : Nat)]) (T := 57) (b := w1.heap.size + 1) (by simp)
      have hBq := Blk.gbr hgaK (by simp [Value.ownBlock]) hBq0
      refine wpAnyH_ready (rs := [9]) (by kernel_rfl) (by simp) ?_
      refine AllReadyH.cons rfl (fun K hK => ?_) AllReadyH.nil
      refine step_append_rds _ (by rfl) _ _ _ (by rfl) w1.heap.size 57 j0 _ 3 24 Try.underlying31 hj hy0 hy1 hy2 rfl (by decide) _ (0 + cs.length) ([] ++ ccells cs) (by rfl) hoB _ 1 [.int .i64 x, .int .i64 y, .int .i64 (k : Nat)] (by rfl) (rds_one3 hBq) (oneC _ _ _) (by unfold maxLen; omega) (by omega) (by first | omega | (simp; done) | (simp; omega)) ?_
      intro vb wb hob hgb hvb
      have hbC : Below w1.heap.size w1 wb := hbB.grown hgb hbB.size (own_ge hoB)
      have hzC := hbC.size
      have hBC := hB1.belowAll hbC
      obtain ⟨r1, r2, r3, _, _, _, rlt⟩ := hBC.three
      clear hgb
      refine hK.out _ _ againA (fun hHeld2 => ?_); clear hHeld hK K; have hHeld := hHeld2; clear hHeld2; (try simp only [Act.put, zp1, zp2, zp3])
      refine wpAnyH_ready (rs := [10]) (by kernel_rfl) (by simp) ?_
      refine AllReadyH.cons rfl (fun K hK => ?_) AllReadyH.nil
      go_simp
      have hrd : Rds wb vb (cs ++ [(x, y, (k : Int))]).length 3 (ccells (cs ++ [(x, y, (k : Int))])) := by
       have := Rds.ofOwns hob
       rw [List.nil_append, ccells_snoc] at this
       rw [List.length_append]
       rw [Nat.zero_add] at this
       exact this
      clear hob
      refine (sCallsValid_any _ _ _ _ _ _ hrd).mono ?_
      rintro e wd ⟨rfl, hbd⟩
      refine hK.out _ _ againA (fun hHeld2 => ?_); clear hHeld hK K; have hHeld := hHeld2; clear hHeld2; (try simp only [Act.put, zp1, zp2, zp3])
      refine wpAnyH_done (by kernel_rfl) ?_ _
      clear hHeld
      go_wp2_with fail
      go_meet
      exact ⟨rfl, hbC.trans (Below.mono hbd hzC)⟩
    ·
     go_simp
     refine hK.out _ _ againA (fun hHeld2 => ?_); clear hHeld hK K; have hHeld := hHeld2; clear hHeld2; (try simp only [Act.put, zp1, zp2, zp3])
     refine wpAnyH_ready (rs := [1]) (by kernel_rfl) (by simp) ?_
     refine AllReadyH.cons rfl (fun K hK => ?_) AllReadyH.nil
     go_simp
     refine hK.out _ _ againA (fun hHeld2 => ?_); clear hHeld hK K; have hHeld := hHeld2; clear hHeld2; (try simp only [Act.put, zp1, zp2, zp3])
     refine wpAnyH_ready (rs := [3]) (by kernel_rfl) (by simp) ?_
     refine AllReadyH.cons rfl (fun K hK => ?_) AllReadyH.nil
     have hoE : World.ownsRow (World.alloc (World.alloc w1.drew (.cells #[.int .i64 x, .int .i64 y, .int .i64 (k : Nat)] 57)) (.cells #[] 57)) w1.heap.size 57 3 (.slice (some ⟨w1.heap.size + 1, 0, none⟩) 0 0) 0 [] := (by (repeat' (first | (with_reducible refine own_empty8 (by first | rfl | (simp; done)) (by first | (simp; done) | (simp; omega) | omega)) | (with_reducible apply World.ownsRow.alloc))))
     have hbE : Below w1.heap.size w1 (World.alloc (World.alloc w1.drew (.cells #[.int .i64 x, .int .i64 y, .int .i64 (k : Nat)] 57)) (.cells #[] 57)) := by (exact grownA)
     refine step_append_rds _ (by rfl) _ _ _ (by rfl) w1.heap.size 57 j0 _ 3 24 Try.underlying31 hj hy0 hy1 hy2 rfl (by decide) _ 0 [] (by rfl) hoE _ cs.length (ccells cs) (by rfl) (hRA.below hbE) (ccells_one cs) (by unfold maxLen; omega) (by omega) (by first | omega | (simp; done) | (simp; omega)) ?_
     intro va wa hoa hga hva
     have hbA : Below w1.heap.size w1 wa := hbE.grown hga hbE.size (own_ge hoE)
     have hzA := hbA.size
     have hBA := hB1.belowAll hbA
     obtain ⟨p1, p2, p3, _, _, _, plt⟩ := hBA.three
     have hgaK := hga
     clear hga hoE hbE
     refine hK.out _ _ againA (fun hHeld2 => ?_); clear hHeld hK K; have hHeld := hHeld2; clear hHeld2; (try simp only [Act.put, zp1, zp2, zp3])
     have hoB := hoa
     have hbB := hbA
     have hBq0 := (Blk.new (w := w1.drew) (cs := #[.int .i64 x, .int .i64 y, .int .i64 (k : Nat)]) (T := 57) (b := w1.heap.size) (by simp)).alloc (.cells #[] 57)
     have hBq := Blk.gbr hgaK (by simp [Value.ownBlock]) hBq0
     refine wpAnyH_ready (rs := [9]) (by kernel_rfl) (by simp) ?_
     refine AllReadyH.cons rfl (fun K hK => ?_) AllReadyH.nil
     refine step_append_rds _ (by rfl) _ _ _ (by rfl) w1.heap.size 57 j0 _ 3 24 Try.underlying31 hj hy0 hy1 hy2 rfl (by decide) _ (0 + cs.length) ([] ++ ccells cs) (by rfl) hoB _ 1 [.int .i64 x, .int .i64 y, .int .i64 (k : Nat)] (by rfl) (rds_one3 hBq) (oneC _ _ _) (by unfold maxLen; omega) (by omega) (by first | omega | (simp; done) | (simp; omega)) ?_
     intro vb wb hob hgb hvb
     have hbC : Below w1.heap.size w1 wb := hbB.grown hgb hbB.size (own_ge hoB)
     have hzC := hbC.size
     have hBC := hB1.belowAll hbC
     obtain ⟨r1, r2, r3, _, _, _, rlt⟩ := hBC.three
     clear hgb
     refine hK.out _ _ againA (fun hHeld2 => ?_); clear hHeld hK K; have hHeld := hHeld2; clear hHeld2; (try simp only [Act.put, zp1, zp2, zp3])
     refine wpAnyH_ready (rs := [10]) (by kernel_rfl) (by simp) ?_
     refine AllReadyH.cons rfl (fun K hK => ?_) AllReadyH.nil
     go_simp
     have hrd : Rds wb vb (cs ++ [(x, y, (k : Int))]).length 3 (ccells (cs ++ [(x, y, (k : Int))])) := by
      have := Rds.ofOwns hob
      rw [List.nil_append, ccells_snoc] at this
      rw [List.length_append]
      rw [Nat.zero_add] at this
      exact this
     clear hob
     refine (sCallsValid_any _ _ _ _ _ _ hrd).mono ?_
     rintro e wd ⟨rfl, hbd⟩
     refine hK.out _ _ againA (fun hHeld2 => ?_); clear hHeld hK K; have hHeld := hHeld2; clear hHeld2; (try simp only [Act.put, zp1, zp2, zp3])
     refine wpAnyH_done (by kernel_rfl) ?_ _
     clear hHeld
     go_wp2_with fail
     go_meet
     exact ⟨rfl, hbC.trans (Below.mono hbd hzC)⟩
   case rest =>
    obtain ⟨rfl, hbc⟩ := hcut
    have hown2 := owns_below hbc hown1
    have hbel2 : Below w.heap.size w wc := by (exact grownA)
    have hB2 := hB1.belowAll hbc
    have hzw2 := hbel2.size
    clear hbc hbel1 hB1 hown1 s1 s2 s3 slt
    obtain ⟨s1, s2, s3, _, _, _, slt⟩ := hB2.three
    have hpi := push_iff (v := (k : Int)) HOK.out HX.out HY.out ⟨by omega, by omega⟩ HF.out
    obtain ⟨b1, hb1⟩ : ∃ b, usedB E cs false (x / E) (k : Nat) = b := ⟨_, rfl⟩
    obtain ⟨b2, hb2⟩ : ∃ b, usedB E cs true (y / E) (k : Nat) = b := ⟨_, rfl⟩
    rw [hb1, hb2] at hpi
    have HB1 := Lib.hid hb1
    have HB2 := Lib.hid hb2
    have HPI := Lib.hid hpi
    clear hb1 hb2 hpi
    cases b1
    ·
     cases b2
     ·
      rw [show callsB O E m (cs ++ [(x, y, (k : Int))]) = true from HPI.out]
      have HST := Lib.hid (freeTo_yes hkn HB1.out HB2.out)
      go_wp2_with (at_builtin; refine wpList_append_own _ rfl _ _ 54 rfl (w.heap.size + 1) 3 i0 _ 1 8 Try.underlying54 hi hz0 hz1 hz2 rfl (by decide) _ _ _ rfl (World.ownsRow.alloc hown2 _) ⟨wc.heap.size, 0, none⟩ 1 1 [.int .i64 (k : Nat)] rfl rfl (new1 _ _ _ _ (by first | rfl | simp)) (one1 _) (by unfold maxLen; omega) (by omega) (by simp; omega) ?_; intro v' w5 hown' hgrow _)
      have hge := own_ge hown2
      have hbel5 : Below w.heap.size w w5 := Below.grown (by (exact grownA)) hgrow (by simp; omega) (fun k hk => by have := hge k hk; omega)
      have hB5 : Blk w5 w.heap.size #[.int .i64 O, .int .i64 E, .int .i64 (m : Nat)] 30 := Blk.gbr hgrow (fun e => by have := hge _ e.symm; omega) (hB2.alloc _)
      clear hgrow hge s1 s2 s3 slt
      go_roundw
      case rel => exact ⟨k + 1, by omega, by go_num, by rw [HST.out, List.length_append, ← ivs_snoc]; exact hown', hbel5, hB5⟩
      case measure => simp [intOf]; omega
     ·
      rw [show callsB O E m (cs ++ [(x, y, (k : Int))]) = false from HPI.out]
      have HST := Lib.hid (freeTo_no (x := x) hkn (.inr HB2.out))
      go_wp2_with fail
      go_roundw
      case rel => exact ⟨k + 1, by omega, by go_num, by rw [HST.out]; exact hown2, hbel2, hB2⟩
      case measure => simp [intOf]; omega
    ·
     rw [show callsB O E m (cs ++ [(x, y, (k : Int))]) = false by rw [HPI.out]; rfl]
     have HST := Lib.hid (freeTo_no (y := y) hkn (.inl HB1.out))
     go_wp2_with fail
     go_roundw
     case rel => exact ⟨k + 1, by omega, by go_num, by rw [HST.out]; exact hown2, hbel2, hB2⟩
     case measure => simp [intOf]; omega
  ·
   obtain rfl : k = m := by omega
   have HFA := Lib.hid (freeTo_all E k cs x y)
   go_wp2
   go_returns
   refine ⟨_, rfl, ?_, hbel⟩
   rw [← HFA.out]
   exact owns_base (by omega) hown

end Go.Proofs.Ytedadhoneebfnaa

/- Contracts of CallDrop (program and reference). -/
namespace Go.Proofs.Ytedadhoneebfnaa
open Go.RowKit

theorem own_len9 {w : World} {base n : Nat} {E : TypeId} {size : Nat} {v : Value} {xs : List Value} (h : w.ownsRow base E size v n xs) : ∃ a c, v = .slice a n c := by
 rcases h.2 with ⟨rfl, rfl⟩ | ⟨g, cap, cur, rfl, _⟩
 ·
  exact ⟨_, _, rfl⟩
 ·
  exact ⟨_, _, rfl⟩
theorem drop_yes {cs : List Cl} {x : Int} {k : Nat} {c : Cl} (hc : cs[k]? = some c) (h : c.1 ≠ x) : dropL (cs.take (k + 1)) x = dropL (cs.take k) x ++ [c] := by
 obtain ⟨hk, rfl⟩ := List.getElem?_eq_some_iff.1 hc
 unfold dropL
 rw [List.take_succ_eq_append_getElem hk, List.filter_append]
 simp [h]
theorem drop_no {cs : List Cl} {x : Int} {k : Nat} {c : Cl} (hc : cs[k]? = some c) (h : c.1 = x) : dropL (cs.take (k + 1)) x = dropL (cs.take k) x := by
 obtain ⟨hk, rfl⟩ := List.getElem?_eq_some_iff.1 hc
 unfold dropL
 rw [List.take_succ_eq_append_getElem hk, List.filter_append]
 simp [h]
theorem dropTo_len (cs : List Cl) (x : Int) (k : Nat) : (dropL (cs.take k) x).length ≤ k := by
 have := dropL_len (cs := cs.take k) (x := x)
 rw [List.length_take] at this; omega
/-- Calls made anew, and whether there is one less. -/
def DrPost (cs : List Cl) (x : Int) (w : World) (e : Ending) (w' : World) : Prop := ∃ v, e = .returned (.tuple #[v, .bool (decide ((dropL cs x).length < cs.length))]) ∧ w'.ownsRow w.heap.size 57 3 v (dropL cs x).length (ccells (dropL cs x)) ∧ Below w.heap.size w w'

set_option maxRecDepth 100000 in
set_option maxHeartbeats 2000000 in
theorem iCallDrop_any (O E M : Int) (v : Value) (cs : List Cl) (x : Int) (w : World) (hok : CallsOk O E M cs) (hv : Rds w v cs.length 3 (ccells cs)) :
  Calls Try.prog 113 #[.agg #[.int .i64 O, .int .i64 E, .int .i64 M], v, .int .i64 x] w (DrPost cs x w) := by
 obtain ⟨i0, hi, hz0, hz1, hz2⟩ := info_parts infoC
 have hcn := hok.count (lines_le hok.sh)
 have hB := Blk.new (w := w) (cs := #[.int .i64 O, .int .i64 E, .int .i64 M]) (T := 30) rfl
 have hbel0 : Below w.heap.size w (w.alloc (.cells #[.int .i64 O, .int .i64 E, .int .i64 M] 30)) := by (exact grownA)
 have HV := Lib.hid hv
 obtain ⟨-, -, a, ca, rfl, hnc, hc1⟩ := hv
 have HCB := Lib.hid ((callsB_iff O E M cs).2 hok)
 have HC1 := Lib.hid hc1
 obtain ⟨n, hn⟩ : ∃ n, cs.length = n := ⟨_, rfl⟩
 have HN := Lib.hid hn
 rw [hn] at hcn hnc HC1 ⊢
 have HV2 : Hid (Rds w (.slice a n ca) cs.length 3 (ccells cs)) := by unfold Hid; rw [← hn]; exact HV.out
 obtain ⟨t1, t2, t3, -, -, -, tlt⟩ := hB.three
 clear hok hc1 hn HV
 go_enter Try.func113, Try.ntmps113
 go_wp2_with fail
 refine (iCallsValid_any _ _ _ _ _ _ (HV2.out.below hbel0)).mono ?_
 rintro e w1 ⟨rfl, hb1⟩
 have hbel1 : Below w.heap.size w w1 := by (exact grownA)
 rw [HCB.out]
 clear hB hb1 t1 t2 t3 tlt hbel0
 have hzw := hbel1.size
 go_wp2_with (refine wpList_make_own _ rfl _ _ 31 rfl w.heap.size 57 i0 _ 3 Try.underlying31 hi hz0 hz1 .i64 .i64 _ n rfl rfl rfl (by rw [hz2]; omega) (by unfold maxLen; omega) hzw ?_; intro w2 hmk hgr; have hbel2 : Below w.heap.size w w2 := hbel1.grown hgr hzw (by intro k hk; cases hk))
 clear hgr hbel1
 go_wp2_with fail
 go_loopw [8, 20] (fun v i wr => ∃ k : Nat, k ≤ n ∧ i = .int .i64 k ∧ wr.ownsRow w.heap.size 57 3 v (dropL (cs.take k) x).length (ccells (dropL (cs.take k) x)) ∧ Below w.heap.size w wr) (fun _ i _ => n - (intOf i).toNat)
 case atStart => exact ⟨0, by omega, rfl, hmk, hbel2⟩
 case round =>
  obtain ⟨k, hk, rfl, hown, hbel⟩ := hrel
  have hz := hbel.size
  by_cases hkn : k < n
  ·
   rcases HC1.out with hc1 | ⟨b, off, rfl, hb, hc1⟩
   ·
    omega
   obtain ⟨c, hc⟩ : ∃ c, cs[k]? = some c := ⟨_, List.getElem?_eq_getElem (by rw [HN.out]; omega)⟩
   obtain ⟨k1, k2, k3⟩ := cl_get (cl_below hbel hb hc1) hc hkn
   have hlen := dropTo_len cs x k
   have HC := Lib.hid hc
   clear hc hc1
   obtain ⟨u, y, m⟩ := c
   simp only at k1 k2 k3
   by_cases h1 : u = x
   ·
    have hq : ((u : Int) == x) = true := by simpa using h1
    have hq2 : ((u : Int) != x) = false := by simpa using h1
    have HST := Lib.hid (drop_no HC.out h1)
    clear h1
    go_wp2_with fail
    go_roundw
    case rel => exact ⟨k + 1, by omega, by go_num, by rw [HST.out]; exact hown.alloc _, by (exact grownA)⟩
    case measure => simp [intOf]; omega
   ·
    have hq : ((u : Int) == x) = false := by simpa using h1
    have hq2 : ((u : Int) != x) = true := by simpa using h1
    have HST := Lib.hid (drop_yes HC.out h1)
    clear h1
    go_wp2_with (at_builtin; refine wpList_append_own _ rfl _ _ 31 rfl w.heap.size 57 i0 _ 3 24 Try.underlying31 hi hz0 hz1 hz2 rfl (by decide) _ _ _ rfl ((hown.alloc _).alloc _) ⟨wr.heap.size + 1, 0, none⟩ 1 1 [.int .i64 u, .int .i64 y, .int .i64 m] rfl rfl (news3 _ _ _ _ _ _ (by first | rfl | simp)) (oneC _ _ _) (by unfold maxLen; omega) (by omega) (by simp; omega) ?_; intro v' w5 hown' hgrow _)
    have hbel5 : Below w.heap.size w w5 := Below.grown (by (exact grownA)) hgrow (by simp; omega) (own_ge hown)
    clear hgrow
    go_roundw
    case rel => exact ⟨k + 1, by omega, by go_num, by rw [HST.out, List.length_append, ← ccells_snoc]; exact hown', hbel5⟩
    case measure => simp [intOf]; omega
  ·
   obtain rfl : k = n := by omega
   have HT : Hid (cs.take k = cs) := by unfold Hid; rw [List.take_of_length_le (by rw [HN.out]; omega)]
   rw [HT.out] at hown
   obtain ⟨ac, cc, rfl⟩ := own_len9 hown
   go_wp2
   go_returns
   refine ⟨_, ?_, hown, hbel⟩
   rw [HN.out]
   first | rfl | (congr 3; simp)

set_option maxRecDepth 100000 in
set_option maxHeartbeats 2000000 in
theorem sCallDrop_any (O E M : Int) (v : Value) (cs : List Cl) (x : Int) (w : World) (hok : CallsOk O E M cs) (hv : Rds w v cs.length 3 (ccells cs)) :
  Calls Try.prog 98 #[.agg #[.int .i64 O, .int .i64 E, .int .i64 M], v, .int .i64 x] w (DrPost cs x w) := by
 obtain ⟨i0, hi, hz0, hz1, hz2⟩ := info_parts infoC
 have hcn := hok.count (lines_le hok.sh)
 have hB := Blk.new (w := w) (cs := #[.int .i64 O, .int .i64 E, .int .i64 M]) (T := 30) rfl
 have hbel0 : Below w.heap.size w (w.alloc (.cells #[.int .i64 O, .int .i64 E, .int .i64 M] 30)) := by (exact grownA)
 have HV := Lib.hid hv
 obtain ⟨-, -, a, ca, rfl, hnc, hc1⟩ := hv
 have HCB := Lib.hid ((callsB_iff O E M cs).2 hok)
 have HC1 := Lib.hid hc1
 obtain ⟨n, hn⟩ : ∃ n, cs.length = n := ⟨_, rfl⟩
 have HN := Lib.hid hn
 rw [hn] at hcn hnc HC1 ⊢
 have HV2 : Hid (Rds w (.slice a n ca) cs.length 3 (ccells cs)) := by unfold Hid; rw [← hn]; exact HV.out
 obtain ⟨t1, t2, t3, -, -, -, tlt⟩ := hB.three
 clear hok hc1 hn HV
 go_enter Try.func98, Try.ntmps98
 go_wp2_with fail
 refine (sCallsValid_any _ _ _ _ _ _ (HV2.out.below hbel0)).mono ?_
 rintro e w1 ⟨rfl, hb1⟩
 have hbel1 : Below w.heap.size w w1 := by (exact grownA)
 rw [HCB.out]
 clear hB hb1 t1 t2 t3 tlt hbel0
 have hzw := hbel1.size
 have hbel2 := hbel1.alloc hzw (.cells #[] 57)
 go_wp2_with fail
 go_loopw [8, 9] (fun v i wr => ∃ k : Nat, k ≤ n ∧ i = .int .i64 k ∧ wr.ownsRow w.heap.size 57 3 v (dropL (cs.take k) x).length (ccells (dropL (cs.take k) x)) ∧ Below w.heap.size w wr) (fun _ i _ => n - (intOf i).toNat)
 case atStart => exact ⟨0, by omega, rfl, by exact own_empty8 rfl hzw, hbel2⟩
 case round =>
  obtain ⟨k, hk, rfl, hown, hbel⟩ := hrel
  have hz := hbel.size
  by_cases hkn : k < n
  ·
   rcases HC1.out with hc1 | ⟨b, off, rfl, hb, hc1⟩
   ·
    omega
   obtain ⟨c, hc⟩ : ∃ c, cs[k]? = some c := ⟨_, List.getElem?_eq_getElem (by rw [HN.out]; omega)⟩
   obtain ⟨k1, k2, k3⟩ := cl_get (cl_below hbel hb hc1) hc hkn
   have hlen := dropTo_len cs x k
   have HC := Lib.hid hc
   clear hc hc1
   obtain ⟨u, y, m⟩ := c
   simp only at k1 k2 k3
   by_cases h1 : u = x
   ·
    have hq : ((u : Int) == x) = true := by simpa using h1
    have hq2 : ((u : Int) != x) = false := by simpa using h1
    have HST := Lib.hid (drop_no HC.out h1)
    clear h1
    go_wp2_with fail
    go_roundw
    case rel => exact ⟨k + 1, by omega, by go_num, by rw [HST.out]; exact hown, hbel⟩
    case measure => simp [intOf]; omega
   ·
    have hq : ((u : Int) == x) = false := by simpa using h1
    have hq2 : ((u : Int) != x) = true := by simpa using h1
    have HST := Lib.hid (drop_yes HC.out h1)
    clear h1
    go_wp2_with (at_builtin; refine wpList_append_own _ rfl _ _ 31 rfl w.heap.size 57 i0 _ 3 24 Try.underlying31 hi hz0 hz1 hz2 rfl (by decide) _ _ _ rfl (hown.alloc _) ⟨wr.heap.size, 0, none⟩ 1 1 [.int .i64 u, .int .i64 y, .int .i64 m] rfl rfl (news3 _ _ _ _ _ _ (by first | rfl | simp)) (oneC _ _ _) (by unfold maxLen; omega) (by omega) (by simp; omega) ?_; intro v' w5 hown' hgrow _)
    have hbel5 : Below w.heap.size w w5 := Below.grown (by (exact grownA)) hgrow (by simp; omega) (own_ge hown)
    clear hgrow
    go_wp2_with fail
    go_roundw
    case rel => exact ⟨k + 1, by omega, by go_num, by rw [HST.out, List.length_append, ← ccells_snoc]; exact hown', hbel5⟩
    case measure => simp [intOf]; omega
  ·
   obtain rfl : k = n := by omega
   have HT : Hid (cs.take k = cs) := by unfold Hid; rw [List.take_of_length_le (by rw [HN.out]; omega)]
   rw [HT.out] at hown
   obtain ⟨ac, cc, rfl⟩ := own_len9 hown
   go_wp2
   go_returns
   refine ⟨_, ?_, hown, hbel⟩
   rw [HN.out]
   first | rfl | (congr 3; simp)

end Go.Proofs.Ytedadhoneebfnaa

/- Contract of slices.Clone at strings. -/
namespace Go.Proofs.Ytedadhoneebfnaa
open Go.RowKit

theorem infoS8 : (Try.prog.info? 9).map (fun i => (i.zero, i.size, i.bytes)) = some (some (.string ByteArray.empty), 1, 16) := by kernel_rfl
theorem strs_one8 (ps : List ByteArray) : ∀ u ∈ strs ps, u.oneCell' = true := by
 intro u hu
 obtain ⟨q, _, rfl⟩ := List.mem_map.1 hu
 rfl
/-- A list of strings made anew. -/
def StOut (ps : List ByteArray) (w : World) (e : Ending) (w' : World) : Prop := ∃ v, e = .returned v ∧ w'.ownsRow w.heap.size 9 1 v ps.length (strs ps) ∧ Below w.heap.size w w'

set_option maxRecDepth 100000 in
set_option maxHeartbeats 400000 in
theorem cloneSt_any (v : Value) (ps : List ByteArray) (w : World) (hv : Rds w v ps.length 1 (strs ps)) (hn : v = .slice none 0 0 ∨ ∃ b off c, v = .slice (some ⟨b, off, none⟩) ps.length c) (hl : ps.length ≤ 2000000) :
  Calls Try.prog 75 #[v] w (StOut ps w) := by
 obtain ⟨i0, hi, hz0, hz1, hz2⟩ := info_parts infoS8
 have heq : ∀ (w : World) (a : Option Addr) (n c : Nat), (binOp .eql 24 (.slice a n c) (.slice none 0 0)).run Try.prog w = .ok (.bool a.isNone) w := fun w a n c => Lib.run_eql_slice_nil w _ 9 a n c 0 0 Try.underlying24
 rcases hn with rfl | ⟨b, off, c, rfl⟩
 ·
  have h0 : ps = [] := by
   obtain ⟨_, _, a, cap, h, _⟩ := hv
   have := congrArg (fun v => match v with | Value.slice _ n _ => n | _ => 0) h
   simp only at this
   exact List.length_eq_zero_iff.1 this.symm
  subst h0
  clear hv
  go_enter Try.func75, Try.ntmps75
  go_wp2
  go_returns
  exact ⟨_, rfl, World.ownsRow_nil _ _ _ _, Below.refl _ _⟩
 ·
  obtain ⟨hl1, hm1, a, cap, hvv, hn1, hc1⟩ := hv
  cases hvv
  obtain ⟨n, hn⟩ : ∃ n, ps.length = n := ⟨_, rfl⟩
  have HN := Lib.hid hn
  rw [hn] at hl hl1 hm1 hn1 hc1 ⊢
  have HC : Hid (∀ j u, (strs ps)[j]? = some u → w.cell? ⟨b, off + j, none⟩ = some u ∧ b < w.heap.size) := by
   intro j u hu
   have hj : j < n * 1 := by have := (List.getElem?_eq_some_iff.1 hu).1; omega
   rcases hc1 with h | ⟨b', off', hb, hlt, h⟩
   ·
    omega
   ·
    cases hb; exact ⟨(h j hj).trans hu, hlt⟩
  have HL1 := Lib.hid hl1
  clear hl1 hc1 hn
  go_enter Try.func75, Try.ntmps75
  go_wp2_with (at_builtin; refine wpList_append_own _ rfl _ _ 24 rfl w.heap.size 9 i0 _ 1 16 Try.underlying24 hi hz0 hz1 hz2 rfl (by decide) _ 0 [] rfl (World.ownsRow_lit _ #[] 0 (Nat.le_refl _) (by unfold maxLen; omega) rfl) ⟨b, off, none⟩ n _ (strs ps) rfl HL1.out (by intro j u hu; rw [Addr.add_spot]; exact keep_alloc (HC.out j u hu).1) (strs_one8 ps) (by unfold maxLen; omega) (by omega) (by simp) ?_; intro v' w3 hown' hgrow _)
  simp only [Nat.zero_add, List.nil_append] at hown'
  have hB : Below w.heap.size w w3 := ((Below.refl w.heap.size w).alloc (Nat.le_refl _) _).grown hgrow (by simp) (by intro k hk; have e : w.heap.size = k := Option.some.inj hk; omega)
  clear hgrow
  go_returns
  exact ⟨_, rfl, by rw [HN.out]; exact hown', hB⟩

end Go.Proofs.Ytedadhoneebfnaa

/- Contracts of copyExchange (program) and l8Copy (reference). -/
namespace Go.Proofs.Ytedadhoneebfnaa
open Go.RowKit

def SomeV (v : Value) (n : Nat) : Prop := v = .slice none 0 0 ∨ ∃ b off c, v = .slice (some ⟨b, off, none⟩) n c
theorem own_somev {w : World} {base n : Nat} {E : TypeId} {size : Nat} {v : Value} {xs : List Value} (h : w.ownsRow base E size v n xs) : SomeV v n := by
 rcases h.2 with ⟨rfl, rfl⟩ | ⟨g, cap, cur, rfl, _⟩
 ·
  exact .inl rfl
 ·
  exact .inr ⟨_, _, _, rfl⟩
/-- An exchange made anew, as a value that is handed back. -/
def ExNew (O E M : Int) (ps : List ByteArray) (cs : List Cl) (w : World) (e : Ending) (w' : World) : Prop :=
 ∃ vp vc, e = .returned (.agg #[.int .i64 O, .int .i64 E, .int .i64 M, vp, vc]) ∧ ExOwn w' w.heap.size vp vc ps cs ∧ Below w.heap.size w w'
/-- .. and a truth beside it. -/
def ExNewB (O E M : Int) (ps : List ByteArray) (cs : List Cl) (b : Bool) (w : World) (e : Ending) (w' : World) : Prop :=
 ∃ vp vc, e = .returned (.tuple #[.agg #[.int .i64 O, .int .i64 E, .int .i64 M, vp, vc], .bool b]) ∧ ExOwn w' w.heap.size vp vc ps cs ∧ Below w.heap.size w w'
theorem five_set {w : World} {b : Nat} {x0 x1 x2 x3 x4 y0 y1 y2 y3 y4 : Value} {T : TypeId} (h : Blk w b #[x0, x1, x2, x3, x4] T) : Blk (((((w.setCell ⟨b, 0, none⟩ y0).setCell ⟨b, 1, none⟩ y1).setCell ⟨b, 2, none⟩ y2).setCell ⟨b, 3, none⟩ y3).setCell ⟨b, 4, none⟩ y4) b #[y0, y1, y2, y3, y4] T :=
 ((((h.set (i := 0) (u := y0) rfl).set (i := 1) (u := y1) rfl).set (i := 2) (u := y2) rfl).set (i := 3) (u := y3) rfl).set (i := 4) (u := y4) rfl
theorem five_gb (w : World) (b : Nat) (y0 y1 y2 y3 y4 : Value) : w.grownBy (((((w.setCell ⟨b, 0, none⟩ y0).setCell ⟨b, 1, none⟩ y1).setCell ⟨b, 2, none⟩ y2).setCell ⟨b, 3, none⟩ y3).setCell ⟨b, 4, none⟩ y4) (some b) := gb_set (gb_set (gb_set (gb_set (gb_set (World.grownBy.refl _ _)))))
theorem five_below {w w0 : World} {B b : Nat} (y0 y1 y2 y3 y4 : Value) (hb : Below B w0 w) (hB : B ≤ b) : Below B w0 (((((w.setCell ⟨b, 0, none⟩ y0).setCell ⟨b, 1, none⟩ y1).setCell ⟨b, 2, none⟩ y2).setCell ⟨b, 3, none⟩ y3).setCell ⟨b, 4, none⟩ y4) :=
 ((((hb.setCell hB _).setCell hB _).setCell hB _).setCell hB _).setCell hB _
/-- A result block that lies below what is owned. -/
theorem ExOwn.result {w : World} {base b : Nat} {vp vc : Value} {ps : List ByteArray} {cs : List Cl} (y0 y1 y2 y3 y4 : Value) (h : ExOwn w base vp vc ps cs) (hb : b < base) : ExOwn (((((w.setCell ⟨b, 0, none⟩ y0).setCell ⟨b, 1, none⟩ y1).setCell ⟨b, 2, none⟩ y2).setCell ⟨b, 3, none⟩ y3).setCell ⟨b, 4, none⟩ y4) base vp vc ps cs := by
 have hne : ∀ {v : Value} {n : Nat} {E : TypeId} {size : Nat} {xs : List Value}, w.ownsRow base E size v n xs → v.ownBlock = none ∨ v.ownBlock ≠ some b := by
  intro v n E size xs ho
  cases hv : v.ownBlock with
  | none => exact .inl rfl
  | some k => exact .inr (fun e => by have := own_ge ho k hv; cases e; omega)
 exact h.kept (five_gb w b y0 y1 y2 y3 y4) (hne h.plan) (hne h.calls)

set_option maxRecDepth 100000 in
set_option maxHeartbeats 2000000 in
theorem copyExchange_any (O E M : Int) (vp vc : Value) (ps : List ByteArray) (cs : List Cl) (w : World) (hR : ExRd w vp vc ps cs) (hn : SomeV vp ps.length) (hp : ps.length ≤ 2000000) (hc : cs.length ≤ 2000000) :
  Calls Try.prog 91 #[.agg #[.int .i64 O, .int .i64 E, .int .i64 M, vp, vc]] w (ExNew O E M ps cs w) := by
 have hB := (Blk.new (w := w) (cs := #[.int .i64 O, .int .i64 E, .int .i64 M, vp, vc]) (T := 33) rfl).alloc (.cells #[.int .i64 0, .int .i64 0, .int .i64 0, .slice none 0 0, .slice none 0 0] 33)
 have hR1 := Blk.new (w := w.alloc (.cells #[.int .i64 O, .int .i64 E, .int .i64 M, vp, vc] 33)) (cs := #[.int .i64 0, .int .i64 0, .int .i64 0, .slice none 0 0, .slice none 0 0]) (T := 33) (b := w.heap.size + 1) (by simp)
 have hbel0 : Below w.heap.size w ((w.alloc (.cells #[.int .i64 O, .int .i64 E, .int .i64 M, vp, vc] 33)).alloc (.cells #[.int .i64 0, .int .i64 0, .int .i64 0, .slice none 0 0, .slice none 0 0] 33)) := by (exact grownA)
 have HR := Lib.hid hR
 have HNN := Lib.hid hn
 have HP := Lib.hid hp
 have HC := Lib.hid hc
 obtain ⟨p0, p1, p2, p3, p4, -, -, -, -, -, plt⟩ := hB.five
 clear hR hn hp hc
 go_enter Try.func91, Try.ntmps91
 go_wp2_with fail
 refine wp_region_held_drew (S := fun w' => w'.cell? ⟨w.heap.size, 0, none⟩ = some (.int .i64 O) ∧ w'.cell? ⟨w.heap.size, 1, none⟩ = some (.int .i64 E) ∧ w'.cell? ⟨w.heap.size, 2, none⟩ = some (.int .i64 M) ∧ w'.cell? ⟨w.heap.size, 3, none⟩ = some vp ∧ w'.cell? ⟨w.heap.size, 4, none⟩ = some vc) (by kernel_rfl) (by (try dsimp only); (exact keepA)) (fun hHeld => ?_)
 refine take_y 0 3 (v := ?_) rfl ?_ ?_; rotate_left; focus (intro w hSw; (try dsimp only at hSw); go_simp; (try rw [if_neg (by omega)]); (try with_reducible rfl))
 try simp only [Act.put, zp1, zp2, zp3]
 refine take_y 1 4 (v := ?_) rfl ?_ ?_; rotate_left; focus (intro w hSw; (try dsimp only at hSw); go_simp; (try rw [if_neg (by omega)]); (try with_reducible rfl))
 try simp only [Act.put, zp1, zp2, zp3]
 refine take_y 2 5 (v := ?_) rfl ?_ ?_; rotate_left; focus (intro w hSw; (try dsimp only at hSw); go_simp; (try rw [if_neg (by omega)]); (try with_reducible rfl))
 try simp only [Act.put, zp1, zp2, zp3]
 refine take_y 3 6 (v := ?_) rfl ?_ ?_; rotate_left; focus (intro w hSw; (try dsimp only at hSw); go_simp; (try rw [if_neg (by omega)]); (try with_reducible rfl))
 try simp only [Act.put, zp1, zp2, zp3]
 refine take_y 5 8 (v := ?_) rfl ?_ ?_; rotate_left; focus (intro w hSw; (try dsimp only at hSw); go_simp; (try rw [if_neg (by omega)]); (try with_reducible rfl))
 try simp only [Act.put, zp1, zp2, zp3]
 refine take_y 6 9 (v := ?_) rfl ?_ ?_; rotate_left; focus (intro w hSw; (try dsimp only at hSw); go_simp; (try rw [if_neg (by omega)]); (try with_reducible rfl))
 try simp only [Act.put, zp1, zp2, zp3]
 refine wpAnyH_ready (rs := [4]) (by kernel_rfl) (by simp) ?_
 refine AllReadyH.cons rfl (fun K hK => ?_) AllReadyH.nil
 go_simp
 refine (cloneSt_any vp ps _ (HR.out.plan.below hbel0.drew) HNN.out HP.out).mono ?_
 rintro e w2 ⟨v2, rfl, ho2, hb2⟩
 obtain ⟨a2, c2, rfl⟩ := own_len9 ho2
 refine hK.out _ _ againA (fun hHeld2 => ?_); clear hHeld hK K; have hHeld := hHeld2; clear hHeld2; (try simp only [Act.put, zp1, zp2, zp3])
 have hbel2 : Below w.heap.size w w2 := (hbel0.drew).trans (Below.mono hb2 (hbel0.drew).size)
 have hR2 := (hR1.drew).belowAll hb2
 have hB2 := (hB.drew).belowAll hb2
 clear hb2 hR1 hB p0 p1 p2 p3 p4 plt
 obtain ⟨p0, p1, p2, p3, p4, -, -, -, -, -, plt⟩ := hB2.five
 refine wpAnyH_ready (rs := [7]) (by kernel_rfl) (by simp) ?_
 refine AllReadyH.cons rfl (fun K hK => ?_) AllReadyH.nil
 go_simp
 refine (copyCalls_any vc cs _ (HR.out.calls.below hbel2) HC.out).mono ?_
 rintro e w3 ⟨g3, cap3, rfl, hg3, ho3, hb3⟩
 refine hK.out _ _ againA (fun hHeld2 => ?_); clear hHeld hK K; have hHeld := hHeld2; clear hHeld2; (try simp only [Act.put, zp1, zp2, zp3])
 have hbel3 : Below w.heap.size w w3 := hbel2.trans (Below.mono hb3 hbel2.size)
 have hR3 := hR2.belowAll hb3
 have hB3 := hB2.belowAll hb3
 have hop := owns_below hb3 ho2
 have hz2 := hbel2.size
 have hz0 := hR2.lt
 have hap : Value.ownBlock (.slice a2 ps.length c2) = none ∨ Value.ownBlock (.slice a2 ps.length c2) ≠ Value.ownBlock (.slice (some ⟨g3, 0, none⟩) cs.length cap3) := by
  cases hv : Value.ownBlock (.slice a2 ps.length c2) with
  | none => exact .inl rfl
  | some k => exact .inr (fun e => by have h1 := own_lt ho2 k hv; simp [Value.ownBlock] at e; omega)
 have hX : ExOwn w3 (w.heap.size + 2) (.slice a2 ps.length c2) (.slice (some ⟨g3, 0, none⟩) cs.length cap3) ps cs :=
  ⟨owns_base (by simp) hop, ho3.back (by omega), hap⟩
 have HX := Lib.hid hX
 clear hb3 hR2 hB2 p0 p1 p2 p3 p4 plt hbel2 hop ho2 ho3 hap hX
 obtain ⟨p0, p1, p2, p3, p4, -, -, -, -, -, plt⟩ := hB3.five
 obtain ⟨r0, r1, r2, r3, r4, f0, f1, f2, f3, f4, rlt⟩ := hR3.five
 refine take_y 8 11 (v := ?_) rfl ?_ ?_; rotate_left; focus (intro w hSw; (try dsimp only at hSw); go_simp; (try rw [if_neg (by omega)]); (try with_reducible rfl))
 try simp only [Act.put, zp1, zp2, zp3]
 refine wpAnyH_ready (rs := [9]) (by kernel_rfl) (by simp) ?_
 refine AllReadyH.cons rfl (fun K hK => ?_) AllReadyH.nil
 go_simp
 refine hK.out _ _ (by (try dsimp only); obtain ⟨q0, q1, q2, q3, q4, -⟩ := (((((hB3.other (a := ⟨w.heap.size + 1, 0, none⟩) (u := .int .i64 O) (by simp)).other (a := ⟨w.heap.size + 1, 1, none⟩) (u := .int .i64 E) (by simp)).other (a := ⟨w.heap.size + 1, 2, none⟩) (u := .int .i64 M) (by simp)).other (a := ⟨w.heap.size + 1, 3, none⟩) (u := .slice a2 ps.length c2) (by simp)).other (a := ⟨w.heap.size + 1, 4, none⟩) (u := .slice (some ⟨g3, 0, none⟩) cs.length cap3) (by simp)).five; exact ⟨q0, q1, q2, q3, q4⟩) (fun hHeld2 => ?_)
 clear hHeld hK K; have hHeld := hHeld2; clear hHeld2; try simp only [Act.put, zp1, zp2, zp3]
 refine wpAnyH_done (by kernel_rfl) ?_ _
 clear hHeld
 go_wp2
 have hF := five_set (y0 := .int .i64 O) (y1 := .int .i64 E) (y2 := .int .i64 M) (y3 := .slice a2 ps.length c2) (y4 := .slice (some ⟨g3, 0, none⟩) cs.length cap3) hR3
 obtain ⟨z0, z1, z2, z3, z4, -⟩ := hF.five
 refine bodyPost_ret (v := .agg #[.int .i64 O, .int .i64 E, .int .i64 M, .slice a2 ps.length c2, .slice (some ⟨g3, 0, none⟩) cs.length cap3]) (by simp [results, Try.results91, go_sem, z0, z1, z2, z3, z4]) rfl ?_
 exact ⟨_, _, rfl, (HX.out.result _ _ _ _ _ (by omega)).lower (by omega), five_below _ _ _ _ _ hbel3 (by omega)⟩

end Go.Proofs.Ytedadhoneebfnaa
