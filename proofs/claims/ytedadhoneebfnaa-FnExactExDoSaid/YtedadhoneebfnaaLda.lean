/- The walk of the exact law of ExDo (printed by gen_law.py). -/
import Derived.Test.YtedadhoneebfnaaJ10
import Derived.Test.YtedadhoneebfnaaDj
set_option linter.unusedSimpArgs false
set_option linter.unusedVariables false
namespace Go.Proofs.Ytedadhoneebfnaa
open Go.RowKit


set_option maxRecDepth 100000 in
set_option maxHeartbeats 16000000 in
theorem exExDo (O E M : Int) (vp vc : Value) (ps : List ByteArray) (cs : List Cl) (k l : Int) (s : ByteArray) (w : World) (hR : ExRd w vp vc ps cs) (hL : StLen ps) (hs : s.size ≤ maxLen) :
    Calls Try.prog 13 #[.agg #[.int .i64 O, .int .i64 E, .int .i64 M, vp, vc], .agg #[.int .i64 k, .int .i64 l, .string s]] w fun e w' => e = .returned (.bool true) ∧ Below w.heap.size w w' := by
  have hB0 := (Blk.new (w := w) (cs := #[.int .i64 O, .int .i64 E, .int .i64 M, vp, vc]) (T := 27) rfl).alloc (.cells #[.int .i64 k, .int .i64 l, .string s] 73)
  have hD0 := Blk.new (w := w.alloc (.cells #[.int .i64 O, .int .i64 E, .int .i64 M, vp, vc] 27)) (cs := #[.int .i64 k, .int .i64 l, .string s]) (T := 73) (b := w.heap.size + 1) (by simp)
  have hb0 : Below w.heap.size w ((w.alloc (.cells #[.int .i64 O, .int .i64 E, .int .i64 M, vp, vc] 27)).alloc (.cells #[.int .i64 k, .int .i64 l, .string s] 73)) := by (repeat' (first | (with_reducible exact Below.refl _ _) | (with_reducible assumption) | (with_reducible refine Below.drew ?_) | (with_reducible refine below_drewN ?_ _) | (with_reducible refine Below.alloc ?_ ?_ _) | (with_reducible refine Below.setCell ?_ ?_ _) | (refine Below.trans ?_ (Below.mono (by assumption) (by first | omega | (with_reducible exact Below.size (by assumption)) | (simp; done) | (simp; omega)))) | (with_reducible exact Nat.le_refl _) | omega | (with_reducible exact Below.size (by assumption)) | (simp only [World.size_alloc, World.size_setCell, World.size_drew]; omega) | (simp; done) | (simp; omega)))
  have HSZ := Lib.hid hs
  have HR := Lib.hid hR
  have HL := Lib.hid hL
  obtain ⟨_, _, a1, c1, rfl, _⟩ := hR.plan
  obtain ⟨_, _, a2, c2, rfl, _⟩ := hR.calls
  obtain ⟨⟨⟨O', E', M'⟩, ⟨ps', cs'⟩, x⟩, hr⟩ : ∃ r : (Int × Int × Int) × (List ByteArray × List Cl) × Bool, doR O E M ps cs k l s = r := ⟨_, rfl⟩
  have hsm := doR_small O E M ps cs k l s
  rw [hr] at hsm
  obtain ⟨hsm1, hsm2⟩ := hsm
  simp only at hsm1 hsm2
  have KS : Hid (∀ (vp vc : Value) (W : World), ExRd W vp vc ps cs → SomeV vp ps.length → Calls Try.prog 51 #[.agg #[.int .i64 O, .int .i64 E, .int .i64 M, vp, vc], .agg #[.int .i64 k, .int .i64 l, .string s]] W (ExR O' E' M' ps' cs' (.bool x) W)) := fun vp vc W h1 h2 => (sExDo_any O E M vp vc ps cs k l s W h1 h2 hL hs).mono fun e w' h => (by have := doXQ_res h; rw [hr] at this; exact this)
  have KI : Hid (∀ (vp vc : Value) (W : World), ExRd W vp vc ps cs → SomeV vp ps.length → Calls Try.prog 50 #[.agg #[.int .i64 O, .int .i64 E, .int .i64 M, vp, vc], .agg #[.int .i64 k, .int .i64 l, .string s]] W (ExR O' E' M' ps' cs' (.bool x) W)) := fun vp vc W h1 h2 => (iExDo_any O E M vp vc ps cs k l s W h1 h2 hL hs).mono fun e w' h => (by have := doXQ_res h; rw [hr] at this; exact this)
  clear hR hL hr hs
  go_enter Try.func13, Try.ntmps13
  obtain ⟨bq0, bq1, bq2, bq3, bq4, -, -, -, -, -, bqlt⟩ := hB0.five
  go_wp2_with fail
  refine (szExchange_any O E M _ _ ps cs _ (HR.out.below hb0) HL.out).mono ?_
  rintro e w1 ⟨z, rfl, hz0, hz1, hz2, hq⟩
  clear bq0 bq1 bq2 bq3 bq4 bqlt
  have hb3 : Below w.heap.size w _ := hb0.trans (Below.mono hq hb0.size)
  have fB3 := hB0.belowAll hq
  have fD3 := hD0.belowAll hq
  clear hb0 hB0 hD0 hq
  by_cases hz : 0 ≤ z
  case neg =>
    clear hz2
    go_wp2
    go_returns
    exact ⟨rfl, hb3⟩
  obtain ⟨hpn, hcn⟩ := hz2 hz
  have HPN := Lib.hid hpn
  have HCN := Lib.hid hcn
  clear hz2 hpn hcn
  obtain ⟨bq0, bq1, bq2, bq3, bq4, -, -, -, -, -, bqlt⟩ := fB3.five
  obtain ⟨dq0, dq1, dq2, -, -, -, dqlt⟩ := fD3.three
  go_wp2_with fail
  refine (szExDeed_gen k l z s _ HSZ.out hz hz1).mono ?_
  rintro e w2 ⟨rfl, hq⟩
  obtain ⟨z2, hz2⟩ : ∃ z2, (if (s.size : Int) ≤ z then z - (s.size : Int) else -1) = z2 := ⟨_, rfl⟩
  rw [hz2]
  clear hz2
  clear bq0 bq1 bq2 bq3 bq4 bqlt dq0 dq1 dq2 dqlt
  have hb4 : Below w.heap.size w _ := hb3.trans (Below.mono hq hb3.size)
  have fB4 := fB3.belowAll hq
  have fD4 := fD3.belowAll hq
  clear hb3 fB3 fD3 hq
  by_cases hy : 0 ≤ z2
  case neg =>
    go_wp2
    go_returns
    exact ⟨rfl, hb4⟩
  have HSTART := Lib.hid (show w.heap.size + 2 ≤ w2.heap.size from fD4.lt)
  go_upto_region 8 with fail
  go_cut [6, 7] (fun tb tx wc5 => ∃ (b : Nat) (vq vr : Value), tb = .pointer (some ⟨b, 0, none⟩) ∧ tx = .bool x ∧ ExRes w2 wc5 b O' E' M' vq vr ps' cs')
  case first =>
    obtain ⟨bq0, bq1, bq2, bq3, bq4, -, -, -, -, -, bqlt⟩ := fB4.five
    obtain ⟨dq0, dq1, dq2, -, -, -, dqlt⟩ := fD4.three
    have HC : Hid (∀ w' : World, Below w2.heap.size w2 w' → w'.cell? ⟨w.heap.size, 0, none⟩ = some (.int .i64 O) ∧ w'.cell? ⟨w.heap.size, 1, none⟩ = some (.int .i64 E) ∧ w'.cell? ⟨w.heap.size, 2, none⟩ = some (.int .i64 M) ∧ w'.cell? ⟨w.heap.size, 3, none⟩ = some (.slice a1 ps.length c1) ∧ w'.cell? ⟨w.heap.size, 4, none⟩ = some (.slice a2 cs.length c2) ∧ w'.cell? ⟨w.heap.size + 1, 0, none⟩ = some (.int .i64 k) ∧ w'.cell? ⟨w.heap.size + 1, 1, none⟩ = some (.int .i64 l) ∧ w'.cell? ⟨w.heap.size + 1, 2, none⟩ = some (.string s)) := fun w' hb => ⟨(hb.cell (p := ⟨w.heap.size, 0, none⟩) bqlt).trans bq0, (hb.cell (p := ⟨w.heap.size, 1, none⟩) bqlt).trans bq1, (hb.cell (p := ⟨w.heap.size, 2, none⟩) bqlt).trans bq2, (hb.cell (p := ⟨w.heap.size, 3, none⟩) bqlt).trans bq3, (hb.cell (p := ⟨w.heap.size, 4, none⟩) bqlt).trans bq4, (hb.cell (p := ⟨w.heap.size + 1, 0, none⟩) dqlt).trans dq0, (hb.cell (p := ⟨w.heap.size + 1, 1, none⟩) dqlt).trans dq1, (hb.cell (p := ⟨w.heap.size + 1, 2, none⟩) dqlt).trans dq2⟩
    clear bq0 bq1 bq2 bq3 bq4 bqlt dq0 dq1 dq2 dqlt
    have hcS : Below w2.heap.size w2 w2.drew := (Below.refl _ _).drew
    have hdS : Below w.heap.size w w2.drew := hb4.drew
    go_wp2_with fail
    refine wp_region_held_drew (S := fun w' => w'.cell? ⟨w.heap.size, 0, none⟩ = some (.int .i64 O) ∧ w'.cell? ⟨w.heap.size, 1, none⟩ = some (.int .i64 E) ∧ w'.cell? ⟨w.heap.size, 2, none⟩ = some (.int .i64 M) ∧ w'.cell? ⟨w.heap.size, 3, none⟩ = some (.slice a1 ps.length c1) ∧ w'.cell? ⟨w.heap.size, 4, none⟩ = some (.slice a2 cs.length c2) ∧ w'.cell? ⟨w.heap.size + 1, 0, none⟩ = some (.int .i64 k) ∧ w'.cell? ⟨w.heap.size + 1, 1, none⟩ = some (.int .i64 l) ∧ w'.cell? ⟨w.heap.size + 1, 2, none⟩ = some (.string s)) (by kernel_rfl) (HC.out _ hcS) (fun hHeld => ?_)
    refine take_on (i := 0) (d := some 27) (v := ?_) rfl (by rfl) (by kernel_rfl) (by kernel_rfl) (by kernel_rfl) (fun _ _ _ h => h) (Or.inl ⟨by kernel_rfl, ?_⟩) (by assumption) ?_
    rotate_left
    focus (intro w hSw; (try dsimp only at hSw); go_simp; (try rw [if_neg (by omega)]); (try with_reducible rfl))
    try simp only [Act.put, List.setIfInBounds_toArray, List.set_cons_zero, List.set_cons_succ]
    refine take_on (i := 2) (d := some 29) (v := ?_) rfl (by rfl) (by kernel_rfl) (by kernel_rfl) (by kernel_rfl) (fun _ _ _ h => h) (Or.inl ⟨by kernel_rfl, ?_⟩) (by assumption) ?_
    rotate_left
    focus (intro w hSw; (try dsimp only at hSw); go_simp; (try rw [if_neg (by omega)]); (try with_reducible rfl))
    try simp only [Act.put, List.setIfInBounds_toArray, List.set_cons_zero, List.set_cons_succ]
    refine wpAnyH_ready (rs := [1, 8]) (by kernel_rfl) (by simp) ?_
    refine AllReadyH.cons rfl (fun K hK => ?_) (AllReadyH.cons rfl (fun K hK => ?_) AllReadyH.nil)
    focus
      go_simp
      refine (toExchange_any O E M _ _ ps cs _ (HR.out.below hdS) HPN.out HCN.out).mono ?_
      rintro e w6 ⟨g6, h6, rfl, o6, hq6⟩
      have hc6 : Below w2.heap.size w2 _ := hcS.trans (Below.mono hq6 hcS.size)
      have hd6 : Below w.heap.size w _ := hdS.trans (Below.mono hq6 hdS.size)
      refine hK.out _ _ (HC.out _ hc6) (fun hHeld2 => ?_)
      clear hHeld hK K
      have hHeld := hHeld2
      clear hHeld2
      try simp only [Act.put, List.setIfInBounds_toArray, List.set_cons_zero, List.set_cons_succ]
      refine wpAnyH_ready (rs := [3, 8]) (by kernel_rfl) (by simp) ?_
      refine AllReadyH.cons rfl (fun K hK => ?_) (AllReadyH.cons rfl (fun K hK => ?_) AllReadyH.nil)
      focus
        go_simp
        refine (toExDeed_any k l s _).mono ?_
        rintro e w7 ⟨rfl, hq7⟩
        have gex7 := o6.below hq7
        have hc7 : Below w2.heap.size w2 _ := hc6.trans (Below.mono hq7 hc6.size)
        have hd7 : Below w.heap.size w _ := hd6.trans (Below.mono hq7 hd6.size)
        refine hK.out _ _ (HC.out _ hc7) (fun hHeld2 => ?_)
        clear hHeld hK K
        have hHeld := hHeld2
        clear hHeld2
        try simp only [Act.put, List.setIfInBounds_toArray, List.set_cons_zero, List.set_cons_succ]
        refine wpAnyH_ready (rs := [4, 8]) (by kernel_rfl) (by simp) ?_
        refine AllReadyH.cons rfl (fun K hK => ?_) (AllReadyH.cons rfl (fun K hK => ?_) AllReadyH.nil)
        focus
          go_simp
          refine (KS.out _ _ _ gex7.rd (own_somev gex7.plan)).mono ?_
          rintro e w8 ⟨vq8, vr8, rfl, o8, hq8⟩
          obtain ⟨aq8, cq8, ar8, cr8, rfl, rfl⟩ := agg_parts o8
          have gex8 := gex7.below hq8
          have hc8 : Below w2.heap.size w2 _ := hc7.trans (Below.mono hq8 hc7.size)
          have hd8 : Below w.heap.size w _ := hd7.trans (Below.mono hq8 hd7.size)
          refine hK.out _ _ (HC.out _ hc8) (fun hHeld2 => ?_)
          clear hHeld hK K
          have hHeld := hHeld2
          clear hHeld2
          try simp only [Act.put, List.setIfInBounds_toArray, List.set_cons_zero, List.set_cons_succ]
          refine take_on (i := 5) (d := some 26) (v := ?_) rfl (by rfl) (by kernel_rfl) (by kernel_rfl) (by kernel_rfl) (fun _ _ _ h => h) (Or.inl ⟨by kernel_rfl, ?_⟩) (by assumption) ?_
          rotate_left
          focus (intro w hSw; (try dsimp only at hSw); go_simp; (try rw [if_neg (by omega)]); (try with_reducible rfl))
          try simp only [Act.put, List.setIfInBounds_toArray, List.set_cons_zero, List.set_cons_succ]
          refine take_on (i := 6) (d := some 32) (v := ?_) rfl (by rfl) (by kernel_rfl) (by kernel_rfl) (by kernel_rfl) (fun _ _ _ h => h) (Or.inl ⟨by kernel_rfl, ?_⟩) (by assumption) ?_
          rotate_left
          focus (intro w hSw; (try dsimp only at hSw); go_simp; (try rw [if_neg (by omega)]); (try with_reducible rfl))
          try simp only [Act.put, List.setIfInBounds_toArray, List.set_cons_zero, List.set_cons_succ]
          refine take_on (i := 7) (d := some 33) (v := ?_) rfl (by rfl) (by kernel_rfl) (by kernel_rfl) (by kernel_rfl) (fun _ _ _ h => h) (Or.inl ⟨by kernel_rfl, ?_⟩) (by assumption) ?_
          rotate_left
          focus (intro w hSw; (try dsimp only at hSw); go_simp; (try rw [if_neg (by omega)]); (try with_reducible rfl))
          try simp only [Act.put, List.setIfInBounds_toArray, List.set_cons_zero, List.set_cons_succ]
          refine wpAnyH_ready (rs := [8]) (by kernel_rfl) (by simp) ?_
          refine AllReadyH.cons rfl (fun K hK => ?_) AllReadyH.nil
          go_simp
          refine hK.out _ _ (HC.out _ (hc8.alloc hc8.size _)) (fun hHeld2 => ?_)
          clear hHeld hK K
          have hHeld := hHeld2
          clear hHeld2
          try simp only [Act.put, List.setIfInBounds_toArray, List.set_cons_zero, List.set_cons_succ]
          refine wpAnyH_ready (rs := [9]) (by kernel_rfl) (by simp) ?_
          refine AllReadyH.cons rfl (fun K hK => ?_) AllReadyH.nil
          go_simp
          refine hK.out _ _ (HC.out _ (hc8.alloc hc8.size _)) (fun hHeld2 => ?_)
          clear hHeld hK K
          have hHeld := hHeld2
          clear hHeld2
          try simp only [Act.put, List.setIfInBounds_toArray, List.set_cons_zero, List.set_cons_succ]
          have hRS := ExRes.mkA (O := O') (E := E') (M := M') hc8 o8 hc7.size
          refine take_on (i := 10) (d := some 7) (v := ?_) rfl (by rfl) (by kernel_rfl) (by kernel_rfl) (by kernel_rfl) (fun _ _ _ h => h) (Or.inl ⟨by kernel_rfl, ?_⟩) (by assumption) ?_
          rotate_left
          focus (intro w hSw; (try dsimp only at hSw); go_simp; (try rw [if_neg (by omega)]); (try with_reducible rfl))
          try simp only [Act.put, List.setIfInBounds_toArray, List.set_cons_zero, List.set_cons_succ]
          refine wpAnyH_done (by kernel_rfl) ?_ _
          clear hHeld
          go_wp2_with fail
          go_meet
          exact ⟨_, _, _, rfl, rfl, hRS⟩
        focus
          go_simp
          have hX9 := Blk.new (w := w7) (cs := #[.int .i64 0, .int .i64 0, .int .i64 0, .slice none 0 0, .slice none 0 0]) (T := 33) (b := w7.heap.size) rfl
          have hal9 : Below w7.heap.size w7 (w7.alloc (.cells #[.int .i64 0, .int .i64 0, .int .i64 0, .slice none 0 0, .slice none 0 0] 33)) := (Below.refl _ _).alloc (Nat.le_refl _) _
          have hbig : w2.heap.size ≤ w7.heap.size := hc7.size
          have gex9 := gex7.below hal9
          have hc9 : Below w2.heap.size w2 _ := hc7.trans (Below.mono hal9 hc7.size)
          have hd9 : Below w.heap.size w _ := hd7.trans (Below.mono hal9 hd7.size)
          refine hK.out _ _ (HC.out _ hc9) (fun hHeld2 => ?_)
          clear hHeld hK K
          have hHeld := hHeld2
          clear hHeld2
          try simp only [Act.put, List.setIfInBounds_toArray, List.set_cons_zero, List.set_cons_succ]
          refine wpAnyH_ready (rs := [4]) (by kernel_rfl) (by simp) ?_
          refine AllReadyH.cons rfl (fun K hK => ?_) AllReadyH.nil
          go_simp
          refine (KS.out _ _ _ gex9.rd (own_somev gex9.plan)).mono ?_
          rintro e w10 ⟨vq10, vr10, rfl, o10, hq10⟩
          obtain ⟨aq10, cq10, ar10, cr10, rfl, rfl⟩ := agg_parts o10
          have hbF := hX9.lt
          have gex10 := gex9.below hq10
          have gX10 := hX9.belowAll hq10
          have hc10 : Below w2.heap.size w2 _ := hc9.trans (Below.mono hq10 hc9.size)
          have hd10 : Below w.heap.size w _ := hd9.trans (Below.mono hq10 hd9.size)
          refine hK.out _ _ (HC.out _ hc10) (fun hHeld2 => ?_)
          clear hHeld hK K
          have hHeld := hHeld2
          clear hHeld2
          try simp only [Act.put, List.setIfInBounds_toArray, List.set_cons_zero, List.set_cons_succ]
          refine take_on (i := 5) (d := some 26) (v := ?_) rfl (by rfl) (by kernel_rfl) (by kernel_rfl) (by kernel_rfl) (fun _ _ _ h => h) (Or.inl ⟨by kernel_rfl, ?_⟩) (by assumption) ?_
          rotate_left
          focus (intro w hSw; (try dsimp only at hSw); go_simp; (try rw [if_neg (by omega)]); (try with_reducible rfl))
          try simp only [Act.put, List.setIfInBounds_toArray, List.set_cons_zero, List.set_cons_succ]
          refine take_on (i := 6) (d := some 32) (v := ?_) rfl (by rfl) (by kernel_rfl) (by kernel_rfl) (by kernel_rfl) (fun _ _ _ h => h) (Or.inl ⟨by kernel_rfl, ?_⟩) (by assumption) ?_
          rotate_left
          focus (intro w hSw; (try dsimp only at hSw); go_simp; (try rw [if_neg (by omega)]); (try with_reducible rfl))
          try simp only [Act.put, List.setIfInBounds_toArray, List.set_cons_zero, List.set_cons_succ]
          refine take_on (i := 7) (d := some 33) (v := ?_) rfl (by rfl) (by kernel_rfl) (by kernel_rfl) (by kernel_rfl) (fun _ _ _ h => h) (Or.inl ⟨by kernel_rfl, ?_⟩) (by assumption) ?_
          rotate_left
          focus (intro w hSw; (try dsimp only at hSw); go_simp; (try rw [if_neg (by omega)]); (try with_reducible rfl))
          try simp only [Act.put, List.setIfInBounds_toArray, List.set_cons_zero, List.set_cons_succ]
          have hRS := ExRes.mkB (O := O') (E := E') (M := M') hc10 gX10 hbig o10 hbF
          obtain ⟨X0, X1, X2, X3, X4, Y0, Y1, Y2, Y3, Y4, Xlt⟩ := gX10.five
          refine wpAnyH_ready (rs := [9]) (by kernel_rfl) (by simp) ?_
          refine AllReadyH.cons rfl (fun K hK => ?_) AllReadyH.nil
          go_simp
          refine hK.out _ _ (HC.out _ (by exact hRS.bel)) (fun hHeld2 => ?_)
          clear hHeld hK K
          have hHeld := hHeld2
          clear hHeld2
          try simp only [Act.put, List.setIfInBounds_toArray, List.set_cons_zero, List.set_cons_succ]
          refine take_on (i := 10) (d := some 7) (v := ?_) rfl (by rfl) (by kernel_rfl) (by kernel_rfl) (by kernel_rfl) (fun _ _ _ h => h) (Or.inl ⟨by kernel_rfl, ?_⟩) (by assumption) ?_
          rotate_left
          focus (intro w hSw; (try dsimp only at hSw); go_simp; (try rw [if_neg (by omega)]); (try with_reducible rfl))
          try simp only [Act.put, List.setIfInBounds_toArray, List.set_cons_zero, List.set_cons_succ]
          refine wpAnyH_done (by kernel_rfl) ?_ _
          clear hHeld
          go_wp2_with fail
          go_meet
          exact ⟨_, _, _, rfl, rfl, hRS⟩
      focus
        go_simp
        have hX11 := Blk.new (w := w6) (cs := #[.int .i64 0, .int .i64 0, .int .i64 0, .slice none 0 0, .slice none 0 0]) (T := 33) (b := w6.heap.size) rfl
        have hal11 : Below w6.heap.size w6 (w6.alloc (.cells #[.int .i64 0, .int .i64 0, .int .i64 0, .slice none 0 0, .slice none 0 0] 33)) := (Below.refl _ _).alloc (Nat.le_refl _) _
        have hbig : w2.heap.size ≤ w6.heap.size := hc6.size
        have gex11 := o6.below hal11
        have hc11 : Below w2.heap.size w2 _ := hc6.trans (Below.mono hal11 hc6.size)
        have hd11 : Below w.heap.size w _ := hd6.trans (Below.mono hal11 hd6.size)
        refine hK.out _ _ (HC.out _ hc11) (fun hHeld2 => ?_)
        clear hHeld hK K
        have hHeld := hHeld2
        clear hHeld2
        try simp only [Act.put, List.setIfInBounds_toArray, List.set_cons_zero, List.set_cons_succ]
        refine wpAnyH_ready (rs := [3]) (by kernel_rfl) (by simp) ?_
        refine AllReadyH.cons rfl (fun K hK => ?_) AllReadyH.nil
        go_simp
        refine (toExDeed_any k l s _).mono ?_
        rintro e w12 ⟨rfl, hq12⟩
        have gex12 := gex11.below hq12
        have gX12 := hX11.belowAll hq12
        have hc12 : Below w2.heap.size w2 _ := hc11.trans (Below.mono hq12 hc11.size)
        have hd12 : Below w.heap.size w _ := hd11.trans (Below.mono hq12 hd11.size)
        refine hK.out _ _ (HC.out _ hc12) (fun hHeld2 => ?_)
        clear hHeld hK K
        have hHeld := hHeld2
        clear hHeld2
        try simp only [Act.put, List.setIfInBounds_toArray, List.set_cons_zero, List.set_cons_succ]
        refine wpAnyH_ready (rs := [4]) (by kernel_rfl) (by simp) ?_
        refine AllReadyH.cons rfl (fun K hK => ?_) AllReadyH.nil
        go_simp
        refine (KS.out _ _ _ gex12.rd (own_somev gex12.plan)).mono ?_
        rintro e w13 ⟨vq13, vr13, rfl, o13, hq13⟩
        obtain ⟨aq13, cq13, ar13, cr13, rfl, rfl⟩ := agg_parts o13
        have hbF := gX12.lt
        have gex13 := gex12.below hq13
        have gX13 := gX12.belowAll hq13
        have hc13 : Below w2.heap.size w2 _ := hc12.trans (Below.mono hq13 hc12.size)
        have hd13 : Below w.heap.size w _ := hd12.trans (Below.mono hq13 hd12.size)
        refine hK.out _ _ (HC.out _ hc13) (fun hHeld2 => ?_)
        clear hHeld hK K
        have hHeld := hHeld2
        clear hHeld2
        try simp only [Act.put, List.setIfInBounds_toArray, List.set_cons_zero, List.set_cons_succ]
        refine take_on (i := 5) (d := some 26) (v := ?_) rfl (by rfl) (by kernel_rfl) (by kernel_rfl) (by kernel_rfl) (fun _ _ _ h => h) (Or.inl ⟨by kernel_rfl, ?_⟩) (by assumption) ?_
        rotate_left
        focus (intro w hSw; (try dsimp only at hSw); go_simp; (try rw [if_neg (by omega)]); (try with_reducible rfl))
        try simp only [Act.put, List.setIfInBounds_toArray, List.set_cons_zero, List.set_cons_succ]
        refine take_on (i := 6) (d := some 32) (v := ?_) rfl (by rfl) (by kernel_rfl) (by kernel_rfl) (by kernel_rfl) (fun _ _ _ h => h) (Or.inl ⟨by kernel_rfl, ?_⟩) (by assumption) ?_
        rotate_left
        focus (intro w hSw; (try dsimp only at hSw); go_simp; (try rw [if_neg (by omega)]); (try with_reducible rfl))
        try simp only [Act.put, List.setIfInBounds_toArray, List.set_cons_zero, List.set_cons_succ]
        refine take_on (i := 7) (d := some 33) (v := ?_) rfl (by rfl) (by kernel_rfl) (by kernel_rfl) (by kernel_rfl) (fun _ _ _ h => h) (Or.inl ⟨by kernel_rfl, ?_⟩) (by assumption) ?_
        rotate_left
        focus (intro w hSw; (try dsimp only at hSw); go_simp; (try rw [if_neg (by omega)]); (try with_reducible rfl))
        try simp only [Act.put, List.setIfInBounds_toArray, List.set_cons_zero, List.set_cons_succ]
        have hRS := ExRes.mkB (O := O') (E := E') (M := M') hc13 gX13 hbig o13 hbF
        obtain ⟨X0, X1, X2, X3, X4, Y0, Y1, Y2, Y3, Y4, Xlt⟩ := gX13.five
        refine wpAnyH_ready (rs := [9]) (by kernel_rfl) (by simp) ?_
        refine AllReadyH.cons rfl (fun K hK => ?_) AllReadyH.nil
        go_simp
        refine hK.out _ _ (HC.out _ (by exact hRS.bel)) (fun hHeld2 => ?_)
        clear hHeld hK K
        have hHeld := hHeld2
        clear hHeld2
        try simp only [Act.put, List.setIfInBounds_toArray, List.set_cons_zero, List.set_cons_succ]
        refine take_on (i := 10) (d := some 7) (v := ?_) rfl (by rfl) (by kernel_rfl) (by kernel_rfl) (by kernel_rfl) (fun _ _ _ h => h) (Or.inl ⟨by kernel_rfl, ?_⟩) (by assumption) ?_
        rotate_left
        focus (intro w hSw; (try dsimp only at hSw); go_simp; (try rw [if_neg (by omega)]); (try with_reducible rfl))
        try simp only [Act.put, List.setIfInBounds_toArray, List.set_cons_zero, List.set_cons_succ]
        refine wpAnyH_done (by kernel_rfl) ?_ _
        clear hHeld
        go_wp2_with fail
        go_meet
        exact ⟨_, _, _, rfl, rfl, hRS⟩
    focus
      go_simp
      have hX14 := Blk.new (w := w2.drew) (cs := #[.int .i64 0, .int .i64 0, .int .i64 0, .slice none 0 0, .slice none 0 0]) (T := 33) (b := w2.heap.size) rfl
      have hal14 : Below w2.drew.heap.size w2.drew (w2.drew.alloc (.cells #[.int .i64 0, .int .i64 0, .int .i64 0, .slice none 0 0, .slice none 0 0] 33)) := (Below.refl _ _).alloc (Nat.le_refl _) _
      have hbig : w2.heap.size ≤ w2.heap.size := hcS.size
      have hc14 : Below w2.heap.size w2 _ := hcS.trans (Below.mono hal14 hcS.size)
      have hd14 : Below w.heap.size w _ := hdS.trans (Below.mono hal14 hdS.size)
      refine hK.out _ _ (HC.out _ hc14) (fun hHeld2 => ?_)
      clear hHeld hK K
      have hHeld := hHeld2
      clear hHeld2
      try simp only [Act.put, List.setIfInBounds_toArray, List.set_cons_zero, List.set_cons_succ]
      refine wpAnyH_ready (rs := [1]) (by kernel_rfl) (by simp) ?_
      refine AllReadyH.cons rfl (fun K hK => ?_) AllReadyH.nil
      go_simp
      refine (toExchange_any O E M _ _ ps cs _ (HR.out.below hd14) HPN.out HCN.out).mono ?_
      rintro e w15 ⟨g15, h15, rfl, o15, hq15⟩
      have gX15 := hX14.belowAll hq15
      have hc15 : Below w2.heap.size w2 _ := hc14.trans (Below.mono hq15 hc14.size)
      have hd15 : Below w.heap.size w _ := hd14.trans (Below.mono hq15 hd14.size)
      refine hK.out _ _ (HC.out _ hc15) (fun hHeld2 => ?_)
      clear hHeld hK K
      have hHeld := hHeld2
      clear hHeld2
      try simp only [Act.put, List.setIfInBounds_toArray, List.set_cons_zero, List.set_cons_succ]
      refine wpAnyH_ready (rs := [3]) (by kernel_rfl) (by simp) ?_
      refine AllReadyH.cons rfl (fun K hK => ?_) AllReadyH.nil
      go_simp
      refine (toExDeed_any k l s _).mono ?_
      rintro e w16 ⟨rfl, hq16⟩
      have gX16 := gX15.belowAll hq16
      have gex16 := o15.below hq16
      have hc16 : Below w2.heap.size w2 _ := hc15.trans (Below.mono hq16 hc15.size)
      have hd16 : Below w.heap.size w _ := hd15.trans (Below.mono hq16 hd15.size)
      refine hK.out _ _ (HC.out _ hc16) (fun hHeld2 => ?_)
      clear hHeld hK K
      have hHeld := hHeld2
      clear hHeld2
      try simp only [Act.put, List.setIfInBounds_toArray, List.set_cons_zero, List.set_cons_succ]
      refine wpAnyH_ready (rs := [4]) (by kernel_rfl) (by simp) ?_
      refine AllReadyH.cons rfl (fun K hK => ?_) AllReadyH.nil
      go_simp
      refine (KS.out _ _ _ gex16.rd (own_somev gex16.plan)).mono ?_
      rintro e w17 ⟨vq17, vr17, rfl, o17, hq17⟩
      obtain ⟨aq17, cq17, ar17, cr17, rfl, rfl⟩ := agg_parts o17
      have hbF := gX16.lt
      have gX17 := gX16.belowAll hq17
      have gex17 := gex16.below hq17
      have hc17 : Below w2.heap.size w2 _ := hc16.trans (Below.mono hq17 hc16.size)
      have hd17 : Below w.heap.size w _ := hd16.trans (Below.mono hq17 hd16.size)
      refine hK.out _ _ (HC.out _ hc17) (fun hHeld2 => ?_)
      clear hHeld hK K
      have hHeld := hHeld2
      clear hHeld2
      try simp only [Act.put, List.setIfInBounds_toArray, List.set_cons_zero, List.set_cons_succ]
      refine take_on (i := 5) (d := some 26) (v := ?_) rfl (by rfl) (by kernel_rfl) (by kernel_rfl) (by kernel_rfl) (fun _ _ _ h => h) (Or.inl ⟨by kernel_rfl, ?_⟩) (by assumption) ?_
      rotate_left
      focus (intro w hSw; (try dsimp only at hSw); go_simp; (try rw [if_neg (by omega)]); (try with_reducible rfl))
      try simp only [Act.put, List.setIfInBounds_toArray, List.set_cons_zero, List.set_cons_succ]
      refine take_on (i := 6) (d := some 32) (v := ?_) rfl (by rfl) (by kernel_rfl) (by kernel_rfl) (by kernel_rfl) (fun _ _ _ h => h) (Or.inl ⟨by kernel_rfl, ?_⟩) (by assumption) ?_
      rotate_left
      focus (intro w hSw; (try dsimp only at hSw); go_simp; (try rw [if_neg (by omega)]); (try with_reducible rfl))
      try simp only [Act.put, List.setIfInBounds_toArray, List.set_cons_zero, List.set_cons_succ]
      refine take_on (i := 7) (d := some 33) (v := ?_) rfl (by rfl) (by kernel_rfl) (by kernel_rfl) (by kernel_rfl) (fun _ _ _ h => h) (Or.inl ⟨by kernel_rfl, ?_⟩) (by assumption) ?_
      rotate_left
      focus (intro w hSw; (try dsimp only at hSw); go_simp; (try rw [if_neg (by omega)]); (try with_reducible rfl))
      try simp only [Act.put, List.setIfInBounds_toArray, List.set_cons_zero, List.set_cons_succ]
      have hRS := ExRes.mkB (O := O') (E := E') (M := M') hc17 gX17 hbig o17 hbF
      obtain ⟨X0, X1, X2, X3, X4, Y0, Y1, Y2, Y3, Y4, Xlt⟩ := gX17.five
      refine wpAnyH_ready (rs := [9]) (by kernel_rfl) (by simp) ?_
      refine AllReadyH.cons rfl (fun K hK => ?_) AllReadyH.nil
      go_simp
      refine hK.out _ _ (HC.out _ (by exact hRS.bel)) (fun hHeld2 => ?_)
      clear hHeld hK K
      have hHeld := hHeld2
      clear hHeld2
      try simp only [Act.put, List.setIfInBounds_toArray, List.set_cons_zero, List.set_cons_succ]
      refine take_on (i := 10) (d := some 7) (v := ?_) rfl (by rfl) (by kernel_rfl) (by kernel_rfl) (by kernel_rfl) (fun _ _ _ h => h) (Or.inl ⟨by kernel_rfl, ?_⟩) (by assumption) ?_
      rotate_left
      focus (intro w hSw; (try dsimp only at hSw); go_simp; (try rw [if_neg (by omega)]); (try with_reducible rfl))
      try simp only [Act.put, List.setIfInBounds_toArray, List.set_cons_zero, List.set_cons_succ]
      refine wpAnyH_done (by kernel_rfl) ?_ _
      clear hHeld
      go_wp2_with fail
      go_meet
      exact ⟨_, _, _, rfl, rfl, hRS⟩
  case rest =>
    obtain ⟨wc5, rfl⟩ : ∃ wo : World, wo = wc := ⟨_, rfl⟩
    obtain ⟨bW, vWp, vWc, rfl, rfl, hRS⟩ := hcut
    obtain ⟨aWp, cWp, aWc, cWc, rfl, rfl⟩ := agg_parts hRS.own
    have hb18 : Below w.heap.size w _ := hb4.trans (Below.mono hRS.bel hb4.size)
    have fB18 := fB4.belowAll hRS.bel
    have fD18 := fD4.belowAll hRS.bel
    clear hb4 fB4 fD4 
    have hW := hRS.box
    have oW := hRS.own
    have APW1 := Lib.hid hRS.ap1
    have APW2 := Lib.hid hRS.ap2
    have BGW := Lib.hid hRS.big
    have LTW := Lib.hid hW.lt
    have HIW1 := Lib.hid (Hi.of oW.plan)
    have HIW2 := Lib.hid (Hi.of oW.calls)
    have LOW1 := Lib.hid (Lo.of oW.plan)
    have LOW2 := Lib.hid (Lo.of oW.calls)
    have SZW := Lib.hid (show w2.heap.size ≤ wc5.heap.size from hRS.bel.size)
    clear hRS
    go_upto_region 9 with fail
    go_cut [8] (fun tb wc19 => ∃ (b : Nat) (vq vr : Value), tb = .pointer (some ⟨b, 0, none⟩) ∧ ExRes wc5 wc19 b O E M vq vr ps cs)
    case first =>
      obtain ⟨bq0, bq1, bq2, bq3, bq4, -, -, -, -, -, bqlt⟩ := fB18.five
      go_wp2_with fail
      refine (toExchange_any O E M _ _ ps cs _ (HR.out.below hb18) HPN.out HCN.out).mono ?_
      rintro e w20 ⟨g20, h20, rfl, o20, hq20⟩
      have hc20 : Below wc5.heap.size wc5 _ := (Below.refl wc5.heap.size wc5).trans (Below.mono hq20 (Below.refl wc5.heap.size wc5).size)
      have hd20 : Below w.heap.size w _ := hb18.trans (Below.mono hq20 hb18.size)
      have hRS := ExRes.mkA (O := O) (E := E) (M := M) hc20 o20 (Nat.le_refl _)
      go_wp2_with fail
      go_meet
      exact ⟨_, _, _, rfl, hRS⟩
    case rest =>
      obtain ⟨wc19, rfl⟩ : ∃ wo : World, wo = wc := ⟨_, rfl⟩
      obtain ⟨bX, vXp, vXc, rfl, hRS⟩ := hcut
      obtain ⟨aXp, cXp, aXc, cXc, rfl, rfl⟩ := agg_parts hRS.own
      have hb21 : Below w.heap.size w _ := hb18.trans (Below.mono hRS.bel hb18.size)
      have fB21 := fB18.belowAll hRS.bel
      have fD21 := fD18.belowAll hRS.bel
      have fW21 := hW.belowAll hRS.bel
      have fWO21 := oW.below hRS.bel
      clear hb18 fB18 fD18 hW oW 
      have hX := hRS.box
      have oX := hRS.own
      have APX1 := Lib.hid hRS.ap1
      have APX2 := Lib.hid hRS.ap2
      have BGX := Lib.hid hRS.big
      have LTX := Lib.hid hX.lt
      have HIX1 := Lib.hid (Hi.of oX.plan)
      have HIX2 := Lib.hid (Hi.of oX.calls)
      have LOX1 := Lib.hid (Lo.of oX.plan)
      have LOX2 := Lib.hid (Lo.of oX.calls)
      have SZX := Lib.hid (show wc5.heap.size ≤ wc19.heap.size from hRS.bel.size)
      clear hRS
      go_upto_region 10 with fail
      go_cut [9, 10] (fun tb tx wc22 => ∃ (b : Nat) (vq vr : Value), tb = .pointer (some ⟨b, 0, none⟩) ∧ tx = .bool x ∧ ExRes wc19 wc22 b O' E' M' vq vr ps' cs')
      case first =>
        obtain ⟨xq0, xq1, xq2, xq3, xq4, -, -, -, -, -, xqlt⟩ := hX.five
        obtain ⟨dq0, dq1, dq2, -, -, -, dqlt⟩ := fD21.three
        have HC : Hid (∀ w' : World, Below wc19.heap.size wc19 w' → w'.cell? ⟨bX, 0, none⟩ = some (.int .i64 O) ∧ w'.cell? ⟨bX, 1, none⟩ = some (.int .i64 E) ∧ w'.cell? ⟨bX, 2, none⟩ = some (.int .i64 M) ∧ w'.cell? ⟨bX, 3, none⟩ = some (.slice aXp ps.length cXp) ∧ w'.cell? ⟨bX, 4, none⟩ = some (.slice aXc cs.length cXc) ∧ w'.cell? ⟨w.heap.size + 1, 0, none⟩ = some (.int .i64 k) ∧ w'.cell? ⟨w.heap.size + 1, 1, none⟩ = some (.int .i64 l) ∧ w'.cell? ⟨w.heap.size + 1, 2, none⟩ = some (.string s)) := fun w' hb => ⟨(hb.cell (p := ⟨bX, 0, none⟩) xqlt).trans xq0, (hb.cell (p := ⟨bX, 1, none⟩) xqlt).trans xq1, (hb.cell (p := ⟨bX, 2, none⟩) xqlt).trans xq2, (hb.cell (p := ⟨bX, 3, none⟩) xqlt).trans xq3, (hb.cell (p := ⟨bX, 4, none⟩) xqlt).trans xq4, (hb.cell (p := ⟨w.heap.size + 1, 0, none⟩) dqlt).trans dq0, (hb.cell (p := ⟨w.heap.size + 1, 1, none⟩) dqlt).trans dq1, (hb.cell (p := ⟨w.heap.size + 1, 2, none⟩) dqlt).trans dq2⟩
        clear xq0 xq1 xq2 xq3 xq4 xqlt dq0 dq1 dq2 dqlt
        have hcS : Below wc19.heap.size wc19 wc19.drew := (Below.refl _ _).drew
        have hdS : Below w.heap.size w wc19.drew := hb21.drew
        have oEd := oX.drewN 1
        go_wp2_with fail
        refine wp_region_held_drew (S := fun w' => w'.cell? ⟨bX, 0, none⟩ = some (.int .i64 O) ∧ w'.cell? ⟨bX, 1, none⟩ = some (.int .i64 E) ∧ w'.cell? ⟨bX, 2, none⟩ = some (.int .i64 M) ∧ w'.cell? ⟨bX, 3, none⟩ = some (.slice aXp ps.length cXp) ∧ w'.cell? ⟨bX, 4, none⟩ = some (.slice aXc cs.length cXc) ∧ w'.cell? ⟨w.heap.size + 1, 0, none⟩ = some (.int .i64 k) ∧ w'.cell? ⟨w.heap.size + 1, 1, none⟩ = some (.int .i64 l) ∧ w'.cell? ⟨w.heap.size + 1, 2, none⟩ = some (.string s)) (by kernel_rfl) (HC.out _ hcS) (fun hHeld => ?_)
        refine take_on (i := 0) (d := some 37) (v := ?_) rfl (by rfl) (by kernel_rfl) (by kernel_rfl) (by kernel_rfl) (fun _ _ _ h => h) (Or.inl ⟨by kernel_rfl, ?_⟩) (by assumption) ?_
        rotate_left
        focus (intro w hSw; (try dsimp only at hSw); go_simp; (try rw [if_neg (by omega)]); (try with_reducible rfl))
        try simp only [Act.put, List.setIfInBounds_toArray, List.set_cons_zero, List.set_cons_succ]
        refine take_on (i := 1) (d := some 38) (v := ?_) rfl (by rfl) (by kernel_rfl) (by kernel_rfl) (by kernel_rfl) (fun _ _ _ h => h) (Or.inl ⟨by kernel_rfl, ?_⟩) (by assumption) ?_
        rotate_left
        focus (intro w hSw; (try dsimp only at hSw); go_simp; (try rw [if_neg (by omega)]); (try with_reducible rfl))
        try simp only [Act.put, List.setIfInBounds_toArray, List.set_cons_zero, List.set_cons_succ]
        refine wpAnyH_ready (rs := [2, 7]) (by kernel_rfl) (by simp) ?_
        refine AllReadyH.cons rfl (fun K hK => ?_) (AllReadyH.cons rfl (fun K hK => ?_) AllReadyH.nil)
        focus
          go_simp
          refine (toExDeed_any k l s _).mono ?_
          rintro e w23 ⟨rfl, hq23⟩
          have gex23 := oEd.below hq23
          have hc23 : Below wc19.heap.size wc19 _ := hcS.trans (Below.mono hq23 hcS.size)
          have hd23 : Below w.heap.size w _ := hdS.trans (Below.mono hq23 hdS.size)
          refine hK.out _ _ (HC.out _ hc23) (fun hHeld2 => ?_)
          clear hHeld hK K
          have hHeld := hHeld2
          clear hHeld2
          try simp only [Act.put, List.setIfInBounds_toArray, List.set_cons_zero, List.set_cons_succ]
          refine wpAnyH_ready (rs := [3, 7]) (by kernel_rfl) (by simp) ?_
          refine AllReadyH.cons rfl (fun K hK => ?_) (AllReadyH.cons rfl (fun K hK => ?_) AllReadyH.nil)
          focus
            go_simp
            refine (KI.out _ _ _ gex23.rd (own_somev gex23.plan)).mono ?_
            rintro e w24 ⟨vq24, vr24, rfl, o24, hq24⟩
            obtain ⟨aq24, cq24, ar24, cr24, rfl, rfl⟩ := agg_parts o24
            have gex24 := gex23.below hq24
            have hc24 : Below wc19.heap.size wc19 _ := hc23.trans (Below.mono hq24 hc23.size)
            have hd24 : Below w.heap.size w _ := hd23.trans (Below.mono hq24 hd23.size)
            refine hK.out _ _ (HC.out _ hc24) (fun hHeld2 => ?_)
            clear hHeld hK K
            have hHeld := hHeld2
            clear hHeld2
            try simp only [Act.put, List.setIfInBounds_toArray, List.set_cons_zero, List.set_cons_succ]
            refine take_on (i := 4) (d := some 36) (v := ?_) rfl (by rfl) (by kernel_rfl) (by kernel_rfl) (by kernel_rfl) (fun _ _ _ h => h) (Or.inl ⟨by kernel_rfl, ?_⟩) (by assumption) ?_
            rotate_left
            focus (intro w hSw; (try dsimp only at hSw); go_simp; (try rw [if_neg (by omega)]); (try with_reducible rfl))
            try simp only [Act.put, List.setIfInBounds_toArray, List.set_cons_zero, List.set_cons_succ]
            refine take_on (i := 5) (d := some 41) (v := ?_) rfl (by rfl) (by kernel_rfl) (by kernel_rfl) (by kernel_rfl) (fun _ _ _ h => h) (Or.inl ⟨by kernel_rfl, ?_⟩) (by assumption) ?_
            rotate_left
            focus (intro w hSw; (try dsimp only at hSw); go_simp; (try rw [if_neg (by omega)]); (try with_reducible rfl))
            try simp only [Act.put, List.setIfInBounds_toArray, List.set_cons_zero, List.set_cons_succ]
            refine take_on (i := 6) (d := some 42) (v := ?_) rfl (by rfl) (by kernel_rfl) (by kernel_rfl) (by kernel_rfl) (fun _ _ _ h => h) (Or.inl ⟨by kernel_rfl, ?_⟩) (by assumption) ?_
            rotate_left
            focus (intro w hSw; (try dsimp only at hSw); go_simp; (try rw [if_neg (by omega)]); (try with_reducible rfl))
            try simp only [Act.put, List.setIfInBounds_toArray, List.set_cons_zero, List.set_cons_succ]
            refine wpAnyH_ready (rs := [7]) (by kernel_rfl) (by simp) ?_
            refine AllReadyH.cons rfl (fun K hK => ?_) AllReadyH.nil
            go_simp
            refine hK.out _ _ (HC.out _ (hc24.alloc hc24.size _)) (fun hHeld2 => ?_)
            clear hHeld hK K
            have hHeld := hHeld2
            clear hHeld2
            try simp only [Act.put, List.setIfInBounds_toArray, List.set_cons_zero, List.set_cons_succ]
            refine wpAnyH_ready (rs := [8]) (by kernel_rfl) (by simp) ?_
            refine AllReadyH.cons rfl (fun K hK => ?_) AllReadyH.nil
            go_simp
            refine hK.out _ _ (HC.out _ (hc24.alloc hc24.size _)) (fun hHeld2 => ?_)
            clear hHeld hK K
            have hHeld := hHeld2
            clear hHeld2
            try simp only [Act.put, List.setIfInBounds_toArray, List.set_cons_zero, List.set_cons_succ]
            have hRS := ExRes.mkA (O := O') (E := E') (M := M') hc24 o24 hc23.size
            refine take_on (i := 9) (d := some 10) (v := ?_) rfl (by rfl) (by kernel_rfl) (by kernel_rfl) (by kernel_rfl) (fun _ _ _ h => h) (Or.inl ⟨by kernel_rfl, ?_⟩) (by assumption) ?_
            rotate_left
            focus (intro w hSw; (try dsimp only at hSw); go_simp; (try rw [if_neg (by omega)]); (try with_reducible rfl))
            try simp only [Act.put, List.setIfInBounds_toArray, List.set_cons_zero, List.set_cons_succ]
            refine wpAnyH_done (by kernel_rfl) ?_ _
            clear hHeld
            go_wp2_with fail
            go_meet
            exact ⟨_, _, _, rfl, rfl, hRS⟩
          focus
            go_simp
            have hX25 := Blk.new (w := w23) (cs := #[.int .i64 0, .int .i64 0, .int .i64 0, .slice none 0 0, .slice none 0 0]) (T := 33) (b := w23.heap.size) rfl
            have hal25 : Below w23.heap.size w23 (w23.alloc (.cells #[.int .i64 0, .int .i64 0, .int .i64 0, .slice none 0 0, .slice none 0 0] 33)) := (Below.refl _ _).alloc (Nat.le_refl _) _
            have hbig : wc19.heap.size ≤ w23.heap.size := hc23.size
            have gex25 := gex23.below hal25
            have hc25 : Below wc19.heap.size wc19 _ := hc23.trans (Below.mono hal25 hc23.size)
            have hd25 : Below w.heap.size w _ := hd23.trans (Below.mono hal25 hd23.size)
            refine hK.out _ _ (HC.out _ hc25) (fun hHeld2 => ?_)
            clear hHeld hK K
            have hHeld := hHeld2
            clear hHeld2
            try simp only [Act.put, List.setIfInBounds_toArray, List.set_cons_zero, List.set_cons_succ]
            refine wpAnyH_ready (rs := [3]) (by kernel_rfl) (by simp) ?_
            refine AllReadyH.cons rfl (fun K hK => ?_) AllReadyH.nil
            go_simp
            refine (KI.out _ _ _ gex25.rd (own_somev gex25.plan)).mono ?_
            rintro e w26 ⟨vq26, vr26, rfl, o26, hq26⟩
            obtain ⟨aq26, cq26, ar26, cr26, rfl, rfl⟩ := agg_parts o26
            have hbF := hX25.lt
            have gex26 := gex25.below hq26
            have gX26 := hX25.belowAll hq26
            have hc26 : Below wc19.heap.size wc19 _ := hc25.trans (Below.mono hq26 hc25.size)
            have hd26 : Below w.heap.size w _ := hd25.trans (Below.mono hq26 hd25.size)
            refine hK.out _ _ (HC.out _ hc26) (fun hHeld2 => ?_)
            clear hHeld hK K
            have hHeld := hHeld2
            clear hHeld2
            try simp only [Act.put, List.setIfInBounds_toArray, List.set_cons_zero, List.set_cons_succ]
            refine take_on (i := 4) (d := some 36) (v := ?_) rfl (by rfl) (by kernel_rfl) (by kernel_rfl) (by kernel_rfl) (fun _ _ _ h => h) (Or.inl ⟨by kernel_rfl, ?_⟩) (by assumption) ?_
            rotate_left
            focus (intro w hSw; (try dsimp only at hSw); go_simp; (try rw [if_neg (by omega)]); (try with_reducible rfl))
            try simp only [Act.put, List.setIfInBounds_toArray, List.set_cons_zero, List.set_cons_succ]
            refine take_on (i := 5) (d := some 41) (v := ?_) rfl (by rfl) (by kernel_rfl) (by kernel_rfl) (by kernel_rfl) (fun _ _ _ h => h) (Or.inl ⟨by kernel_rfl, ?_⟩) (by assumption) ?_
            rotate_left
            focus (intro w hSw; (try dsimp only at hSw); go_simp; (try rw [if_neg (by omega)]); (try with_reducible rfl))
            try simp only [Act.put, List.setIfInBounds_toArray, List.set_cons_zero, List.set_cons_succ]
            refine take_on (i := 6) (d := some 42) (v := ?_) rfl (by rfl) (by kernel_rfl) (by kernel_rfl) (by kernel_rfl) (fun _ _ _ h => h) (Or.inl ⟨by kernel_rfl, ?_⟩) (by assumption) ?_
            rotate_left
            focus (intro w hSw; (try dsimp only at hSw); go_simp; (try rw [if_neg (by omega)]); (try with_reducible rfl))
            try simp only [Act.put, List.setIfInBounds_toArray, List.set_cons_zero, List.set_cons_succ]
            have hRS := ExRes.mkB (O := O') (E := E') (M := M') hc26 gX26 hbig o26 hbF
            obtain ⟨X0, X1, X2, X3, X4, Y0, Y1, Y2, Y3, Y4, Xlt⟩ := gX26.five
            refine wpAnyH_ready (rs := [8]) (by kernel_rfl) (by simp) ?_
            refine AllReadyH.cons rfl (fun K hK => ?_) AllReadyH.nil
            go_simp
            refine hK.out _ _ (HC.out _ (by exact hRS.bel)) (fun hHeld2 => ?_)
            clear hHeld hK K
            have hHeld := hHeld2
            clear hHeld2
            try simp only [Act.put, List.setIfInBounds_toArray, List.set_cons_zero, List.set_cons_succ]
            refine take_on (i := 9) (d := some 10) (v := ?_) rfl (by rfl) (by kernel_rfl) (by kernel_rfl) (by kernel_rfl) (fun _ _ _ h => h) (Or.inl ⟨by kernel_rfl, ?_⟩) (by assumption) ?_
            rotate_left
            focus (intro w hSw; (try dsimp only at hSw); go_simp; (try rw [if_neg (by omega)]); (try with_reducible rfl))
            try simp only [Act.put, List.setIfInBounds_toArray, List.set_cons_zero, List.set_cons_succ]
            refine wpAnyH_done (by kernel_rfl) ?_ _
            clear hHeld
            go_wp2_with fail
            go_meet
            exact ⟨_, _, _, rfl, rfl, hRS⟩
        focus
          go_simp
          have hX27 := Blk.new (w := wc19.drew) (cs := #[.int .i64 0, .int .i64 0, .int .i64 0, .slice none 0 0, .slice none 0 0]) (T := 33) (b := wc19.heap.size) rfl
          have hal27 : Below wc19.drew.heap.size wc19.drew (wc19.drew.alloc (.cells #[.int .i64 0, .int .i64 0, .int .i64 0, .slice none 0 0, .slice none 0 0] 33)) := (Below.refl _ _).alloc (Nat.le_refl _) _
          have hbig : wc19.heap.size ≤ wc19.heap.size := hcS.size
          have gex27 := oEd.below hal27
          have hc27 : Below wc19.heap.size wc19 _ := hcS.trans (Below.mono hal27 hcS.size)
          have hd27 : Below w.heap.size w _ := hdS.trans (Below.mono hal27 hdS.size)
          refine hK.out _ _ (HC.out _ hc27) (fun hHeld2 => ?_)
          clear hHeld hK K
          have hHeld := hHeld2
          clear hHeld2
          try simp only [Act.put, List.setIfInBounds_toArray, List.set_cons_zero, List.set_cons_succ]
          refine wpAnyH_ready (rs := [2]) (by kernel_rfl) (by simp) ?_
          refine AllReadyH.cons rfl (fun K hK => ?_) AllReadyH.nil
          go_simp
          refine (toExDeed_any k l s _).mono ?_
          rintro e w28 ⟨rfl, hq28⟩
          have gex28 := gex27.below hq28
          have gX28 := hX27.belowAll hq28
          have hc28 : Below wc19.heap.size wc19 _ := hc27.trans (Below.mono hq28 hc27.size)
          have hd28 : Below w.heap.size w _ := hd27.trans (Below.mono hq28 hd27.size)
          refine hK.out _ _ (HC.out _ hc28) (fun hHeld2 => ?_)
          clear hHeld hK K
          have hHeld := hHeld2
          clear hHeld2
          try simp only [Act.put, List.setIfInBounds_toArray, List.set_cons_zero, List.set_cons_succ]
          refine wpAnyH_ready (rs := [3]) (by kernel_rfl) (by simp) ?_
          refine AllReadyH.cons rfl (fun K hK => ?_) AllReadyH.nil
          go_simp
          refine (KI.out _ _ _ gex28.rd (own_somev gex28.plan)).mono ?_
          rintro e w29 ⟨vq29, vr29, rfl, o29, hq29⟩
          obtain ⟨aq29, cq29, ar29, cr29, rfl, rfl⟩ := agg_parts o29
          have hbF := gX28.lt
          have gex29 := gex28.below hq29
          have gX29 := gX28.belowAll hq29
          have hc29 : Below wc19.heap.size wc19 _ := hc28.trans (Below.mono hq29 hc28.size)
          have hd29 : Below w.heap.size w _ := hd28.trans (Below.mono hq29 hd28.size)
          refine hK.out _ _ (HC.out _ hc29) (fun hHeld2 => ?_)
          clear hHeld hK K
          have hHeld := hHeld2
          clear hHeld2
          try simp only [Act.put, List.setIfInBounds_toArray, List.set_cons_zero, List.set_cons_succ]
          refine take_on (i := 4) (d := some 36) (v := ?_) rfl (by rfl) (by kernel_rfl) (by kernel_rfl) (by kernel_rfl) (fun _ _ _ h => h) (Or.inl ⟨by kernel_rfl, ?_⟩) (by assumption) ?_
          rotate_left
          focus (intro w hSw; (try dsimp only at hSw); go_simp; (try rw [if_neg (by omega)]); (try with_reducible rfl))
          try simp only [Act.put, List.setIfInBounds_toArray, List.set_cons_zero, List.set_cons_succ]
          refine take_on (i := 5) (d := some 41) (v := ?_) rfl (by rfl) (by kernel_rfl) (by kernel_rfl) (by kernel_rfl) (fun _ _ _ h => h) (Or.inl ⟨by kernel_rfl, ?_⟩) (by assumption) ?_
          rotate_left
          focus (intro w hSw; (try dsimp only at hSw); go_simp; (try rw [if_neg (by omega)]); (try with_reducible rfl))
          try simp only [Act.put, List.setIfInBounds_toArray, List.set_cons_zero, List.set_cons_succ]
          refine take_on (i := 6) (d := some 42) (v := ?_) rfl (by rfl) (by kernel_rfl) (by kernel_rfl) (by kernel_rfl) (fun _ _ _ h => h) (Or.inl ⟨by kernel_rfl, ?_⟩) (by assumption) ?_
          rotate_left
          focus (intro w hSw; (try dsimp only at hSw); go_simp; (try rw [if_neg (by omega)]); (try with_reducible rfl))
          try simp only [Act.put, List.setIfInBounds_toArray, List.set_cons_zero, List.set_cons_succ]
          have hRS := ExRes.mkB (O := O') (E := E') (M := M') hc29 gX29 hbig o29 hbF
          obtain ⟨X0, X1, X2, X3, X4, Y0, Y1, Y2, Y3, Y4, Xlt⟩ := gX29.five
          refine wpAnyH_ready (rs := [8]) (by kernel_rfl) (by simp) ?_
          refine AllReadyH.cons rfl (fun K hK => ?_) AllReadyH.nil
          go_simp
          refine hK.out _ _ (HC.out _ (by exact hRS.bel)) (fun hHeld2 => ?_)
          clear hHeld hK K
          have hHeld := hHeld2
          clear hHeld2
          try simp only [Act.put, List.setIfInBounds_toArray, List.set_cons_zero, List.set_cons_succ]
          refine take_on (i := 9) (d := some 10) (v := ?_) rfl (by rfl) (by kernel_rfl) (by kernel_rfl) (by kernel_rfl) (fun _ _ _ h => h) (Or.inl ⟨by kernel_rfl, ?_⟩) (by assumption) ?_
          rotate_left
          focus (intro w hSw; (try dsimp only at hSw); go_simp; (try rw [if_neg (by omega)]); (try with_reducible rfl))
          try simp only [Act.put, List.setIfInBounds_toArray, List.set_cons_zero, List.set_cons_succ]
          refine wpAnyH_done (by kernel_rfl) ?_ _
          clear hHeld
          go_wp2_with fail
          go_meet
          exact ⟨_, _, _, rfl, rfl, hRS⟩
      case rest =>
        obtain ⟨wc22, rfl⟩ : ∃ wo : World, wo = wc := ⟨_, rfl⟩
        obtain ⟨bG, vGp, vGc, rfl, rfl, hRS⟩ := hcut
        obtain ⟨aGp, cGp, aGc, cGc, rfl, rfl⟩ := agg_parts hRS.own
        have hb30 : Below w.heap.size w _ := hb21.trans (Below.mono hRS.bel hb21.size)
        have fB30 := fB21.belowAll hRS.bel
        have fD30 := fD21.belowAll hRS.bel
        have fW30 := fW21.belowAll hRS.bel
        have fWO30 := fWO21.below hRS.bel
        have fX30 := hX.belowAll hRS.bel
        have fXO30 := oX.below hRS.bel
        clear hb21 fB21 fD21 fW21 fWO21 hX oX 
        have hG := hRS.box
        have oG := hRS.own
        have APG1 := Lib.hid hRS.ap1
        have APG2 := Lib.hid hRS.ap2
        have BGG := Lib.hid hRS.big
        have LTG := Lib.hid hG.lt
        have HIG1 := Lib.hid (Hi.of oG.plan)
        have HIG2 := Lib.hid (Hi.of oG.calls)
        have LOG1 := Lib.hid (Lo.of oG.plan)
        have LOG2 := Lib.hid (Lo.of oG.calls)
        have SZG := Lib.hid (show wc19.heap.size ≤ wc22.heap.size from hRS.bel.size)
        clear hRS
        obtain ⟨gq0, gq1, gq2, gq3, gq4, -, -, -, -, -, gqlt⟩ := hG.five
        obtain ⟨wq0, wq1, wq2, wq3, wq4, -, -, -, -, -, wqlt⟩ := fW30.five
        go_wp2_with fail
        refine (eqExchange_any O' E' M' O' E' M' _ _ _ _ ps' ps' cs' cs' _ oG.rd fWO30.rd).mono ?_
        rintro e w31 ⟨rfl, hq⟩
        rw [decide_eq_true rfl, decide_eq_true rfl, decide_eq_true rfl]
        clear gq0 gq1 gq2 gq3 gq4 gqlt wq0 wq1 wq2 wq3 wq4 wqlt
        have hb32 : Below w.heap.size w _ := hb30.trans (Below.mono hq hb30.size)
        have fB32 := fB30.belowAll hq
        have fD32 := fD30.belowAll hq
        have fW32 := fW30.belowAll hq
        have fWO32 := fWO30.below hq
        have fX32 := fX30.belowAll hq
        have fXO32 := fXO30.below hq
        have fG32 := hG.belowAll hq
        have fGO32 := oG.below hq
        clear hb30 fB30 fD30 fW30 fWO30 fX30 fXO30 hG oG hq
        obtain ⟨bq0, bq1, bq2, bq3, bq4, -, -, -, -, -, bqlt⟩ := fB32.five
        obtain ⟨xq0, xq1, xq2, xq3, xq4, -, -, -, -, -, xqlt⟩ := fX32.five
        have HC : Hid (∀ w' : World, Below w31.heap.size w31 w' → w'.cell? ⟨w.heap.size, 0, none⟩ = some (.int .i64 O) ∧ w'.cell? ⟨w.heap.size, 1, none⟩ = some (.int .i64 E) ∧ w'.cell? ⟨w.heap.size, 2, none⟩ = some (.int .i64 M) ∧ w'.cell? ⟨w.heap.size, 3, none⟩ = some (.slice a1 ps.length c1) ∧ w'.cell? ⟨w.heap.size, 4, none⟩ = some (.slice a2 cs.length c2) ∧ w'.cell? ⟨bX, 0, none⟩ = some (.int .i64 O) ∧ w'.cell? ⟨bX, 1, none⟩ = some (.int .i64 E) ∧ w'.cell? ⟨bX, 2, none⟩ = some (.int .i64 M) ∧ w'.cell? ⟨bX, 3, none⟩ = some (.slice aXp ps.length cXp) ∧ w'.cell? ⟨bX, 4, none⟩ = some (.slice aXc cs.length cXc)) := fun w' hb => ⟨(hb.cell (p := ⟨w.heap.size, 0, none⟩) bqlt).trans bq0, (hb.cell (p := ⟨w.heap.size, 1, none⟩) bqlt).trans bq1, (hb.cell (p := ⟨w.heap.size, 2, none⟩) bqlt).trans bq2, (hb.cell (p := ⟨w.heap.size, 3, none⟩) bqlt).trans bq3, (hb.cell (p := ⟨w.heap.size, 4, none⟩) bqlt).trans bq4, (hb.cell (p := ⟨bX, 0, none⟩) xqlt).trans xq0, (hb.cell (p := ⟨bX, 1, none⟩) xqlt).trans xq1, (hb.cell (p := ⟨bX, 2, none⟩) xqlt).trans xq2, (hb.cell (p := ⟨bX, 3, none⟩) xqlt).trans xq3, (hb.cell (p := ⟨bX, 4, none⟩) xqlt).trans xq4⟩
        clear bq0 bq1 bq2 bq3 bq4 bqlt xq0 xq1 xq2 xq3 xq4 xqlt
        have hcS : Below w31.heap.size w31 w31.drew := (Below.refl _ _).drew
        have hdS : Below w.heap.size w w31.drew := hb32.drew
        have oEd := fXO32.drewN 1
        go_wp2_with fail
        refine wp_region_held_drew (S := fun w' => w'.cell? ⟨w.heap.size, 0, none⟩ = some (.int .i64 O) ∧ w'.cell? ⟨w.heap.size, 1, none⟩ = some (.int .i64 E) ∧ w'.cell? ⟨w.heap.size, 2, none⟩ = some (.int .i64 M) ∧ w'.cell? ⟨w.heap.size, 3, none⟩ = some (.slice a1 ps.length c1) ∧ w'.cell? ⟨w.heap.size, 4, none⟩ = some (.slice a2 cs.length c2) ∧ w'.cell? ⟨bX, 0, none⟩ = some (.int .i64 O) ∧ w'.cell? ⟨bX, 1, none⟩ = some (.int .i64 E) ∧ w'.cell? ⟨bX, 2, none⟩ = some (.int .i64 M) ∧ w'.cell? ⟨bX, 3, none⟩ = some (.slice aXp ps.length cXp) ∧ w'.cell? ⟨bX, 4, none⟩ = some (.slice aXc cs.length cXc)) (by kernel_rfl) (HC.out _ hcS) (fun hHeld => ?_)
        refine take_on (i := 0) (d := some 52) (v := ?_) rfl (by rfl) (by kernel_rfl) (by kernel_rfl) (by kernel_rfl) (fun _ _ _ h => h) (Or.inl ⟨by kernel_rfl, ?_⟩) (by assumption) ?_
        rotate_left
        focus (intro w hSw; (try dsimp only at hSw); go_simp; (try rw [if_neg (by omega)]); (try with_reducible rfl))
        try simp only [Act.put, List.setIfInBounds_toArray, List.set_cons_zero, List.set_cons_succ]
        refine take_on (i := 1) (d := some 53) (v := ?_) rfl (by rfl) (by kernel_rfl) (by kernel_rfl) (by kernel_rfl) (fun _ _ _ h => h) (Or.inl ⟨by kernel_rfl, ?_⟩) (by assumption) ?_
        rotate_left
        focus (intro w hSw; (try dsimp only at hSw); go_simp; (try rw [if_neg (by omega)]); (try with_reducible rfl))
        try simp only [Act.put, List.setIfInBounds_toArray, List.set_cons_zero, List.set_cons_succ]
        refine wpAnyH_ready (rs := [2]) (by kernel_rfl) (by simp) ?_
        refine AllReadyH.cons rfl (fun K hK => ?_) AllReadyH.nil
        go_simp
        refine (toExchange_any O E M _ _ ps cs _ (HR.out.below hdS) HPN.out HCN.out).mono ?_
        rintro e w33 ⟨g33, h33, rfl, o33, hq33⟩
        have gox33 := oEd.below hq33
        have hc33 : Below w31.heap.size w31 _ := hcS.trans (Below.mono hq33 hcS.size)
        have hd33 : Below w.heap.size w _ := hdS.trans (Below.mono hq33 hdS.size)
        refine hK.out _ _ (HC.out _ hc33) (fun hHeld2 => ?_)
        clear hHeld hK K
        have hHeld := hHeld2
        clear hHeld2
        try simp only [Act.put, List.setIfInBounds_toArray, List.set_cons_zero, List.set_cons_succ]
        refine wpAnyH_ready (rs := [3]) (by kernel_rfl) (by simp) ?_
        refine AllReadyH.cons rfl (fun K hK => ?_) AllReadyH.nil
        go_simp
        refine (eqExchange_any O E M O E M _ _ _ _ ps ps cs cs _ gox33.rd o33.rd).mono ?_
        rintro e w34 ⟨rfl, hq34⟩
        rw [decide_eq_true rfl, decide_eq_true rfl, decide_eq_true rfl]
        have gox34 := gox33.below hq34
        have gex34 := o33.below hq34
        have hc34 : Below w31.heap.size w31 _ := hc33.trans (Below.mono hq34 hc33.size)
        have hd34 : Below w.heap.size w _ := hd33.trans (Below.mono hq34 hd33.size)
        refine hK.out _ _ (HC.out _ hc34) (fun hHeld2 => ?_)
        clear hHeld hK K
        have hHeld := hHeld2
        clear hHeld2
        try simp only [Act.put, List.setIfInBounds_toArray, List.set_cons_zero, List.set_cons_succ]
        refine take_on (i := 4) (d := some 56) (v := ?_) rfl (by rfl) (by kernel_rfl) (by kernel_rfl) (by kernel_rfl) (fun _ _ _ h => h) (Or.inl ⟨by kernel_rfl, ?_⟩) (by assumption) ?_
        rotate_left
        focus (intro w hSw; (try dsimp only at hSw); go_simp; (try rw [if_neg (by omega)]); (try with_reducible rfl))
        try simp only [Act.put, List.setIfInBounds_toArray, List.set_cons_zero, List.set_cons_succ]
        refine wpAnyH_done (by kernel_rfl) ?_ _
        clear hHeld
        have hb35 : Below w.heap.size w _ := hb32.trans (Below.mono hc34 hb32.size)
        have fB35 := fB32.belowAll hc34
        have fD35 := fD32.belowAll hc34
        have fW35 := fW32.belowAll hc34
        have fWO35 := fWO32.below hc34
        have fX35 := fX32.belowAll hc34
        have fXO35 := fXO32.below hc34
        have fG35 := fG32.belowAll hc34
        have fGO35 := fGO32.below hc34
        clear hb32 fB32 fD32 fW32 fWO32 fX32 fXO32 fG32 fGO32 hc34
        have NW := LTW.out
        have NX := LTX.out
        have NG := BGG.out
        have NS := HSTART.out
        have SW := SZW.out
        have SX := SZX.out
        obtain ⟨xq0, xq1, xq2, xq3, xq4, -, -, -, -, -, xqlt⟩ := fX35.five
        go_wp2_with fail
        refine (markExchange_any O E M _ _ _ ps cs 1 _ fXO35 (by omega) (by omega) (by first | omega | (have := HPN.out; omega)) (by first | omega | (have := HCN.out; omega))).mono ?_
        rintro e w36 ⟨rfl, om36, hg36⟩
        clear xq0 xq1 xq2 xq3 xq4 xqlt
        have HB1 := HIX1.out
        have HB2 := HIX2.out
        have LB1 := LOX1.out
        have LB2 := LOX2.out
        have hb36 : Below w.heap.size w _ := Below.gb2 hb35 hg36 hb35.size (HB1.mono (by omega)) (HB2.mono (by omega))
        have fB36 := fB35.gb2 hg36 (HB1.ne (by omega)) (HB2.ne (by omega))
        have fD36 := fD35.gb2 hg36 (HB1.ne (by omega)) (HB2.ne (by omega))
        have fW36 := fW35.gb2 hg36 (HB1.ne (by omega)) (HB2.ne (by omega))
        have fWO36 := fWO35.kept2 hg36 ((LOW1.out.mono (by omega)).apart HB1) ((LOW2.out.mono (by omega)).apart HB1) ((LOW1.out.mono (by omega)).apart HB2) ((LOW2.out.mono (by omega)).apart HB2)
        have fX36 := fX35.gb2 hg36 (ap_ne APX1.out) (ap_ne APX2.out)
        have fXO36 := om36
        have fG36 := fG35.gb2 hg36 (LB1.ne (by omega)) (LB2.ne (by omega))
        have fGO36 := fGO35.kept2 hg36 ((HIG1.out.mono (by omega)).apart LB1) ((HIG2.out.mono (by omega)).apart LB1) ((HIG1.out.mono (by omega)).apart LB2) ((HIG2.out.mono (by omega)).apart LB2)
        clear hg36 om36 HB1 HB2 LB1 LB2 hb35 fB35 fD35 fW35 fWO35 fX35 fXO35 fG35 fGO35
        clear fX36 fXO36
        have hk8 : ¬ ((1 + ps.length + 3 * cs.length : Nat) : Int) < 0 := by omega
        clear NW NX NG NS SW SX
        obtain ⟨gq0, gq1, gq2, gq3, gq4, -, -, -, -, -, gqlt⟩ := fG36.five
        obtain ⟨wq0, wq1, wq2, wq3, wq4, -, -, -, -, -, wqlt⟩ := fW36.five
        go_wp2_with fail
        refine (eqExchange_any O' E' M' O' E' M' _ _ _ _ ps' ps' cs' cs' _ fGO36.rd fWO36.rd).mono ?_
        rintro e w37 ⟨rfl, hq⟩
        rw [decide_eq_true rfl, decide_eq_true rfl, decide_eq_true rfl]
        clear gq0 gq1 gq2 gq3 gq4 gqlt wq0 wq1 wq2 wq3 wq4 wqlt
        have hb38 : Below w.heap.size w _ := hb36.trans (Below.mono hq hb36.size)
        have fB38 := fB36.belowAll hq
        have fD38 := fD36.belowAll hq
        have fW38 := fW36.belowAll hq
        have fWO38 := fWO36.below hq
        have fG38 := fG36.belowAll hq
        have fGO38 := fGO36.below hq
        clear hb36 fB36 fD36 fW36 fWO36 fG36 fGO36 hq
        clear hk8
        have NW := LTW.out
        have NX := LTX.out
        have NG := BGG.out
        have NS := HSTART.out
        have SW := SZW.out
        have SX := SZX.out
        obtain ⟨gq0, gq1, gq2, gq3, gq4, -, -, -, -, -, gqlt⟩ := fG38.five
        go_wp2_with fail
        refine (markExchange_any O' E' M' _ _ _ ps' cs' 1 _ fGO38 (by omega) (by omega) (by first | omega | (have := HPN.out; omega)) (by first | omega | (have := HCN.out; omega))).mono ?_
        rintro e w39 ⟨rfl, om39, hg39⟩
        clear gq0 gq1 gq2 gq3 gq4 gqlt
        have HB1 := HIG1.out
        have HB2 := HIG2.out
        have LB1 := LOG1.out
        have LB2 := LOG2.out
        have hb39 : Below w.heap.size w _ := Below.gb2 hb38 hg39 hb38.size (HB1.mono (by omega)) (HB2.mono (by omega))
        have fB39 := fB38.gb2 hg39 (HB1.ne (by omega)) (HB2.ne (by omega))
        have fD39 := fD38.gb2 hg39 (HB1.ne (by omega)) (HB2.ne (by omega))
        have fW39 := fW38.gb2 hg39 (HB1.ne (by omega)) (HB2.ne (by omega))
        have fWO39 := fWO38.kept2 hg39 ((LOW1.out.mono (by omega)).apart HB1) ((LOW2.out.mono (by omega)).apart HB1) ((LOW1.out.mono (by omega)).apart HB2) ((LOW2.out.mono (by omega)).apart HB2)
        have fG39 := fG38.gb2 hg39 (ap_ne APG1.out) (ap_ne APG2.out)
        have fGO39 := om39
        clear hg39 om39 HB1 HB2 LB1 LB2 hb38 fB38 fD38 fW38 fWO38 fG38 fGO38
        clear NW NX NG NS SW SX
        obtain ⟨gq0, gq1, gq2, gq3, gq4, -, -, -, -, -, gqlt⟩ := fG39.five
        go_wp2_with fail
        refine (heldExchange_any O' E' M' _ _ ps'.length cs'.length 1 _ fGO39.rd (by omega) (by omega) (by omega) (by omega)).mono ?_
        rintro e w40 ⟨rfl, hq⟩
        clear gq0 gq1 gq2 gq3 gq4 gqlt
        have hb41 : Below w.heap.size w _ := hb39.trans (Below.mono hq hb39.size)
        have fB41 := fB39.belowAll hq
        have fD41 := fD39.belowAll hq
        have fW41 := fW39.belowAll hq
        have fWO41 := fWO39.below hq
        have fG41 := fG39.belowAll hq
        have fGO41 := fGO39.below hq
        clear hb39 fB39 fD39 fW39 fWO39 fG39 fGO39 hq
        have hkb : ¬ ((1 + ps'.length + 3 * cs'.length : Nat) : Int) < 0 := by omega
        have hqb : (((1 + ps'.length + 3 * cs'.length : Nat) : Int) != ((1 + ps'.length + 3 * cs'.length : Nat) : Int)) = false := by simp
        go_upto_region 27 with fail
        go_cut [14, 15] (fun tb tx wc42 => ∃ (b : Nat) (vq vr : Value), tb = .pointer (some ⟨b, 0, none⟩) ∧ tx = .bool x ∧ ExRes w40 wc42 b O' E' M' vq vr ps' cs')
        case first =>
          obtain ⟨bq0, bq1, bq2, bq3, bq4, -, -, -, -, -, bqlt⟩ := fB41.five
          obtain ⟨dq0, dq1, dq2, -, -, -, dqlt⟩ := fD41.three
          have HC : Hid (∀ w' : World, Below w40.heap.size w40 w' → w'.cell? ⟨w.heap.size, 0, none⟩ = some (.int .i64 O) ∧ w'.cell? ⟨w.heap.size, 1, none⟩ = some (.int .i64 E) ∧ w'.cell? ⟨w.heap.size, 2, none⟩ = some (.int .i64 M) ∧ w'.cell? ⟨w.heap.size, 3, none⟩ = some (.slice a1 ps.length c1) ∧ w'.cell? ⟨w.heap.size, 4, none⟩ = some (.slice a2 cs.length c2) ∧ w'.cell? ⟨w.heap.size + 1, 0, none⟩ = some (.int .i64 k) ∧ w'.cell? ⟨w.heap.size + 1, 1, none⟩ = some (.int .i64 l) ∧ w'.cell? ⟨w.heap.size + 1, 2, none⟩ = some (.string s)) := fun w' hb => ⟨(hb.cell (p := ⟨w.heap.size, 0, none⟩) bqlt).trans bq0, (hb.cell (p := ⟨w.heap.size, 1, none⟩) bqlt).trans bq1, (hb.cell (p := ⟨w.heap.size, 2, none⟩) bqlt).trans bq2, (hb.cell (p := ⟨w.heap.size, 3, none⟩) bqlt).trans bq3, (hb.cell (p := ⟨w.heap.size, 4, none⟩) bqlt).trans bq4, (hb.cell (p := ⟨w.heap.size + 1, 0, none⟩) dqlt).trans dq0, (hb.cell (p := ⟨w.heap.size + 1, 1, none⟩) dqlt).trans dq1, (hb.cell (p := ⟨w.heap.size + 1, 2, none⟩) dqlt).trans dq2⟩
          clear bq0 bq1 bq2 bq3 bq4 bqlt dq0 dq1 dq2 dqlt
          have hcS : Below w40.heap.size w40 w40.drew := (Below.refl _ _).drew
          have hdS : Below w.heap.size w w40.drew := hb41.drew
          go_wp2_with fail
          refine wp_region_held_drew (S := fun w' => w'.cell? ⟨w.heap.size, 0, none⟩ = some (.int .i64 O) ∧ w'.cell? ⟨w.heap.size, 1, none⟩ = some (.int .i64 E) ∧ w'.cell? ⟨w.heap.size, 2, none⟩ = some (.int .i64 M) ∧ w'.cell? ⟨w.heap.size, 3, none⟩ = some (.slice a1 ps.length c1) ∧ w'.cell? ⟨w.heap.size, 4, none⟩ = some (.slice a2 cs.length c2) ∧ w'.cell? ⟨w.heap.size + 1, 0, none⟩ = some (.int .i64 k) ∧ w'.cell? ⟨w.heap.size + 1, 1, none⟩ = some (.int .i64 l) ∧ w'.cell? ⟨w.heap.size + 1, 2, none⟩ = some (.string s)) (by kernel_rfl) (HC.out _ hcS) (fun hHeld => ?_)
          refine take_on (i := 0) (d := some 85) (v := ?_) rfl (by rfl) (by kernel_rfl) (by kernel_rfl) (by kernel_rfl) (fun _ _ _ h => h) (Or.inl ⟨by kernel_rfl, ?_⟩) (by assumption) ?_
          rotate_left
          focus (intro w hSw; (try dsimp only at hSw); go_simp; (try rw [if_neg (by omega)]); (try with_reducible rfl))
          try simp only [Act.put, List.setIfInBounds_toArray, List.set_cons_zero, List.set_cons_succ]
          refine take_on (i := 2) (d := some 87) (v := ?_) rfl (by rfl) (by kernel_rfl) (by kernel_rfl) (by kernel_rfl) (fun _ _ _ h => h) (Or.inl ⟨by kernel_rfl, ?_⟩) (by assumption) ?_
          rotate_left
          focus (intro w hSw; (try dsimp only at hSw); go_simp; (try rw [if_neg (by omega)]); (try with_reducible rfl))
          try simp only [Act.put, List.setIfInBounds_toArray, List.set_cons_zero, List.set_cons_succ]
          refine wpAnyH_ready (rs := [1, 8]) (by kernel_rfl) (by simp) ?_
          refine AllReadyH.cons rfl (fun K hK => ?_) (AllReadyH.cons rfl (fun K hK => ?_) AllReadyH.nil)
          focus
            go_simp
            refine (toExchange_any O E M _ _ ps cs _ (HR.out.below hdS) HPN.out HCN.out).mono ?_
            rintro e w43 ⟨g43, h43, rfl, o43, hq43⟩
            have hc43 : Below w40.heap.size w40 _ := hcS.trans (Below.mono hq43 hcS.size)
            have hd43 : Below w.heap.size w _ := hdS.trans (Below.mono hq43 hdS.size)
            refine hK.out _ _ (HC.out _ hc43) (fun hHeld2 => ?_)
            clear hHeld hK K
            have hHeld := hHeld2
            clear hHeld2
            try simp only [Act.put, List.setIfInBounds_toArray, List.set_cons_zero, List.set_cons_succ]
            refine wpAnyH_ready (rs := [3, 8]) (by kernel_rfl) (by simp) ?_
            refine AllReadyH.cons rfl (fun K hK => ?_) (AllReadyH.cons rfl (fun K hK => ?_) AllReadyH.nil)
            focus
              go_simp
              refine (toExDeed_any k l s _).mono ?_
              rintro e w44 ⟨rfl, hq44⟩
              have gex44 := o43.below hq44
              have hc44 : Below w40.heap.size w40 _ := hc43.trans (Below.mono hq44 hc43.size)
              have hd44 : Below w.heap.size w _ := hd43.trans (Below.mono hq44 hd43.size)
              refine hK.out _ _ (HC.out _ hc44) (fun hHeld2 => ?_)
              clear hHeld hK K
              have hHeld := hHeld2
              clear hHeld2
              try simp only [Act.put, List.setIfInBounds_toArray, List.set_cons_zero, List.set_cons_succ]
              refine wpAnyH_ready (rs := [4, 8]) (by kernel_rfl) (by simp) ?_
              refine AllReadyH.cons rfl (fun K hK => ?_) (AllReadyH.cons rfl (fun K hK => ?_) AllReadyH.nil)
              focus
                go_simp
                refine (KI.out _ _ _ gex44.rd (own_somev gex44.plan)).mono ?_
                rintro e w45 ⟨vq45, vr45, rfl, o45, hq45⟩
                obtain ⟨aq45, cq45, ar45, cr45, rfl, rfl⟩ := agg_parts o45
                have gex45 := gex44.below hq45
                have hc45 : Below w40.heap.size w40 _ := hc44.trans (Below.mono hq45 hc44.size)
                have hd45 : Below w.heap.size w _ := hd44.trans (Below.mono hq45 hd44.size)
                refine hK.out _ _ (HC.out _ hc45) (fun hHeld2 => ?_)
                clear hHeld hK K
                have hHeld := hHeld2
                clear hHeld2
                try simp only [Act.put, List.setIfInBounds_toArray, List.set_cons_zero, List.set_cons_succ]
                refine take_on (i := 5) (d := some 84) (v := ?_) rfl (by rfl) (by kernel_rfl) (by kernel_rfl) (by kernel_rfl) (fun _ _ _ h => h) (Or.inl ⟨by kernel_rfl, ?_⟩) (by assumption) ?_
                rotate_left
                focus (intro w hSw; (try dsimp only at hSw); go_simp; (try rw [if_neg (by omega)]); (try with_reducible rfl))
                try simp only [Act.put, List.setIfInBounds_toArray, List.set_cons_zero, List.set_cons_succ]
                refine take_on (i := 6) (d := some 90) (v := ?_) rfl (by rfl) (by kernel_rfl) (by kernel_rfl) (by kernel_rfl) (fun _ _ _ h => h) (Or.inl ⟨by kernel_rfl, ?_⟩) (by assumption) ?_
                rotate_left
                focus (intro w hSw; (try dsimp only at hSw); go_simp; (try rw [if_neg (by omega)]); (try with_reducible rfl))
                try simp only [Act.put, List.setIfInBounds_toArray, List.set_cons_zero, List.set_cons_succ]
                refine take_on (i := 7) (d := some 91) (v := ?_) rfl (by rfl) (by kernel_rfl) (by kernel_rfl) (by kernel_rfl) (fun _ _ _ h => h) (Or.inl ⟨by kernel_rfl, ?_⟩) (by assumption) ?_
                rotate_left
                focus (intro w hSw; (try dsimp only at hSw); go_simp; (try rw [if_neg (by omega)]); (try with_reducible rfl))
                try simp only [Act.put, List.setIfInBounds_toArray, List.set_cons_zero, List.set_cons_succ]
                refine wpAnyH_ready (rs := [8]) (by kernel_rfl) (by simp) ?_
                refine AllReadyH.cons rfl (fun K hK => ?_) AllReadyH.nil
                go_simp
                refine hK.out _ _ (HC.out _ (hc45.alloc hc45.size _)) (fun hHeld2 => ?_)
                clear hHeld hK K
                have hHeld := hHeld2
                clear hHeld2
                try simp only [Act.put, List.setIfInBounds_toArray, List.set_cons_zero, List.set_cons_succ]
                refine wpAnyH_ready (rs := [9]) (by kernel_rfl) (by simp) ?_
                refine AllReadyH.cons rfl (fun K hK => ?_) AllReadyH.nil
                go_simp
                refine hK.out _ _ (HC.out _ (hc45.alloc hc45.size _)) (fun hHeld2 => ?_)
                clear hHeld hK K
                have hHeld := hHeld2
                clear hHeld2
                try simp only [Act.put, List.setIfInBounds_toArray, List.set_cons_zero, List.set_cons_succ]
                have hRS := ExRes.mkA (O := O') (E := E') (M := M') hc45 o45 hc44.size
                refine take_on (i := 10) (d := some 15) (v := ?_) rfl (by rfl) (by kernel_rfl) (by kernel_rfl) (by kernel_rfl) (fun _ _ _ h => h) (Or.inl ⟨by kernel_rfl, ?_⟩) (by assumption) ?_
                rotate_left
                focus (intro w hSw; (try dsimp only at hSw); go_simp; (try rw [if_neg (by omega)]); (try with_reducible rfl))
                try simp only [Act.put, List.setIfInBounds_toArray, List.set_cons_zero, List.set_cons_succ]
                refine wpAnyH_done (by kernel_rfl) ?_ _
                clear hHeld
                go_wp2_with fail
                go_meet
                exact ⟨_, _, _, rfl, rfl, hRS⟩
              focus
                go_simp
                have hX46 := Blk.new (w := w44) (cs := #[.int .i64 0, .int .i64 0, .int .i64 0, .slice none 0 0, .slice none 0 0]) (T := 33) (b := w44.heap.size) rfl
                have hal46 : Below w44.heap.size w44 (w44.alloc (.cells #[.int .i64 0, .int .i64 0, .int .i64 0, .slice none 0 0, .slice none 0 0] 33)) := (Below.refl _ _).alloc (Nat.le_refl _) _
                have hbig : w40.heap.size ≤ w44.heap.size := hc44.size
                have gex46 := gex44.below hal46
                have hc46 : Below w40.heap.size w40 _ := hc44.trans (Below.mono hal46 hc44.size)
                have hd46 : Below w.heap.size w _ := hd44.trans (Below.mono hal46 hd44.size)
                refine hK.out _ _ (HC.out _ hc46) (fun hHeld2 => ?_)
                clear hHeld hK K
                have hHeld := hHeld2
                clear hHeld2
                try simp only [Act.put, List.setIfInBounds_toArray, List.set_cons_zero, List.set_cons_succ]
                refine wpAnyH_ready (rs := [4]) (by kernel_rfl) (by simp) ?_
                refine AllReadyH.cons rfl (fun K hK => ?_) AllReadyH.nil
                go_simp
                refine (KI.out _ _ _ gex46.rd (own_somev gex46.plan)).mono ?_
                rintro e w47 ⟨vq47, vr47, rfl, o47, hq47⟩
                obtain ⟨aq47, cq47, ar47, cr47, rfl, rfl⟩ := agg_parts o47
                have hbF := hX46.lt
                have gex47 := gex46.below hq47
                have gX47 := hX46.belowAll hq47
                have hc47 : Below w40.heap.size w40 _ := hc46.trans (Below.mono hq47 hc46.size)
                have hd47 : Below w.heap.size w _ := hd46.trans (Below.mono hq47 hd46.size)
                refine hK.out _ _ (HC.out _ hc47) (fun hHeld2 => ?_)
                clear hHeld hK K
                have hHeld := hHeld2
                clear hHeld2
                try simp only [Act.put, List.setIfInBounds_toArray, List.set_cons_zero, List.set_cons_succ]
                refine take_on (i := 5) (d := some 84) (v := ?_) rfl (by rfl) (by kernel_rfl) (by kernel_rfl) (by kernel_rfl) (fun _ _ _ h => h) (Or.inl ⟨by kernel_rfl, ?_⟩) (by assumption) ?_
                rotate_left
                focus (intro w hSw; (try dsimp only at hSw); go_simp; (try rw [if_neg (by omega)]); (try with_reducible rfl))
                try simp only [Act.put, List.setIfInBounds_toArray, List.set_cons_zero, List.set_cons_succ]
                refine take_on (i := 6) (d := some 90) (v := ?_) rfl (by rfl) (by kernel_rfl) (by kernel_rfl) (by kernel_rfl) (fun _ _ _ h => h) (Or.inl ⟨by kernel_rfl, ?_⟩) (by assumption) ?_
                rotate_left
                focus (intro w hSw; (try dsimp only at hSw); go_simp; (try rw [if_neg (by omega)]); (try with_reducible rfl))
                try simp only [Act.put, List.setIfInBounds_toArray, List.set_cons_zero, List.set_cons_succ]
                refine take_on (i := 7) (d := some 91) (v := ?_) rfl (by rfl) (by kernel_rfl) (by kernel_rfl) (by kernel_rfl) (fun _ _ _ h => h) (Or.inl ⟨by kernel_rfl, ?_⟩) (by assumption) ?_
                rotate_left
                focus (intro w hSw; (try dsimp only at hSw); go_simp; (try rw [if_neg (by omega)]); (try with_reducible rfl))
                try simp only [Act.put, List.setIfInBounds_toArray, List.set_cons_zero, List.set_cons_succ]
                have hRS := ExRes.mkB (O := O') (E := E') (M := M') hc47 gX47 hbig o47 hbF
                obtain ⟨X0, X1, X2, X3, X4, Y0, Y1, Y2, Y3, Y4, Xlt⟩ := gX47.five
                refine wpAnyH_ready (rs := [9]) (by kernel_rfl) (by simp) ?_
                refine AllReadyH.cons rfl (fun K hK => ?_) AllReadyH.nil
                go_simp
                refine hK.out _ _ (HC.out _ (by exact hRS.bel)) (fun hHeld2 => ?_)
                clear hHeld hK K
                have hHeld := hHeld2
                clear hHeld2
                try simp only [Act.put, List.setIfInBounds_toArray, List.set_cons_zero, List.set_cons_succ]
                refine take_on (i := 10) (d := some 15) (v := ?_) rfl (by rfl) (by kernel_rfl) (by kernel_rfl) (by kernel_rfl) (fun _ _ _ h => h) (Or.inl ⟨by kernel_rfl, ?_⟩) (by assumption) ?_
                rotate_left
                focus (intro w hSw; (try dsimp only at hSw); go_simp; (try rw [if_neg (by omega)]); (try with_reducible rfl))
                try simp only [Act.put, List.setIfInBounds_toArray, List.set_cons_zero, List.set_cons_succ]
                refine wpAnyH_done (by kernel_rfl) ?_ _
                clear hHeld
                go_wp2_with fail
                go_meet
                exact ⟨_, _, _, rfl, rfl, hRS⟩
            focus
              go_simp
              have hX48 := Blk.new (w := w43) (cs := #[.int .i64 0, .int .i64 0, .int .i64 0, .slice none 0 0, .slice none 0 0]) (T := 33) (b := w43.heap.size) rfl
              have hal48 : Below w43.heap.size w43 (w43.alloc (.cells #[.int .i64 0, .int .i64 0, .int .i64 0, .slice none 0 0, .slice none 0 0] 33)) := (Below.refl _ _).alloc (Nat.le_refl _) _
              have hbig : w40.heap.size ≤ w43.heap.size := hc43.size
              have gex48 := o43.below hal48
              have hc48 : Below w40.heap.size w40 _ := hc43.trans (Below.mono hal48 hc43.size)
              have hd48 : Below w.heap.size w _ := hd43.trans (Below.mono hal48 hd43.size)
              refine hK.out _ _ (HC.out _ hc48) (fun hHeld2 => ?_)
              clear hHeld hK K
              have hHeld := hHeld2
              clear hHeld2
              try simp only [Act.put, List.setIfInBounds_toArray, List.set_cons_zero, List.set_cons_succ]
              refine wpAnyH_ready (rs := [3]) (by kernel_rfl) (by simp) ?_
              refine AllReadyH.cons rfl (fun K hK => ?_) AllReadyH.nil
              go_simp
              refine (toExDeed_any k l s _).mono ?_
              rintro e w49 ⟨rfl, hq49⟩
              have gex49 := gex48.below hq49
              have gX49 := hX48.belowAll hq49
              have hc49 : Below w40.heap.size w40 _ := hc48.trans (Below.mono hq49 hc48.size)
              have hd49 : Below w.heap.size w _ := hd48.trans (Below.mono hq49 hd48.size)
              refine hK.out _ _ (HC.out _ hc49) (fun hHeld2 => ?_)
              clear hHeld hK K
              have hHeld := hHeld2
              clear hHeld2
              try simp only [Act.put, List.setIfInBounds_toArray, List.set_cons_zero, List.set_cons_succ]
              refine wpAnyH_ready (rs := [4]) (by kernel_rfl) (by simp) ?_
              refine AllReadyH.cons rfl (fun K hK => ?_) AllReadyH.nil
              go_simp
              refine (KI.out _ _ _ gex49.rd (own_somev gex49.plan)).mono ?_
              rintro e w50 ⟨vq50, vr50, rfl, o50, hq50⟩
              obtain ⟨aq50, cq50, ar50, cr50, rfl, rfl⟩ := agg_parts o50
              have hbF := gX49.lt
              have gex50 := gex49.below hq50
              have gX50 := gX49.belowAll hq50
              have hc50 : Below w40.heap.size w40 _ := hc49.trans (Below.mono hq50 hc49.size)
              have hd50 : Below w.heap.size w _ := hd49.trans (Below.mono hq50 hd49.size)
              refine hK.out _ _ (HC.out _ hc50) (fun hHeld2 => ?_)
              clear hHeld hK K
              have hHeld := hHeld2
              clear hHeld2
              try simp only [Act.put, List.setIfInBounds_toArray, List.set_cons_zero, List.set_cons_succ]
              refine take_on (i := 5) (d := some 84) (v := ?_) rfl (by rfl) (by kernel_rfl) (by kernel_rfl) (by kernel_rfl) (fun _ _ _ h => h) (Or.inl ⟨by kernel_rfl, ?_⟩) (by assumption) ?_
              rotate_left
              focus (intro w hSw; (try dsimp only at hSw); go_simp; (try rw [if_neg (by omega)]); (try with_reducible rfl))
              try simp only [Act.put, List.setIfInBounds_toArray, List.set_cons_zero, List.set_cons_succ]
              refine take_on (i := 6) (d := some 90) (v := ?_) rfl (by rfl) (by kernel_rfl) (by kernel_rfl) (by kernel_rfl) (fun _ _ _ h => h) (Or.inl ⟨by kernel_rfl, ?_⟩) (by assumption) ?_
              rotate_left
              focus (intro w hSw; (try dsimp only at hSw); go_simp; (try rw [if_neg (by omega)]); (try with_reducible rfl))
              try simp only [Act.put, List.setIfInBounds_toArray, List.set_cons_zero, List.set_cons_succ]
              refine take_on (i := 7) (d := some 91) (v := ?_) rfl (by rfl) (by kernel_rfl) (by kernel_rfl) (by kernel_rfl) (fun _ _ _ h => h) (Or.inl ⟨by kernel_rfl, ?_⟩) (by assumption) ?_
              rotate_left
              focus (intro w hSw; (try dsimp only at hSw); go_simp; (try rw [if_neg (by omega)]); (try with_reducible rfl))
              try simp only [Act.put, List.setIfInBounds_toArray, List.set_cons_zero, List.set_cons_succ]
              have hRS := ExRes.mkB (O := O') (E := E') (M := M') hc50 gX50 hbig o50 hbF
              obtain ⟨X0, X1, X2, X3, X4, Y0, Y1, Y2, Y3, Y4, Xlt⟩ := gX50.five
              refine wpAnyH_ready (rs := [9]) (by kernel_rfl) (by simp) ?_
              refine AllReadyH.cons rfl (fun K hK => ?_) AllReadyH.nil
              go_simp
              refine hK.out _ _ (HC.out _ (by exact hRS.bel)) (fun hHeld2 => ?_)
              clear hHeld hK K
              have hHeld := hHeld2
              clear hHeld2
              try simp only [Act.put, List.setIfInBounds_toArray, List.set_cons_zero, List.set_cons_succ]
              refine take_on (i := 10) (d := some 15) (v := ?_) rfl (by rfl) (by kernel_rfl) (by kernel_rfl) (by kernel_rfl) (fun _ _ _ h => h) (Or.inl ⟨by kernel_rfl, ?_⟩) (by assumption) ?_
              rotate_left
              focus (intro w hSw; (try dsimp only at hSw); go_simp; (try rw [if_neg (by omega)]); (try with_reducible rfl))
              try simp only [Act.put, List.setIfInBounds_toArray, List.set_cons_zero, List.set_cons_succ]
              refine wpAnyH_done (by kernel_rfl) ?_ _
              clear hHeld
              go_wp2_with fail
              go_meet
              exact ⟨_, _, _, rfl, rfl, hRS⟩
          focus
            go_simp
            have hX51 := Blk.new (w := w40.drew) (cs := #[.int .i64 0, .int .i64 0, .int .i64 0, .slice none 0 0, .slice none 0 0]) (T := 33) (b := w40.heap.size) rfl
            have hal51 : Below w40.drew.heap.size w40.drew (w40.drew.alloc (.cells #[.int .i64 0, .int .i64 0, .int .i64 0, .slice none 0 0, .slice none 0 0] 33)) := (Below.refl _ _).alloc (Nat.le_refl _) _
            have hbig : w40.heap.size ≤ w40.heap.size := hcS.size
            have hc51 : Below w40.heap.size w40 _ := hcS.trans (Below.mono hal51 hcS.size)
            have hd51 : Below w.heap.size w _ := hdS.trans (Below.mono hal51 hdS.size)
            refine hK.out _ _ (HC.out _ hc51) (fun hHeld2 => ?_)
            clear hHeld hK K
            have hHeld := hHeld2
            clear hHeld2
            try simp only [Act.put, List.setIfInBounds_toArray, List.set_cons_zero, List.set_cons_succ]
            refine wpAnyH_ready (rs := [1]) (by kernel_rfl) (by simp) ?_
            refine AllReadyH.cons rfl (fun K hK => ?_) AllReadyH.nil
            go_simp
            refine (toExchange_any O E M _ _ ps cs _ (HR.out.below hd51) HPN.out HCN.out).mono ?_
            rintro e w52 ⟨g52, h52, rfl, o52, hq52⟩
            have gX52 := hX51.belowAll hq52
            have hc52 : Below w40.heap.size w40 _ := hc51.trans (Below.mono hq52 hc51.size)
            have hd52 : Below w.heap.size w _ := hd51.trans (Below.mono hq52 hd51.size)
            refine hK.out _ _ (HC.out _ hc52) (fun hHeld2 => ?_)
            clear hHeld hK K
            have hHeld := hHeld2
            clear hHeld2
            try simp only [Act.put, List.setIfInBounds_toArray, List.set_cons_zero, List.set_cons_succ]
            refine wpAnyH_ready (rs := [3]) (by kernel_rfl) (by simp) ?_
            refine AllReadyH.cons rfl (fun K hK => ?_) AllReadyH.nil
            go_simp
            refine (toExDeed_any k l s _).mono ?_
            rintro e w53 ⟨rfl, hq53⟩
            have gX53 := gX52.belowAll hq53
            have gex53 := o52.below hq53
            have hc53 : Below w40.heap.size w40 _ := hc52.trans (Below.mono hq53 hc52.size)
            have hd53 : Below w.heap.size w _ := hd52.trans (Below.mono hq53 hd52.size)
            refine hK.out _ _ (HC.out _ hc53) (fun hHeld2 => ?_)
            clear hHeld hK K
            have hHeld := hHeld2
            clear hHeld2
            try simp only [Act.put, List.setIfInBounds_toArray, List.set_cons_zero, List.set_cons_succ]
            refine wpAnyH_ready (rs := [4]) (by kernel_rfl) (by simp) ?_
            refine AllReadyH.cons rfl (fun K hK => ?_) AllReadyH.nil
            go_simp
            refine (KI.out _ _ _ gex53.rd (own_somev gex53.plan)).mono ?_
            rintro e w54 ⟨vq54, vr54, rfl, o54, hq54⟩
            obtain ⟨aq54, cq54, ar54, cr54, rfl, rfl⟩ := agg_parts o54
            have hbF := gX53.lt
            have gX54 := gX53.belowAll hq54
            have gex54 := gex53.below hq54
            have hc54 : Below w40.heap.size w40 _ := hc53.trans (Below.mono hq54 hc53.size)
            have hd54 : Below w.heap.size w _ := hd53.trans (Below.mono hq54 hd53.size)
            refine hK.out _ _ (HC.out _ hc54) (fun hHeld2 => ?_)
            clear hHeld hK K
            have hHeld := hHeld2
            clear hHeld2
            try simp only [Act.put, List.setIfInBounds_toArray, List.set_cons_zero, List.set_cons_succ]
            refine take_on (i := 5) (d := some 84) (v := ?_) rfl (by rfl) (by kernel_rfl) (by kernel_rfl) (by kernel_rfl) (fun _ _ _ h => h) (Or.inl ⟨by kernel_rfl, ?_⟩) (by assumption) ?_
            rotate_left
            focus (intro w hSw; (try dsimp only at hSw); go_simp; (try rw [if_neg (by omega)]); (try with_reducible rfl))
            try simp only [Act.put, List.setIfInBounds_toArray, List.set_cons_zero, List.set_cons_succ]
            refine take_on (i := 6) (d := some 90) (v := ?_) rfl (by rfl) (by kernel_rfl) (by kernel_rfl) (by kernel_rfl) (fun _ _ _ h => h) (Or.inl ⟨by kernel_rfl, ?_⟩) (by assumption) ?_
            rotate_left
            focus (intro w hSw; (try dsimp only at hSw); go_simp; (try rw [if_neg (by omega)]); (try with_reducible rfl))
            try simp only [Act.put, List.setIfInBounds_toArray, List.set_cons_zero, List.set_cons_succ]
            refine take_on (i := 7) (d := some 91) (v := ?_) rfl (by rfl) (by kernel_rfl) (by kernel_rfl) (by kernel_rfl) (fun _ _ _ h => h) (Or.inl ⟨by kernel_rfl, ?_⟩) (by assumption) ?_
            rotate_left
            focus (intro w hSw; (try dsimp only at hSw); go_simp; (try rw [if_neg (by omega)]); (try with_reducible rfl))
            try simp only [Act.put, List.setIfInBounds_toArray, List.set_cons_zero, List.set_cons_succ]
            have hRS := ExRes.mkB (O := O') (E := E') (M := M') hc54 gX54 hbig o54 hbF
            obtain ⟨X0, X1, X2, X3, X4, Y0, Y1, Y2, Y3, Y4, Xlt⟩ := gX54.five
            refine wpAnyH_ready (rs := [9]) (by kernel_rfl) (by simp) ?_
            refine AllReadyH.cons rfl (fun K hK => ?_) AllReadyH.nil
            go_simp
            refine hK.out _ _ (HC.out _ (by exact hRS.bel)) (fun hHeld2 => ?_)
            clear hHeld hK K
            have hHeld := hHeld2
            clear hHeld2
            try simp only [Act.put, List.setIfInBounds_toArray, List.set_cons_zero, List.set_cons_succ]
            refine take_on (i := 10) (d := some 15) (v := ?_) rfl (by rfl) (by kernel_rfl) (by kernel_rfl) (by kernel_rfl) (fun _ _ _ h => h) (Or.inl ⟨by kernel_rfl, ?_⟩) (by assumption) ?_
            rotate_left
            focus (intro w hSw; (try dsimp only at hSw); go_simp; (try rw [if_neg (by omega)]); (try with_reducible rfl))
            try simp only [Act.put, List.setIfInBounds_toArray, List.set_cons_zero, List.set_cons_succ]
            refine wpAnyH_done (by kernel_rfl) ?_ _
            clear hHeld
            go_wp2_with fail
            go_meet
            exact ⟨_, _, _, rfl, rfl, hRS⟩
        case rest =>
          obtain ⟨wc42, rfl⟩ : ∃ wo : World, wo = wc := ⟨_, rfl⟩
          obtain ⟨bH, vHp, vHc, rfl, rfl, hRS⟩ := hcut
          obtain ⟨aHp, cHp, aHc, cHc, rfl, rfl⟩ := agg_parts hRS.own
          have hb55 : Below w.heap.size w _ := hb41.trans (Below.mono hRS.bel hb41.size)
          have fB55 := fB41.belowAll hRS.bel
          have fD55 := fD41.belowAll hRS.bel
          have fW55 := fW41.belowAll hRS.bel
          have fWO55 := fWO41.below hRS.bel
          have fG55 := fG41.belowAll hRS.bel
          have fGO55 := fGO41.below hRS.bel
          clear hb41 fB41 fD41 fW41 fWO41 fG41 fGO41 
          have hH := hRS.box
          have oH := hRS.own
          have APH1 := Lib.hid hRS.ap1
          have APH2 := Lib.hid hRS.ap2
          have BGH := Lib.hid hRS.big
          have LTH := Lib.hid hH.lt
          have HIH1 := Lib.hid (Hi.of oH.plan)
          have HIH2 := Lib.hid (Hi.of oH.calls)
          have LOH1 := Lib.hid (Lo.of oH.plan)
          have LOH2 := Lib.hid (Lo.of oH.calls)
          have SZH := Lib.hid (show w40.heap.size ≤ wc42.heap.size from hRS.bel.size)
          clear hRS
          obtain ⟨hq0, hq1, hq2, hq3, hq4, -, -, -, -, -, hqlt⟩ := hH.five
          obtain ⟨wq0, wq1, wq2, wq3, wq4, -, -, -, -, -, wqlt⟩ := fW55.five
          go_wp2_with fail
          refine (eqExchange_any O' E' M' O' E' M' _ _ _ _ ps' ps' cs' cs' _ oH.rd fWO55.rd).mono ?_
          rintro e w56 ⟨rfl, hq⟩
          rw [decide_eq_true rfl, decide_eq_true rfl, decide_eq_true rfl]
          clear hq0 hq1 hq2 hq3 hq4 hqlt wq0 wq1 wq2 wq3 wq4 wqlt
          have hb57 : Below w.heap.size w _ := hb55.trans (Below.mono hq hb55.size)
          have fB57 := fB55.belowAll hq
          have fD57 := fD55.belowAll hq
          have fW57 := fW55.belowAll hq
          have fWO57 := fWO55.below hq
          have fG57 := fG55.belowAll hq
          have fGO57 := fGO55.below hq
          have fH57 := hH.belowAll hq
          have fHO57 := oH.below hq
          clear hb55 fB55 fD55 fW55 fWO55 fG55 fGO55 hH oH hq
          obtain ⟨gq0, gq1, gq2, gq3, gq4, -, -, -, -, -, gqlt⟩ := fG57.five
          go_wp2_with fail
          refine (heldExchange_any O' E' M' _ _ ps'.length cs'.length 1 _ fGO57.rd (by omega) (by omega) (by omega) (by omega)).mono ?_
          rintro e w58 ⟨rfl, hq⟩
          clear gq0 gq1 gq2 gq3 gq4 gqlt
          have hb59 : Below w.heap.size w _ := hb57.trans (Below.mono hq hb57.size)
          have fB59 := fB57.belowAll hq
          have fD59 := fD57.belowAll hq
          have fW59 := fW57.belowAll hq
          have fWO59 := fWO57.below hq
          have fG59 := fG57.belowAll hq
          have fGO59 := fGO57.below hq
          have fH59 := fH57.belowAll hq
          have fHO59 := fHO57.below hq
          clear hb57 fB57 fD57 fW57 fWO57 fG57 fGO57 fH57 fHO57 hq
          go_wp2
          go_returns
          exact ⟨rfl, hb59⟩

end Go.Proofs.Ytedadhoneebfnaa
