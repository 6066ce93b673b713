/- The walk of the law of ShareSum. -/
import Derived.Test.YtcacedcbboidoaaDrLen
import Derived.Test.YtcacedcbboidoaaAlive
set_option linter.unusedSimpArgs false
set_option linter.unusedVariables false
namespace Go.Proofs.Ytcacedcbboidoaa
open Go.RowKit

/-- An owned row of at least one element begins at a block's head. -/
theorem own_some {w : World} {base n : Nat} {E : TypeId} {size : Nat} {v : Value} {xs : List Value} (h : w.ownsRow base E size v n xs) (hn : 0 < n) : ∃ g cap, v = .slice (some ⟨g, 0, none⟩) n cap ∧ base ≤ g ∧ Own w g n cap E size xs := by
  rcases h.2 with ⟨_, h2⟩ | ⟨g, cap, cur, rfl, hb, r⟩
  · omega
  · exact ⟨g, cap, rfl, hb, (Own.of h).1⟩

set_option maxRecDepth 100000 in
set_option maxHeartbeats 2000000 in
theorem wShareSum (a : Option Addr) (len cap : Nat) (cs : List Int) (w : World) (h0 : IsRow .u8 w a len cap cs) :
    Calls Try.prog 3 #[.slice a len cap] w fun e w' => e = .returned (.bool true) ∧ Below w.heap.size w w' := by
  have h := h0.code
  have hm := h.bd
  obtain ⟨i0, hi, hz0, hz1, hz2⟩ := info_parts infoI
  by_cases hbig : len > 1048576
  · go_enter Try.func3, Try.ntmps3
    go_wp2
    go_returns
    exact ⟨rfl, Below.refl _ _⟩
  · go_enter Try.func3, Try.ntmps3
    go_wp2_with fail
    refine (DrawShareSum_any _ _ _ _ _ h).mono ?_
    rintro e w1 ⟨v, zs, rfl, ho, hl, -, hb1⟩
    have hr1 := Rds.ofOwns ho
    clear ho
    go_wp2_with fail
    refine (iShareSum_any _ zs _ hr1).mono ?_
    rintro e w2 ⟨rfl, rfl⟩
    go_wp2_with fail
    refine (sShareSum_any _ zs _ hr1).mono ?_
    rintro e w2 ⟨rfl, rfl⟩
    obtain ⟨x, hx⟩ : ∃ x, shareR zs = x := ⟨_, rfl⟩
    have hbd := shareR_bd zs
    rw [hx] at hbd
    obtain ⟨hbd1, hbd2⟩ := hbd
    have HX := Lib.hid hx
    rw [hx]
    clear hx
    obtain ⟨o, ho⟩ : ∃ o, lensB zs = o := ⟨_, rfl⟩
    have HO := Lib.hid ho
    clear ho
    cases o
    · have hx1 := shareR_no HO.out
      rw [HX.out] at hx1
      subst hx1
      clear hr1
      go_wp2_with fail
      refine (alive_any _).mono ?_
      rintro e w2 ⟨rfl, hb2⟩
      go_wp2
      go_returns
      exact ⟨rfl, by (repeat' (first | (with_reducible exact Below.refl _ _) | (with_reducible assumption) | (with_reducible refine Below.drew ?_) | (with_reducible refine below_drewN ?_ _) | (with_reducible refine Below.alloc ?_ ?_ _) | (with_reducible refine Below.setCell ?_ ?_ _) | (refine Below.trans ?_ (Below.mono (by assumption) (by first | omega | (with_reducible exact Below.size (by assumption)) | (simp; done) | (simp; omega)))) | (with_reducible exact Nat.le_refl _) | omega | (with_reducible exact Below.size (by assumption)) | (simp only [World.size_alloc, World.size_setCell, World.size_drew]; omega) | (simp; done) | (simp; omega)))⟩
    · have hx0 := shareR_yes HO.out
      rw [HX.out] at hx0
      obtain ⟨va, vc, rfl, hvl, hvm, hvc, hcell⟩ := hr1.open1
      obtain ⟨n, hn⟩ : ∃ n, zs.length = n := ⟨_, rfl⟩
      have HN := Lib.hid hn
      rw [hn] at hr1 hl hvm hvc hcell ⊢
      have HR := Lib.hid hr1
      clear hn hvl hr1
      unfold maxLen at hvm
      have hnn : (0 : Int) ≤ (n : Int) / 2 := by omega
      go_wp2_with fail
      go_loopw [5] (fun i wr => ∃ k : Nat, k ≤ n ∧ i = .int .i64 k ∧ Below w1.heap.size w1 wr) (fun i _ => n - (intOf i).toNat)
      case atStart => exact ⟨0, by omega, rfl, Below.refl _ _⟩
      case round =>
        obtain ⟨k, hk, rfl, hbel⟩ := hrel
        have hbz := hbel.size
        by_cases hkn : k < n
        · rcases hcell with hcell | ⟨b, off, rfl, hbl, hcell⟩
          · omega
          obtain ⟨z, hz⟩ : ∃ z, zs[k]? = some z := ⟨_, List.getElem?_eq_getElem (by rw [HN.out]; omega)⟩
          obtain ⟨z1, z2⟩ := lensB_at HO.out k z hz
          have HZ := Lib.hid hz
          have HC := Lib.hid hcell
          clear hz hcell
          by_cases hz2' : 2 ≤ z
          · have hlt := share_less zs k z HZ.out HO.out hz2'
            rw [HX.out] at hlt
            have hlb := shareR_bd (zs.set k (z - 1))
            obtain ⟨y, hy⟩ : ∃ y, shareR (zs.set k (z - 1)) = y := ⟨_, rfl⟩
            rw [hy] at hlt hlb
            obtain ⟨hlb1, hlb2⟩ := hlb
            have HY := Lib.hid hy
            clear hy
            go_wp2_with (at_builtin; refine wpList_append_own _ rfl _ _ 23 rfl w1.heap.size 3 i0 (.int .i64 0) 1 8 Try.underlying23 hi hz0 hz1 hz2 rfl (by decide) _ 0 [] rfl (World.ownsRow_lit _ #[] 0 hbz (by unfold maxLen; omega) rfl) ⟨b, off, none⟩ n _ (ints zs) rfl (by rw [ints_len, HN.out, Nat.mul_one]) (by intro j u hu; rw [Addr.add_spot]; have hj : j < n := (by have := (List.getElem?_eq_some_iff.1 hu).1; rw [ints_len, HN.out] at this; exact this); rw [World.cell?_alloc_lt _ _ _ (by simp; omega), hbel.cell (p := ⟨b, off + j, none⟩) hbl, HC.out j hj]; exact hu) (by intro u hu; obtain ⟨q, _, rfl⟩ := List.mem_map.1 hu; rfl) (by unfold maxLen; omega) (by omega) (by simp; omega) ?_; intro v' w3 hown' hgrow _; simp only [Nat.zero_add, List.nil_append] at hown'; obtain ⟨g, gc, rfl, hg, hO⟩ := own_some hown' (by omega); have hc3 := hO.cell k (by omega); rw [ints_at _ _ _ HZ.out] at hc3; have hf3 := hO.free k; have hl3 := hO.lt; have hgc := hO.caps; have hbel3 : Below w1.heap.size w1 w3 := (hbel.alloc hbz _).grown hgrow (by simp; omega) (by intro q hq; have e : wr.heap.size = q := Option.some.inj hq; omega))
            have hr3 : Rds (w3.setCell ⟨g, k, none⟩ (.int .i64 (z - 1))) (.slice (some ⟨g, 0, none⟩) n gc) (zs.set k (z - 1)).length 1 (ints (zs.set k (z - 1))) := by
              have := Rds.ofOwn (Own.set (ints_set zs k (z - 1)) hO)
              rw [List.length_set, HN.out]; exact this
            refine (iShareSum_any _ _ _ hr3).mono ?_
            rintro e w4 ⟨rfl, rfl⟩
            rw [HY.out]
            have hbel4 : Below w1.heap.size w1 (w3.setCell ⟨g, k, none⟩ (.int .i64 (z - 1))) := hbel3.setCell (by simp; omega) _
            go_wp2_with fail
            go_roundw
            case rel => exact ⟨k + 1, by omega, by go_num, hbel4⟩
            case measure => simp [intOf]; omega
          · have z1' : z = 1 := by omega
            subst z1'
            go_wp2_with (at_builtin; refine wpList_append_own _ rfl _ _ 23 rfl w1.heap.size 3 i0 (.int .i64 0) 1 8 Try.underlying23 hi hz0 hz1 hz2 rfl (by decide) _ 0 [] rfl (World.ownsRow_lit _ #[] 0 hbz (by unfold maxLen; omega) rfl) ⟨b, off, none⟩ n _ (ints zs) rfl (by rw [ints_len, HN.out, Nat.mul_one]) (by intro j u hu; rw [Addr.add_spot]; have hj : j < n := (by have := (List.getElem?_eq_some_iff.1 hu).1; rw [ints_len, HN.out] at this; exact this); rw [World.cell?_alloc_lt _ _ _ (by simp; omega), hbel.cell (p := ⟨b, off + j, none⟩) hbl, HC.out j hj]; exact hu) (by intro u hu; obtain ⟨q, _, rfl⟩ := List.mem_map.1 hu; rfl) (by unfold maxLen; omega) (by omega) (by simp; omega) ?_; intro v' w3 hown' hgrow _; simp only [Nat.zero_add, List.nil_append] at hown'; obtain ⟨g, gc, rfl, hg, hO⟩ := own_some hown' (by omega); have hc3 := hO.cell k (by omega); rw [ints_at _ _ _ HZ.out] at hc3; have hf3 := hO.free k; have hl3 := hO.lt; have hgc := hO.caps; have hbel3 : Below w1.heap.size w1 w3 := (hbel.alloc hbz _).grown hgrow (by simp; omega) (by intro q hq; have e : wr.heap.size = q := Option.some.inj hq; omega))
            go_roundw
            case rel => exact ⟨k + 1, by omega, by go_num, hbel3.setCell (by simp; omega) _⟩
            case measure => simp [intOf]; omega
        · obtain rfl : k = n := by omega
          have hrw := HR.out.below hbel
          have hsp := share_split zs (k / 2) HO.out
          rw [HX.out] at hsp
          have hta := shareR_bd (zs.take (k / 2))
          have htb := shareR_bd (zs.drop (k / 2))
          obtain ⟨p, hp⟩ : ∃ p, shareR (zs.take (k / 2)) = p := ⟨_, rfl⟩
          obtain ⟨q, hq⟩ : ∃ q, shareR (zs.drop (k / 2)) = q := ⟨_, rfl⟩
          rw [hp] at hsp hta
          rw [hq] at hsp htb
          obtain ⟨hta1, hta2⟩ := hta
          obtain ⟨htb1, htb2⟩ := htb
          have HP := Lib.hid hp
          have HQ := Lib.hid hq
          clear hp hq
          have hE : (p + q == x) = true := by simp [hsp]
          have HRW := Lib.hid hrw
          clear hsp hrw
          by_cases hk0 : 0 < k
          · rcases hcell with hcell | ⟨b, off, rfl, hbl, hcell⟩
            · omega
            have hlo : (k : Int) / 2 < vc := by omega
            have hk2 : k / 2 < k := by omega
            clear hcell
            go_wp2_with fail
            have hRA : ∀ m, Rds (wr.drewN m) (.slice (some ⟨b, off, none⟩) (k / 2) vc) (zs.take (k / 2)).length 1 (ints (zs.take (k / 2))) := fun m => by
              have := (HRW.out.take (m := k / 2) (by omega)).drewN m
              rw [List.length_take, HN.out, Nat.min_eq_left (by omega)]
              simpa [ints, List.map_take] using this
            have hRB : ∀ m, Rds (wr.drewN m) (.slice (some ⟨b, off + k / 2, none⟩) (k - k / 2) (vc - k / 2)) (zs.drop (k / 2)).length 1 (ints (zs.drop (k / 2))) := fun m => by
              have := (HRW.out.drop (m := k / 2) (cap' := vc - k / 2) (a' := some ⟨b, off + k / 2, none⟩) (by omega) (by omega) (by intro _; rw [Nat.mul_one])).drewN m
              rw [List.length_drop, HN.out]
              simpa [ints, List.map_drop] using this
            have HRA := Lib.hid hRA
            have HRB := Lib.hid hRB
            clear hRA hRB
            go_quiet ((go_at_call 21; (first | (with_reducible exact Calls.quiet_of_same ((iShareSum_any _ _ _ (HRA.out _)).mono (fun e w' h => ⟨by rw [h.1, HP.out], h.2.symm⟩))) | (with_reducible exact Calls.quiet_of_same ((iShareSum_any _ _ _ (HRB.out _)).mono (fun e w' h => ⟨by rw [h.1, HQ.out], h.2.symm⟩))))))
            go_wp2
            go_returns
            exact ⟨rfl, by (repeat' (first | (with_reducible exact Below.refl _ _) | (with_reducible assumption) | (with_reducible refine Below.drew ?_) | (with_reducible refine below_drewN ?_ _) | (with_reducible refine Below.alloc ?_ ?_ _) | (with_reducible refine Below.setCell ?_ ?_ _) | (refine Below.trans ?_ (Below.mono (by assumption) (by first | omega | (with_reducible exact Below.size (by assumption)) | (simp; done) | (simp; omega)))) | (with_reducible exact Nat.le_refl _) | omega | (with_reducible exact Below.size (by assumption)) | (simp only [World.size_alloc, World.size_setCell, World.size_drew]; omega) | (simp; done) | (simp; omega)))⟩
          · obtain rfl : k = 0 := by omega
            have hzs : zs = [] := List.length_eq_zero_iff.1 HN.out
            subst hzs
            have hRA : ∀ m c, Rds (wr.drewN m) (.slice va 0 c) ([] : List Int).length 1 (ints []) := fun m c => ⟨rfl, by simp, va, c, rfl, by simp, .inl rfl⟩
            have HRA := Lib.hid hRA
            have p0 : p = 0 := HP.out.symm
            have q0 : q = 0 := HQ.out.symm
            have hx00 : x = 0 := HX.out.symm
            have S0 : Hid (shareR [] = 0) := rfl
            subst p0 q0 hx00
            clear hRA hcell hE
            go_wp2_with fail
            go_quiet ((go_at_call 21; (with_reducible exact Calls.quiet_of_same ((iShareSum_any _ [] _ (HRA.out _ _)).mono (fun e w' h => ⟨by rw [h.1, S0.out], h.2.symm⟩)))))
            go_wp2
            go_returns
            exact ⟨rfl, by (repeat' (first | (with_reducible exact Below.refl _ _) | (with_reducible assumption) | (with_reducible refine Below.drew ?_) | (with_reducible refine below_drewN ?_ _) | (with_reducible refine Below.alloc ?_ ?_ _) | (with_reducible refine Below.setCell ?_ ?_ _) | (refine Below.trans ?_ (Below.mono (by assumption) (by first | omega | (with_reducible exact Below.size (by assumption)) | (simp; done) | (simp; omega)))) | (with_reducible exact Nat.le_refl _) | omega | (with_reducible exact Below.size (by assumption)) | (simp only [World.size_alloc, World.size_setCell, World.size_drew]; omega) | (simp; done) | (simp; omega)))⟩

end Go.Proofs.Ytcacedcbboidoaa
