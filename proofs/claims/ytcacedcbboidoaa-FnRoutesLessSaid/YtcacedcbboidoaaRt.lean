/- Contract of the reference's RoutesLess. -/
import Derived.Test.YtcacedcbboidoaaRs
set_option linter.unusedSimpArgs false
set_option linter.unusedVariables false
namespace Go.Proofs.Ytcacedcbboidoaa
open Go.RowKit

set_option maxRecDepth 100000 in
set_option maxHeartbeats 2000000 in
theorem sRoutesLess_any (b0 off0 c0 : Nat) (rs : List Rt) (w : World) (hv : Rds w (.slice (some ⟨b0, off0, none⟩) rs.length c0) rs.length 2 (rcells rs)) (hL : RtLen rs) :
    Calls Try.prog 61 #[.slice (some ⟨b0, off0, none⟩) rs.length c0] w (RtOut (lessR rs) w) := by
  obtain ⟨i0, hi, hz0, hz1, hz2⟩ := info_parts infoR
  have HV := Lib.hid hv
  have HL := Lib.hid hL
  have hb0 : Below w.heap.size w (w.alloc (.cells #[] 32)) := by (repeat' (first | (with_reducible exact Below.refl _ _) | (with_reducible assumption) | (with_reducible refine Below.drew ?_) | (with_reducible refine below_drewN ?_ _) | (with_reducible refine Below.alloc ?_ ?_ _) | (with_reducible refine Below.setCell ?_ ?_ _) | (refine Below.trans ?_ (Below.mono (by assumption) (by first | omega | (with_reducible exact Below.size (by assumption)) | (simp; done) | (simp; omega)))) | (with_reducible exact Nat.le_refl _) | omega | (with_reducible exact Below.size (by assumption)) | (simp only [World.size_alloc, World.size_setCell, World.size_drew]; omega) | (simp; done) | (simp; omega)))
  have hout : Own (w.alloc (.cells #[] 32)) w.heap.size 0 0 32 2 (rcells []) := (Own.of (World.ownsRow_lit (base := w.heap.size) (e := 32) (size := 2) w #[] 0 (Nat.le_refl _) (by unfold maxLen; omega) rfl)).1
  clear hv hL
  go_enter Try.func61, Try.ntmps61
  go_wp2_with fail
  refine (sRoutesValid_any _ rs _ (HV.out.below hb0) HL.out).mono ?_
  rintro e w1 ⟨rfl, q, rfl⟩
  have hbel1 : Below w.heap.size w ((w.alloc (.cells #[] 32)).drewN q) := below_drewN hb0 q
  have hout1 : Own ((w.alloc (.cells #[] 32)).drewN q) w.heap.size 0 0 32 2 (rcells []) := hout
  have HV1 := Lib.hid (HV.out.below hbel1)
  clear hout hb0
  generalize (w.alloc (.cells #[] 32)).drewN q = w1 at *
  obtain ⟨d, hd⟩ : ∃ d, routesB rs = d := ⟨_, rfl⟩
  have HD := Lib.hid hd
  rw [hd]
  clear hd
  cases d
  · have HR : Hid (lessR rs = []) := by simp [Hid, lessR, HD.out]
    go_wp2
    go_returns
    exact ⟨_, rfl, by rw [HR.out]; exact hout1.back (Nat.le_refl _), hbel1⟩
  · have HOK := Lib.hid ((routesB_iff rs).1 HD.out)
    have h8 := HOK.out.1
    have HR : Hid (lessR rs = lessFrom 4 rs) := by simp [Hid, lessR, HD.out]
    have hz1 := hbel1.size
    have holt := hout1.lt
    obtain ⟨n0, hn0⟩ : ∃ n0, rs.length = n0 := ⟨_, rfl⟩
    have HN0 := Lib.hid hn0
    have hcells : ∀ j u, (rcells rs)[j]? = some u → w1.cell? ⟨b0, off0 + j, none⟩ = some u := by
      intro j u hu
      obtain ⟨hl1, _, a, cap, hvv, _, hc1⟩ := HV1.out
      cases hvv
      have hj : j < rs.length * 2 := by have := (List.getElem?_eq_some_iff.1 hu).1; omega
      rcases hc1 with h | ⟨b', off', hb, hlt, h⟩
      · omega
      · cases hb; exact (h j hj).trans hu
    have HC := Lib.hid hcells
    rw [hn0] at h8 ⊢
    clear hcells hn0
    go_wp2_with (at_builtin; refine wpList_append_own _ rfl _ _ 28 rfl w1.heap.size 32 i0 _ 2 24 Try.underlying28 hi hz0 ‹_› hz2 rfl (by decide) _ 0 [] rfl (World.ownsRow_lit _ #[] 0 (Nat.le_refl _) (by unfold maxLen; omega) rfl) ⟨b0, off0, none⟩ n0 _ (rcells rs) rfl (by rw [rcells_len, HN0.out]) (by intro j u hu; rw [Addr.add_spot]; exact keep_alloc (HC.out j u hu)) (rcells_one rs) (by unfold maxLen; omega) (by omega) (by simp) ?_; intro v2 w2 hown2 hgrow hnil)
    simp only [Nat.zero_add, List.nil_append] at hown2
    have hnn : v2 ≠ .slice none 0 0 := fun e => by have := (hnil.1 e).1; cases this
    obtain ⟨g2, cap2, rfl, hg2, hO2⟩ : ∃ g2 cap2, v2 = .slice (some ⟨g2, 0, none⟩) n0 cap2 ∧ w1.heap.size ≤ g2 ∧ Own w2 g2 n0 cap2 32 2 (rcells rs) := by
      rcases hown2.2 with ⟨h2, _⟩ | ⟨g1, cap1, cur, rfl, hb, r⟩
      · exact absurd h2 hnn
      · exact ⟨g1, cap1, rfl, hb, (Own.of hown2).1⟩
    have hB2 : Below w1.heap.size w1 w2 := ((Below.refl w1.heap.size w1).alloc (Nat.le_refl _) _).grown hgrow (by simp) (by intro k hk; have e : w1.heap.size = k := Option.some.inj hk; omega)
    have hbel2 : Below w.heap.size w w2 := by (repeat' (first | (with_reducible exact Below.refl _ _) | (with_reducible assumption) | (with_reducible refine Below.drew ?_) | (with_reducible refine below_drewN ?_ _) | (with_reducible refine Below.alloc ?_ ?_ _) | (with_reducible refine Below.setCell ?_ ?_ _) | (refine Below.trans ?_ (Below.mono (by assumption) (by first | omega | (with_reducible exact Below.size (by assumption)) | (simp; done) | (simp; omega)))) | (with_reducible exact Nat.le_refl _) | omega | (with_reducible exact Below.size (by assumption)) | (simp only [World.size_alloc, World.size_setCell, World.size_drew]; omega) | (simp; done) | (simp; omega)))
    have hout2 := hout1.below hB2 holt
    clear hown2 hgrow hnil hnn hB2 hout1 hbel1
    go_wp2_with fail
    go_loopw [4, 5] (fun v li wr => ∃ (l g n c : Nat) (us : List Rt), l ≤ 4 ∧ li = .int .i64 ((l : Int) - 1) ∧ v = .slice (some ⟨g, 0, none⟩) n c ∧ Hid (us.length = n) ∧ n ≤ 8 ∧ Hid (RoutesOk us) ∧ Hid (lessFrom l us = lessFrom 4 rs) ∧ w1.heap.size ≤ g ∧ Own wr g n c 32 2 (rcells us) ∧ Own wr w.heap.size 0 0 32 2 (rcells []) ∧ Below w.heap.size w wr) (fun _ li _ => ((intOf li) + 1).toNat)
    case atStart => exact ⟨4, g2, n0, cap2, rs, by omega, rfl, rfl, HN0, h8, HOK, rfl, hg2, hO2, hout2, hbel2⟩
    case round =>
      clear hO2 hout2 hbel2
      obtain ⟨l, g, n, c, us, hl, rfl, rfl, HN, hus, hok, hfr, hg, hO, hOut, hbel⟩ := hrel
      obtain ⟨wo, rfl⟩ : ∃ wo : World, wo = wr := ⟨_, rfl⟩
      by_cases hl0 : 0 < l
      · obtain ⟨L, rfl⟩ : ∃ L, l = L + 1 := ⟨l - 1, by omega⟩
        have hcast : ((L + 1 : Nat) : Int) - 1 = (L : Int) := by omega
        rw [hcast]
        have hd0 : decide ((0 : Int) ≤ (L : Int)) = true := by simp
        clear hcast
        go_wp2_with fail
        go_loopw [4, 6] (fun v ki wi => ∃ (k g n c : Nat) (us : List Rt), k ≤ n ∧ ki = .int .i64 k ∧ v = .slice (some ⟨g, 0, none⟩) n c ∧ Hid (us.length = n) ∧ n ≤ 8 ∧ Hid (RoutesOk us) ∧ Hid (lessFrom L (lessTo L us k) = lessFrom 4 rs) ∧ w1.heap.size ≤ g ∧ Own wi g n c 32 2 (rcells us) ∧ Own wi w.heap.size 0 0 32 2 (rcells []) ∧ Below w.heap.size w wi) (fun v ki _ => sliceLen v - (intOf ki).toNat)
        case atStart => exact ⟨0, g, n, c, us, by omega, rfl, rfl, HN, hus, hok, by unfold Hid; exact hfr.out, hg, hO, hOut, hbel⟩
        case round =>
          clear hO hOut hbel
          obtain ⟨k, g, n, c, us, hk, rfl, rfl, HN, hus, hok, hfr, hg, hO, hOut, hbel⟩ := hrel
          have hz := hbel.size
          have hOlt := hO.lt
          have hOutlt := hOut.lt
          have hcaps := hO.caps
          by_cases hkn : k < n
          · obtain ⟨r, hr⟩ : ∃ r, us[k]? = some r := ⟨_, List.getElem?_eq_getElem (by rw [HN.out]; omega)⟩
            obtain ⟨g1, g2⟩ := rcells_at us k r hr
            have q1 : wr.cell? ⟨g, k * 2, none⟩ = some (.string r.1) := by rw [hO.cell _ (by omega), g1]
            have q2 : wr.cell? ⟨g, k * 2 + 1, none⟩ = some (.int .i64 r.2) := by rw [hO.cell _ (by omega), g2]
            obtain ⟨hrd, hr3, hr0⟩ := rt_digs hok.out (List.mem_of_getElem? hr)
            obtain ⟨o2, hA, hRB⟩ : ∃ o2, (if c = k + 1 then some (⟨g, 0, none⟩ : Addr) else some ⟨g, (k + 1) * 2, none⟩) = some ⟨g, o2, none⟩ ∧ ∀ j u, (rcells (us.drop (k + 1)))[j]? = some u → wr.cell? ⟨g, o2 + j, none⟩ = some u := by
              by_cases hck : c = k + 1
              · refine ⟨0, by rw [if_pos hck], fun j u hu => ?_⟩
                have : us.drop (k + 1) = [] := List.drop_of_length_le (by rw [HN.out]; omega)
                rw [this] at hu
                simp [rcells] at hu
              · refine ⟨(k + 1) * 2, by rw [if_neg hck], fun j u hu => ?_⟩
                rw [rcells_drop2, List.getElem?_drop] at hu
                have hj := (List.getElem?_eq_some_iff.1 hu).1
                rw [rcells_len, HN.out] at hj
                rw [hO.cell _ (by omega)]; exact hu
            have hRA : ∀ j u, (rcells (us.take k))[j]? = some u → wr.cell? ⟨g, j, none⟩ = some u := by
              intro j u hu
              have hj := (List.getElem?_eq_some_iff.1 hu).1
              rw [rcells_len, List.length_take, HN.out] at hj
              rw [rcells_take, List.getElem?_take_of_lt (by omega)] at hu
              rw [hO.cell _ (by omega)]; exact hu
            have HRA := Lib.hid hRA
            have HRB := Lib.hid hRB
            have HRK := Lib.hid hr
            have HRD := Lib.hid hrd
            have HLA : Hid ((rcells (us.take k)).length = k * 2) := by unfold Hid; rw [rcells_len, List.length_take, HN.out, Nat.min_eq_left (by omega)]
            have HLB : Hid ((rcells (us.drop (k + 1))).length = (n - (k + 1)) * 2) := by unfold Hid; rw [rcells_len, List.length_drop, HN.out]
            have HWO := Lib.hid (okWo hok.out hr)
            have HOW := Lib.hid hO
            have HOU := Lib.hid hOut
            clear hRA hRB hr hrd g1 g2 hO hOut
            have hs1 : IntKind.i64.wrap ((k : Int) + 1) = (k : Int) + 1 := IntWalk.i64_in _ (by omega)
            have hs2 : (0 : Int) ≤ (k : Int) + 1 := by omega
            have hs3 : ((k : Int) + 1).toNat = k + 1 := by omega
            have hs4 : (k : Int) + 1 ≤ (n : Int) := by omega
            have hs5 : (n : Int) ≤ (c : Int) := by omega
            have hs6 : (0 : Int) ≤ (k : Int) := by omega
            have hs7 : (k : Int) ≤ (c : Int) := by omega
            have tok1 : True := trivial
            have tok2 : True := trivial
            go_wp2_with fail
            go_region_held3 (fun _ => True) (exact trivial)
              (first
                | (have _t := tok1; refine step_append_free (by rfl) _ _ _ (by rfl) wr.heap.size 32 i0 _ 2 24 Try.underlying28 hi hz0 (by assumption) hz2 rfl (by omega) _ 0 0 [] (by rfl) (World.ownsRow_lit _ #[] 0 (by simp) (by unfold maxLen; omega) rfl) ⟨g, 0, none⟩ k _ (rcells (us.take k)) (by rfl) HLA.out (by intro j u hu; rw [Addr.add_spot, Nat.zero_add]; exact keep_alloc (HRA.out j u hu)) (rcells_one _) (by unfold maxLen; omega) (by omega) (by simp) ?_; intro g6 cap6 w6 hown6 hgrow6; clear tok1; have hg6 := (Own.of hown6).2)
                | (have _t := tok2; refine step_append_free (by rfl) _ _ _ (by rfl) wr.heap.size 32 i0 _ 2 24 Try.underlying28 hi hz0 (by assumption) hz2 rfl (by omega) g6 _ cap6 _ (by rfl) hown6 ⟨g, o2, none⟩ (n - (k + 1)) _ (rcells (us.drop (k + 1))) (by rfl) HLB.out (by intro j u hu; rw [Addr.add_spot]; exact keep_gb hgrow6 (by simp; omega) (keep_alloc (HRB.out j u hu))) (rcells_one _) (by unfold maxLen; omega) (by omega) (by have := hgrow6.size; simp at this; omega) ?_; intro g7 cap7 w7 hown7 hgrow7; clear tok2; have hg7 := (Own.of hown7).2))
            have B6 : Below wr.heap.size wr w6 := by
              refine Below.grown ?_ hgrow6 ?_ ?_
              · (repeat' (first | (with_reducible exact Below.refl _ _) | (with_reducible assumption) | (with_reducible refine Below.drew ?_) | (with_reducible refine below_drewN ?_ _) | (with_reducible refine Below.alloc ?_ ?_ _) | (with_reducible refine Below.setCell ?_ ?_ _) | (refine Below.trans ?_ (Below.mono (by assumption) (by first | omega | (with_reducible exact Below.size (by assumption)) | (simp; done) | (simp; omega)))) | (with_reducible exact Nat.le_refl _) | omega | (with_reducible exact Below.size (by assumption)) | (simp only [World.size_alloc, World.size_setCell, World.size_drew]; omega) | (simp; done) | (simp; omega)))
              · simp
              · intro j hj; cases hj; exact Nat.le_refl _
            have B7 : Below wr.heap.size wr w7 := by
              refine Below.grown B6 hgrow7 B6.size ?_
              intro j hj; cases hj; exact hg6
            have e7 : k + (n - (k + 1)) = n - 1 := by omega
            have hO7 : Own w7 g7 (n - 1) cap7 32 2 (rcells (us.eraseIdx k)) := by
              have h7 := (Own.of hown7).1
              rw [Nat.zero_add, e7, List.nil_append] at h7
              have e8 : rcells (us.take k) ++ rcells (us.drop (k + 1)) = rcells (us.eraseIdx k) := by rw [erase_parts]; simp [rcells, List.flatMap_append]
              rw [e8] at h7
              exact h7
            rw [e7]
            have hbel7 : Below w.heap.size w w7 := by (repeat' (first | (with_reducible exact Below.refl _ _) | (with_reducible assumption) | (with_reducible refine Below.drew ?_) | (with_reducible refine below_drewN ?_ _) | (with_reducible refine Below.alloc ?_ ?_ _) | (with_reducible refine Below.setCell ?_ ?_ _) | (refine Below.trans ?_ (Below.mono (by assumption) (by first | omega | (with_reducible exact Below.size (by assumption)) | (simp; done) | (simp; omega)))) | (with_reducible exact Nat.le_refl _) | omega | (with_reducible exact Below.size (by assumption)) | (simp only [World.size_alloc, World.size_setCell, World.size_drew]; omega) | (simp; done) | (simp; omega)))
            have hgl : w1.heap.size ≤ g7 := by
              have : w1.heap.size ≤ wr.heap.size := by omega
              omega
            have hel : (us.eraseIdx k).length = n - 1 := by rw [List.length_eraseIdx_of_lt (by rw [HN.out]; exact hkn), HN.out]
            have HEL := Lib.hid hel
            have HO7 := Lib.hid hO7
            have HW7 := Lib.hid (HOW.out.below B7 hOlt)
            have HOU7 := Lib.hid (HOU.out.below B7 hOutlt)
            have p1 : w7.cell? ⟨g, k * 2, none⟩ = some (.string r.1) := keep_below B7 q1
            have p2 : w7.cell? ⟨g, k * 2 + 1, none⟩ = some (.int .i64 r.2) := keep_below B7 q2
            have hcaps7 := hO7.caps
            clear hown6 hown7 hgrow6 hgrow7 B6 B7 hO7 hel q1 q2 hA hs1 hs2 hs3 hs4 e7
            obtain ⟨s, o⟩ := r
            simp only at p1 p2 hr3 hr0
            have hk0 : (0 : Int) ≤ (k : Int) := by omega
            have hk1 : (k : Int) < (n : Int) := by omega
            by_cases hsL : s.size = L
            · have hsb : ((s.size : Int) == (L : Int)) = true := by simp; omega
              obtain ⟨x, hx⟩ : ∃ x, routeR (us.eraseIdx k) s = x := ⟨_, rfl⟩
              have HX := Lib.hid hx
              have HSL := Lib.hid hsL
              have hsm : s.size ≤ maxLen := by unfold maxLen; omega
              have kc : Hid (∀ m : Nat, Calls Try.prog 28 #[.slice (some ⟨g7, 0, none⟩) (n - 1) cap7, .string s] (w7.drewN m) fun e w' => e = .returned (.int .i64 x) ∧ ∃ q, w' = (w7.drewN m).drewN q) := by
                intro m
                have h1 : Rds (w7.drewN m) (.slice (some ⟨g7, 0, none⟩) (n - 1) cap7) (us.eraseIdx k).length 2 (rcells (us.eraseIdx k)) := by rw [HEL.out]; exact (Rds.ofOwn HO7.out).drewN m
                exact (sRouteOf_any _ (us.eraseIdx k) s _ h1 (RtOk_len HWO.out) hsm).mono (fun e w' h => ⟨by rw [h.1, hx], h.2⟩)
              clear hx hsL hsm
              go_wp2_with fail
              go_quiet ((go_at_call 28; exact Calls.quiet_of (kc.out _)))
              have hbel8 : Below w.heap.size w (w7.drewN nq) := by (repeat' (first | (with_reducible exact Below.refl _ _) | (with_reducible assumption) | (with_reducible refine Below.drew ?_) | (with_reducible refine below_drewN ?_ _) | (with_reducible refine Below.alloc ?_ ?_ _) | (with_reducible refine Below.setCell ?_ ?_ _) | (refine Below.trans ?_ (Below.mono (by assumption) (by first | omega | (with_reducible exact Below.size (by assumption)) | (simp; done) | (simp; omega)))) | (with_reducible exact Nat.le_refl _) | omega | (with_reducible exact Below.size (by assumption)) | (simp only [World.size_alloc, World.size_setCell, World.size_drew]; omega) | (simp; done) | (simp; omega)))
              have HO8 : Hid (Own (w7.drewN nq) g7 (n - 1) cap7 32 2 (rcells (us.eraseIdx k))) := HO7.out
              have HW8 : Hid (Own (w7.drewN nq) g n c 32 2 (rcells us)) := HW7.out
              have HOU8 : Hid (Own (w7.drewN nq) w.heap.size 0 0 32 2 (rcells [])) := HOU7.out
              by_cases hxo : x = o
              · have hxb : (x == o) = true := by simp [hxo]
                have HGO := Lib.hid (lessTo_go (L := L) HRK.out HSL.out (by rw [HX.out]; exact hxo))
                clear hxo
                go_wp2_with fail
                go_roundw
                case rel => exact ⟨k, g7, n - 1, cap7, us.eraseIdx k, by omega, by go_num, rfl, HEL.out, by omega, HWO, by unfold Hid; rw [← HGO.out]; exact hfr.out, hgl, HO8.out, HOU8.out, hbel8⟩
                case measure => simp [sliceLen, intOf]; omega
              · have hxb : (x == o) = false := by simpa using hxo
                have HST := Lib.hid (lessTo_stay (L := L) HRK.out (fun h => hxo (by rw [← HX.out]; exact h.2)))
                clear hxo
                go_wp2_with fail
                go_roundw
                case rel => exact ⟨k + 1, g, n, c, us, by omega, by go_num, rfl, HN.out, by omega, hok, by unfold Hid; rw [← HST.out]; exact hfr.out, hg, HW8.out, HOU8.out, hbel8⟩
                case measure => simp [sliceLen, intOf]; omega
            · have hsb : ((s.size : Int) == (L : Int)) = false := by simp; omega
              have HST := Lib.hid (lessTo_stay (L := L) HRK.out (fun h => hsL h.1))
              clear hsL
              go_wp2_with fail
              go_quiet (fail)
              go_wp2
              go_roundw
              case rel => exact ⟨k + 1, g, n, c, us, by omega, by go_num, rfl, HN.out, by omega, hok, by unfold Hid; rw [← HST.out]; exact hfr.out, hg, HW7.out, HOU7.out, by (repeat' (first | (with_reducible exact Below.refl _ _) | (with_reducible assumption) | (with_reducible refine Below.drew ?_) | (with_reducible refine below_drewN ?_ _) | (with_reducible refine Below.alloc ?_ ?_ _) | (with_reducible refine Below.setCell ?_ ?_ _) | (refine Below.trans ?_ (Below.mono (by assumption) (by first | omega | (with_reducible exact Below.size (by assumption)) | (simp; done) | (simp; omega)))) | (with_reducible exact Nat.le_refl _) | omega | (with_reducible exact Below.size (by assumption)) | (simp only [World.size_alloc, World.size_setCell, World.size_drew]; omega) | (simp; done) | (simp; omega)))⟩
              case measure => simp [sliceLen, intOf]; omega
          · obtain rfl : k = n := by omega
            have HEND := Lib.hid (lessTo_end (L := L) (rs := us) (k := k) (by rw [HN.out]; exact Nat.le_refl _))
            go_wp2_with fail
            go_roundw
            case rel => exact ⟨L, g, k, c, us, by omega, by go_num, rfl, HN.out, hus, hok, by unfold Hid; rw [← HEND.out]; exact hfr.out, hg, hO, hOut, hbel⟩
            case measure => simp [intOf]
      · obtain rfl : l = 0 := by omega
        have hd0 : decide ((0 : Int) ≤ ((0 : Nat) : Int) - 1) = false := by simp
        have hz := hbel.size
        have hfr' : us = lessFrom 4 rs := hfr.out
        have HFR := Lib.hid hfr'
        have hOutB := hOut.back (base := w.heap.size) (Nat.le_refl _)
        have HCO := Lib.hid (fun j (hj : j < n * 2) => hO.cell j hj)
        clear hfr' hOut
        go_wp2_with (at_builtin; refine wpList_append_own _ rfl _ _ 28 rfl w.heap.size 32 i0 _ 2 24 Try.underlying28 hi hz0 (by assumption) hz2 rfl (by decide) _ 0 (rcells []) rfl hOutB ⟨g, 0, none⟩ n _ (rcells us) rfl (by rw [rcells_len, HN.out]) (by intro j u hu; rw [Addr.add_spot, Nat.zero_add]; have hj := (List.getElem?_eq_some_iff.1 hu).1; rw [rcells_len, HN.out] at hj; rw [HCO.out j hj]; exact hu) (rcells_one us) (by unfold maxLen; omega) (by omega) hz ?_; intro v3 w3 hown3 hgrow3 _)
        have hB3 : Below w.heap.size w w3 := by
          refine Below.grown hbel hgrow3 hz ?_
          intro j hj; have e : w.heap.size = j := Option.some.inj hj; omega
        have hfin : w3.ownsRow w.heap.size 32 2 v3 us.length (rcells us) := by
          rw [HN.out]
          simpa [rcells] using hown3
        clear hgrow3 hown3
        go_returns
        exact ⟨_, rfl, by rw [HR.out, ← HFR.out]; exact hfin, hB3⟩

end Go.Proofs.Ytcacedcbboidoaa
