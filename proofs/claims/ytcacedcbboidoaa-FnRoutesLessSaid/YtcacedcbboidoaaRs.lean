/- Contracts of RoutesLess (program and reference). -/
import Derived.Test.YtcacedcbboidoaaPlL
import Derived.Test.YtcacedcbboidoaaSl
import Derived.StillTailTactics
import Derived.IntWalk
import Derived.Deep.RegionHeld3
set_option linter.unusedSimpArgs false
set_option linter.unusedVariables false
namespace Go.Proofs.Ytcacedcbboidoaa
open Go.RowKit

theorem own_len {w : World} {base n : Nat} {E : TypeId} {size : Nat} {v : Value} {xs : List Value} (h : w.ownsRow base E size v n xs) : ∃ a c, v = .slice a n c := by
  rcases h.2 with ⟨rfl, rfl⟩ | ⟨g, cap, cur, rfl, _⟩
  · exact ⟨_, _, rfl⟩
  · exact ⟨_, _, rfl⟩
def sliceLen (v : Value) : Nat := match v with
  | .slice _ n _ => n
  | _ => 0
theorem RtOk_len {rs : List Rt} (h : RoutesOk rs) : RtLen rs := fun k r hr => by have := (rt_digs h (List.mem_of_getElem? hr)).2.1; unfold maxLen; omega
theorem rcells_take (rs : List Rt) (k : Nat) : rcells (rs.take k) = (rcells rs).take (k * 2) := by
  induction rs generalizing k with
  | nil => simp [rcells]
  | cons r rs ih =>
    cases k with
    | zero => simp [rcells]
    | succ k =>
      rw [show (k + 1) * 2 = k * 2 + 2 by omega]
      simpa [rcells, List.flatMap_cons] using ih k
theorem rcells_drop2 (rs : List Rt) : ∀ m, rcells (rs.drop m) = (rcells rs).drop (m * 2) := by
  induction rs with
  | nil => intro m; simp [rcells]
  | cons r rs ih =>
    intro m
    cases m with
    | zero => simp
    | succ m =>
      rw [show (m + 1) * 2 = m * 2 + 2 by omega]
      simpa [rcells, List.flatMap_cons] using ih m
theorem erase_parts {α : Type} (us : List α) (k : Nat) : us.eraseIdx k = us.take k ++ us.drop (k + 1) := List.eraseIdx_eq_take_drop_succ us k
theorem okWo {us : List Rt} (h : RoutesOk us) {k : Nat} {r : Rt} (hr : us[k]? = some r) : RoutesOk (us.eraseIdx k) := by
  rw [Wo.of (routes_pair.1 h).2.2 hr]; exact Wo.ok h r.1

set_option maxRecDepth 100000 in
set_option maxHeartbeats 2000000 in
theorem iRoutesLess_any (b0 off0 c0 : Nat) (rs : List Rt) (w : World) (hv : Rds w (.slice (some ⟨b0, off0, none⟩) rs.length c0) rs.length 2 (rcells rs)) (hL : RtLen rs) :
    Calls Try.prog 59 #[.slice (some ⟨b0, off0, none⟩) rs.length c0] w (RtOut (lessR rs) w) := by
  have HV := Lib.hid hv
  have HL := Lib.hid hL
  clear hv hL
  go_enter Try.func59, Try.ntmps59
  go_wp2_with fail
  refine (iRoutesValid_any _ rs _ HV.out HL.out).mono ?_
  rintro e w1 ⟨rfl, hb1⟩
  obtain ⟨d, hd⟩ : ∃ d, routesB rs = d := ⟨_, rfl⟩
  have HD := Lib.hid hd
  rw [hd]
  clear hd
  cases d
  · have HR : Hid (lessR rs = []) := by simp [Hid, lessR, HD.out]
    go_wp2
    go_returns
    exact ⟨_, rfl, by rw [HR.out]; exact World.ownsRow_nil _ _ _ _, hb1⟩
  · have HOK := Lib.hid ((routesB_iff rs).1 HD.out)
    have h8 := HOK.out.1
    have HR : Hid (lessR rs = lessFrom 4 rs) := by simp [Hid, lessR, HD.out]
    go_wp2_with fail
    refine (cloneRt_any _ rs _ (HV.out.below hb1) (.inr ⟨_, _, _, rfl⟩) (by omega)).mono ?_
    rintro e w2 ⟨v2, rfl, ho2, hb2⟩
    have hbel2 : Below w.heap.size w w2 := by (repeat' (first | (with_reducible exact Below.refl _ _) | (with_reducible assumption) | (with_reducible refine Below.drew ?_) | (with_reducible refine below_drewN ?_ _) | (with_reducible refine Below.alloc ?_ ?_ _) | (with_reducible refine Below.setCell ?_ ?_ _) | (refine Below.trans ?_ (Below.mono (by assumption) (by first | omega | (with_reducible exact Below.size (by assumption)) | (simp; done) | (simp; omega)))) | (with_reducible exact Nat.le_refl _) | omega | (with_reducible exact Below.size (by assumption)) | (simp only [World.size_alloc, World.size_setCell, World.size_drew]; omega) | (simp; done) | (simp; omega)))
    have ho2' := owns_base hb1.size ho2
    clear ho2 hb1 hb2
    go_wp2_with fail
    go_loopw [3, 4] (fun v li wr => ∃ (l : Nat) (us : List Rt), l ≤ 4 ∧ li = .int .i64 ((l : Int) - 1) ∧ us.length ≤ 8 ∧ Hid (RoutesOk us) ∧ Hid (lessFrom l us = lessFrom 4 rs) ∧ wr.ownsRow w.heap.size 32 2 v us.length (rcells us) ∧ Below w.heap.size w wr) (fun _ li _ => ((intOf li) + 1).toNat)
    case atStart => exact ⟨4, rs, by omega, rfl, h8, HOK, rfl, ho2', hbel2⟩
    case round =>
      clear ho2' hbel2
      obtain ⟨l, us, hl, rfl, hus, hok, hfr, hown, hbel⟩ := hrel
      obtain ⟨wo, rfl⟩ : ∃ wo : World, wo = wr := ⟨_, rfl⟩
      by_cases hl0 : 0 < l
      · obtain ⟨L, rfl⟩ : ∃ L, l = L + 1 := ⟨l - 1, by omega⟩
        have hcast : ((L + 1 : Nat) : Int) - 1 = (L : Int) := by omega
        rw [hcast]
        have hd0 : decide ((0 : Int) ≤ (L : Int)) = true := by simp
        clear hcast
        go_wp2_with fail
        go_loopw [3, 5] (fun v ki wi => ∃ (k : Nat) (us : List Rt), k ≤ us.length ∧ ki = .int .i64 k ∧ us.length ≤ 8 ∧ Hid (RoutesOk us) ∧ Hid (lessFrom L (lessTo L us k) = lessFrom 4 rs) ∧ wi.ownsRow w.heap.size 32 2 v us.length (rcells us) ∧ Below w.heap.size w wi) (fun v ki _ => sliceLen v - (intOf ki).toNat)
        case atStart => exact ⟨0, us, by omega, rfl, hus, hok, by unfold Hid; exact hfr.out, hown, hbel⟩
        case round =>
          clear hown hbel
          obtain ⟨k, us, hk, rfl, hus, hok, hfr, hown, hbel⟩ := hrel
          have hz := hbel.size
          obtain ⟨n, hn⟩ : ∃ n, us.length = n := ⟨_, rfl⟩
          have HN := Lib.hid hn
          rw [hn] at hk hus hown
          clear hn
          by_cases hkn : k < n
          · obtain ⟨g, c, rfl, hg, hO⟩ := own_some hown (by omega)
            obtain ⟨r, hr⟩ : ∃ r, us[k]? = some r := ⟨_, List.getElem?_eq_getElem (by rw [HN.out]; omega)⟩
            obtain ⟨g1, g2⟩ := rcells_at us k r hr
            have q1 : wr.cell? ⟨g, k * 2, none⟩ = some (.string r.1) := by rw [hO.cell _ (by omega), g1]
            have q2 : wr.cell? ⟨g, k * 2 + 1, none⟩ = some (.int .i64 r.2) := by rw [hO.cell _ (by omega), g2]
            obtain ⟨hrd, hr3, hr0⟩ := rt_digs hok.out (List.mem_of_getElem? hr)
            have hcaps := hO.caps
            obtain ⟨o2, hA, hRB⟩ : ∃ o2, (if c = k + 1 then some (⟨g, 0, none⟩ : Addr) else some ⟨g, (k + 1) * 2, none⟩) = some ⟨g, o2, none⟩ ∧ Rds wr (.slice (some ⟨g, o2, none⟩) (us.drop (k + 1)).length (c - (k + 1))) (us.drop (k + 1)).length 2 (rcells (us.drop (k + 1))) := by
              have h1 := (Rds.ofOwn hO).drop (m := k + 1) (cap' := c - (k + 1)) (a' := if c = k + 1 then some ⟨g, 0, none⟩ else some ⟨g, (k + 1) * 2, none⟩) (by omega) (by omega) (by intro _; rw [if_neg (by omega), Nat.zero_add])
              rw [← rcells_drop2] at h1
              have e : (us.drop (k + 1)).length = n - (k + 1) := by rw [List.length_drop, HN.out]
              rw [e]
              by_cases hck : c = k + 1
              · rw [if_pos hck] at h1 ⊢; exact ⟨0, rfl, h1⟩
              · rw [if_neg hck] at h1 ⊢; exact ⟨_, rfl, h1⟩
            have hRA : Rds wr (.slice (some ⟨g, 0, none⟩) (us.take k).length c) (us.take k).length 2 (rcells (us.take k)) := by
              have h1 := (Rds.ofOwn hO).take (m := k) (by omega)
              rw [← rcells_take] at h1
              have e : (us.take k).length = k := by rw [List.length_take, HN.out]; omega
              have h2 : ∀ m, m = k → Rds wr (.slice (some ⟨g, 0, none⟩) m c) m 2 (rcells (us.take k)) := fun m hm => by rw [hm]; exact h1
              exact h2 _ e
            have hBk : ∀ X : World, Blk ((X.alloc (.cells #[.slice (some ⟨g, 0, none⟩) k c, .slice (some ⟨g, o2, none⟩) (n - (k + 1)) (c - (k + 1))] 28))) X.heap.size #[.slice (some ⟨g, 0, none⟩) (us.take k).length c, .slice (some ⟨g, o2, none⟩) (us.drop (k + 1)).length (c - (k + 1))] 28 := by
              intro X
              rw [List.length_take, List.length_drop, HN.out, Nat.min_eq_left (by omega)]
              exact Blk.new rfl
            have HRA := Lib.hid hRA
            have HRB := Lib.hid hRB
            have HBK := Lib.hid hBk
            have HRK := Lib.hid hr
            have HRD := Lib.hid hrd
            have hcut1 : (us.take k).length ≤ 10000 := by rw [List.length_take]; omega
            have hcut2 : (us.drop (k + 1)).length ≤ 10000 := by rw [List.length_drop, HN.out]; omega
            have H1 := Lib.hid hcut1
            have H2 := Lib.hid hcut2
            have HWO := Lib.hid (okWo hok.out hr)
            have hlt := hO.lt
            clear hRA hRB hBk hr hrd hcut1 hcut2 g1 g2 hO
            have HOW := Lib.hid hown
            clear hown
            have hs1 : IntKind.i64.wrap ((k : Int) + 1) = (k : Int) + 1 := IntWalk.i64_in _ (by omega)
            have hs2 : (0 : Int) ≤ (k : Int) + 1 := by omega
            have hs3 : ((k : Int) + 1).toNat = k + 1 := by omega
            have hs4 : (k : Int) + 1 ≤ (n : Int) := by omega
            have hs5 : (n : Int) ≤ (c : Int) := by omega
            have hs6 : (0 : Int) ≤ (k : Int) := by omega
            have hs7 : (k : Int) ≤ (c : Int) := by omega
            go_wp2_with fail
            go_still_tail 7, (by kernel_rfl)
            change wpList _ _ _ _ _ wr.drew
            go_wp2_with fail
            have hbA : Below wr.heap.size wr ((wr.alloc (.cells #[.slice (some ⟨g, 0, none⟩) k c, .slice (some ⟨g, o2, none⟩) (n - (k + 1)) (c - (k + 1))] 28)).drew) := by (repeat' (first | (with_reducible exact Below.refl _ _) | (with_reducible assumption) | (with_reducible refine Below.drew ?_) | (with_reducible refine below_drewN ?_ _) | (with_reducible refine Below.alloc ?_ ?_ _) | (with_reducible refine Below.setCell ?_ ?_ _) | (refine Below.trans ?_ (Below.mono (by assumption) (by first | omega | (with_reducible exact Below.size (by assumption)) | (simp; done) | (simp; omega)))) | (with_reducible exact Nat.le_refl _) | omega | (with_reducible exact Below.size (by assumption)) | (simp only [World.size_alloc, World.size_setCell, World.size_drew]; omega) | (simp; done) | (simp; omega)))
            refine (concatRt_two wr.heap.size 2 g 0 c g o2 (c - (k + 1)) (us.take k) (us.drop (k + 1)) _ (Blk.drew (HBK.out wr)) (HRA.out.below hbA) (HRB.out.below hbA) H1.out H2.out).mono ?_
            rintro e w3 ⟨v3, rfl, ho3, hb3⟩
            rw [← erase_parts] at ho3
            have hz3 := hb3.size
            simp only [World.size_drew, World.size_alloc] at hz3
            have hbw3 : Below wr.heap.size wr w3 := by (repeat' (first | (with_reducible exact Below.refl _ _) | (with_reducible assumption) | (with_reducible refine Below.drew ?_) | (with_reducible refine below_drewN ?_ _) | (with_reducible refine Below.alloc ?_ ?_ _) | (with_reducible refine Below.setCell ?_ ?_ _) | (refine Below.trans ?_ (Below.mono (by assumption) (by first | omega | (with_reducible exact Below.size (by assumption)) | (simp; done) | (simp; omega)))) | (with_reducible exact Nat.le_refl _) | omega | (with_reducible exact Below.size (by assumption)) | (simp only [World.size_alloc, World.size_setCell, World.size_drew]; omega) | (simp; done) | (simp; omega)))
            have hbel3 : Below w.heap.size w w3 := by (repeat' (first | (with_reducible exact Below.refl _ _) | (with_reducible assumption) | (with_reducible refine Below.drew ?_) | (with_reducible refine below_drewN ?_ _) | (with_reducible refine Below.alloc ?_ ?_ _) | (with_reducible refine Below.setCell ?_ ?_ _) | (refine Below.trans ?_ (Below.mono (by assumption) (by first | omega | (with_reducible exact Below.size (by assumption)) | (simp; done) | (simp; omega)))) | (with_reducible exact Nat.le_refl _) | omega | (with_reducible exact Below.size (by assumption)) | (simp only [World.size_alloc, World.size_setCell, World.size_drew]; omega) | (simp; done) | (simp; omega)))
            have ho3' : w3.ownsRow w.heap.size 32 2 v3 (us.eraseIdx k).length (rcells (us.eraseIdx k)) := owns_base (by simp; omega) ho3
            have hown3 := owns_below hbw3 HOW.out
            have p1 : w3.cell? ⟨g, k * 2, none⟩ = some (.string r.1) := keep_below hbw3 q1
            have p2 : w3.cell? ⟨g, k * 2 + 1, none⟩ = some (.int .i64 r.2) := keep_below hbw3 q2
            have hel : (us.eraseIdx k).length = n - 1 := by rw [List.length_eraseIdx_of_lt (by rw [HN.out]; exact hkn), HN.out]
            have HEL := Lib.hid hel
            have HO3 := Lib.hid ho3'
            have HW3 := Lib.hid hown3
            obtain ⟨va, vc, hv3⟩ := own_len ho3'
            have hv3' : sliceLen v3 = n - 1 := by rw [hv3, ← hel]; rfl
            have HV3 := Lib.hid hv3'
            clear ho3 ho3' hown3 hb3 hbA q1 q2 hA hs1 hs2 hs3 hs4 hel hv3 hv3'
            obtain ⟨s, o⟩ := r
            simp only at p1 p2 hr3 hr0
            by_cases hsL : s.size = L
            · have hsb : ((s.size : Int) == (L : Int)) = true := by simp; omega
              obtain ⟨x, hx⟩ : ∃ x, routeR (us.eraseIdx k) s = x := ⟨_, rfl⟩
              have HX := Lib.hid hx
              have HSL := Lib.hid hsL
              have hk0 : (0 : Int) ≤ (k : Int) := by omega
              have hk1 : (k : Int) < (n : Int) := by omega
              have hR3 : Rds w3.drew v3 (us.eraseIdx k).length 2 (rcells (us.eraseIdx k)) := Rds.drewN 1 (Rds.ofOwns HO3.out)
              have HR3 := Lib.hid hR3
              have hsm : s.size ≤ maxLen := by unfold maxLen; omega
              have HSM := Lib.hid hsm
              have HWL := Lib.hid (RtOk_len HWO.out)
              have hglt : g < w3.heap.size := by have := hbw3.size; omega
              clear hx hsL hR3 hsm hbw3
              go_wp2_with fail
              go_region_held3 (fun w' => w'.cell? ⟨g, k * 2, none⟩ = some (.string s) ∧ w'.cell? ⟨g, k * 2 + 1, none⟩ = some (.int .i64 o)) ((repeat' (first | (with_reducible assumption) | (with_reducible apply And.intro) | (with_reducible apply keep_drew) | (with_reducible apply keep_drewN) | (simp [go_sem, World.cell?_alloc_past]; done) | (simp [*]; done) | (with_reducible apply keep_other (by first | (simp; done) | (simp; omega) | omega)) | (with_reducible apply keep_below (by assumption)) | (with_reducible apply keep_alloc))))
                (first | (go_at_call 30; refine (iRouteOf_any _ (us.eraseIdx k) s _ HR3.out HWL.out HSM.out).mono ?_; rintro e w4 ⟨rfl, hb4⟩; rw [HX.out]))
              have hz4 := hb4.size
              have hbel4 : Below w.heap.size w w4 := by (repeat' (first | (with_reducible exact Below.refl _ _) | (with_reducible assumption) | (with_reducible refine Below.drew ?_) | (with_reducible refine below_drewN ?_ _) | (with_reducible refine Below.alloc ?_ ?_ _) | (with_reducible refine Below.setCell ?_ ?_ _) | (refine Below.trans ?_ (Below.mono (by assumption) (by first | omega | (with_reducible exact Below.size (by assumption)) | (simp; done) | (simp; omega)))) | (with_reducible exact Nat.le_refl _) | omega | (with_reducible exact Below.size (by assumption)) | (simp only [World.size_alloc, World.size_setCell, World.size_drew]; omega) | (simp; done) | (simp; omega)))
              have ho4 := owns_below hb4 (show w3.drew.ownsRow w.heap.size 32 2 v3 (us.eraseIdx k).length (rcells (us.eraseIdx k)) from HO3.out)
              have how4 := owns_below hb4 (show w3.drew.ownsRow w.heap.size 32 2 (.slice (some ⟨g, 0, none⟩) n c) n (rcells us) from HW3.out)
              have HO4 := Lib.hid ho4
              have HW4 := Lib.hid how4
              clear hb4 p1 p2 ho4 how4
              by_cases hxo : x = o
              · have hxb : (x == o) = true := by simp [hxo]
                have HGO := Lib.hid (lessTo_go (L := L) HRK.out HSL.out (by rw [HX.out]; exact hxo))
                clear hxo
                go_wp2_with fail
                go_roundw
                case rel => exact ⟨k, us.eraseIdx k, by rw [HEL.out]; omega, rfl, by rw [HEL.out]; omega, HWO, by unfold Hid; rw [← HGO.out]; exact hfr.out, HO4.out, hbel4⟩
                case measure => rw [HV3.out]; simp [sliceLen, intOf]; omega
              · have hxb : (x == o) = false := by simpa using hxo
                have HST := Lib.hid (lessTo_stay (L := L) HRK.out (fun h => hxo (by rw [← HX.out]; exact h.2)))
                clear hxo
                go_wp2_with fail
                go_roundw
                case rel => exact ⟨k + 1, us, by rw [HN.out]; omega, by go_num, by rw [HN.out]; omega, hok, by unfold Hid; rw [← HST.out]; exact hfr.out, by rw [HN.out]; exact HW4.out, hbel4⟩
                case measure => simp [sliceLen, intOf]; omega
            · have hsb : ((s.size : Int) == (L : Int)) = false := by simp; omega
              have HST := Lib.hid (lessTo_stay (L := L) HRK.out (fun h => hsL h.1))
              have hk0 : (0 : Int) ≤ (k : Int) := by omega
              have hk1 : (k : Int) < (n : Int) := by omega
              clear hsL
              go_wp2_with fail
              go_quiet (fail)
              go_wp2
              go_roundw
              case rel => exact ⟨k + 1, us, by rw [HN.out]; omega, by go_num, by rw [HN.out]; omega, hok, by unfold Hid; rw [← HST.out]; exact hfr.out, by rw [HN.out]; exact HW3.out, by (repeat' (first | (with_reducible exact Below.refl _ _) | (with_reducible assumption) | (with_reducible refine Below.drew ?_) | (with_reducible refine below_drewN ?_ _) | (with_reducible refine Below.alloc ?_ ?_ _) | (with_reducible refine Below.setCell ?_ ?_ _) | (refine Below.trans ?_ (Below.mono (by assumption) (by first | omega | (with_reducible exact Below.size (by assumption)) | (simp; done) | (simp; omega)))) | (with_reducible exact Nat.le_refl _) | omega | (with_reducible exact Below.size (by assumption)) | (simp only [World.size_alloc, World.size_setCell, World.size_drew]; omega) | (simp; done) | (simp; omega)))⟩
              case measure => simp [sliceLen, intOf]; omega
          · obtain rfl : k = n := by omega
            have HEND := Lib.hid (lessTo_end (L := L) (rs := us) (k := k) (by rw [HN.out]; exact Nat.le_refl _))
            obtain ⟨va, vc, rfl⟩ := own_len hown
            go_wp2_with fail
            go_roundw
            case rel => exact ⟨L, us, by omega, by go_num, by rw [HN.out]; exact hus, hok, by unfold Hid; rw [← HEND.out]; exact hfr.out, by rw [HN.out]; exact hown, hbel⟩
            case measure => simp [intOf]
      · obtain rfl : l = 0 := by omega
        have hd0 : decide ((0 : Int) ≤ ((0 : Nat) : Int) - 1) = false := by simp
        go_wp2
        go_returns
        exact ⟨_, rfl, by rw [HR.out, ← hfr.out]; exact hown, hbel⟩

end Go.Proofs.Ytcacedcbboidoaa
