/- Contracts of RoutesValid (program and reference). -/
import Derived.Test.YtcacedcbboidoaaPlR
import Derived.Handy
import Derived.Deep.QuietTactic
import Derived.BigQuiet
set_option linter.unusedSimpArgs false
set_option linter.unusedVariables false
namespace Go.Proofs.Ytcacedcbboidoaa
open Go.RowKit

/-- Every beginning in the table is no longer than a string can be. -/
def RtLen (rs : List Rt) : Prop := ∀ (k : Nat) (r : Rt), rs[k]? = some r → r.1.size ≤ maxLen

set_option maxHeartbeats 1000000 in
theorem iRoutesValid_any (v : Value) (rs : List Rt) (w : World) (hv : Rds w v rs.length 2 (rcells rs)) (hL : RtLen rs) :
    Calls Try.prog 25 #[v] w fun e w' => e = .returned (.bool (routesB rs)) ∧ Below w.heap.size w w' := by
  obtain ⟨hl1, hm1, a, ca, rfl, hn1, hc1⟩ := hv
  unfold maxLen at hm1
  obtain ⟨n, hn⟩ : ∃ n, rs.length = n := ⟨_, rfl⟩
  rw [hn] at hm1 hn1 hc1 ⊢
  have HN := Lib.hid hn
  have HL := Lib.hid hL
  clear hn hl1 hL
  by_cases h8 : n ≤ 8
  · go_enter Try.func25, Try.ntmps25
    go_wp2_with fail
    go_loopw [12] (fun i wr => ∃ k : Nat, k ≤ n ∧ i = .int .i64 k ∧ Hid (RtOk rs k) ∧ Below w.heap.size w wr) (fun i _ => n - (intOf i).toNat)
    case atStart => exact ⟨0, by omega, rfl, RtOk.zero rs, Below.refl _ _⟩
    case round =>
      obtain ⟨k, hk, rfl, hok, hbel⟩ := hrel
      obtain ⟨wo, rfl⟩ : ∃ wo : World, wo = wr := ⟨_, rfl⟩
      have hz := hbel.size
      by_cases hkn : k < n
      · rcases hc1 with hc1 | ⟨b, off, rfl, hb, hc1⟩
        · omega
        obtain ⟨r, hr⟩ : ∃ r, rs[k]? = some r := ⟨_, List.getElem?_eq_getElem (by rw [HN.out]; omega)⟩
        obtain ⟨g1, g2⟩ := rcells_at rs k r hr
        have c1 : wo.cell? ⟨b, off + k * 2, none⟩ = some (.string r.1) := by rw [hbel.cell (p := ⟨b, off + k * 2, none⟩) hb, hc1 _ (by omega), g1]
        have c2 : wo.cell? ⟨b, off + k * 2 + 1, none⟩ = some (.int .i64 r.2) := by rw [Nat.add_assoc, hbel.cell (p := ⟨b, off + (k * 2 + 1), none⟩) hb, hc1 _ (by omega), g2]
        have hrl := HL.out k r hr
        have HR := Lib.hid hr
        have HC := Lib.hid hc1
        clear hc1 hr g1 g2
        obtain ⟨s, o⟩ := r
        simp only at c1 c2 hrl
        unfold maxLen at hrl
        have hB := Blk.new (w := wo) (cs := #[.string s, .int .i64 o]) (T := 32) rfl
        by_cases h3 : s.size ≤ 3
        · go_wp2_with fail
          refine (iDigitsOk_any s _ (by unfold maxLen; omega)).mono ?_
          rintro e w1 ⟨rfl, rfl⟩
          obtain ⟨d, hd⟩ : ∃ d, digsB s = d := ⟨_, rfl⟩
          have HD := Lib.hid hd
          rw [hd]
          clear hd
          cases d
          · have HF := Lib.hid (not_ok_at HR.out (by simp [rtB, HD.out]))
            go_wp2
            go_returns
            exact ⟨by rw [HF.out]; rfl, by (repeat' (first | (with_reducible exact Below.refl _ _) | (with_reducible assumption) | (with_reducible refine Below.drew ?_) | (with_reducible refine below_drewN ?_ _) | (with_reducible refine Below.alloc ?_ ?_ _) | (with_reducible refine Below.setCell ?_ ?_ _) | (refine Below.trans ?_ (Below.mono (by assumption) (by first | omega | (with_reducible exact Below.size (by assumption)) | (simp; done) | (simp; omega)))) | (with_reducible exact Nat.le_refl _) | omega | (with_reducible exact Below.size (by assumption)) | (simp only [World.size_alloc, World.size_setCell, World.size_drew]; omega) | (simp; done) | (simp; omega)))⟩
          · by_cases ho : 0 ≤ o ∧ o ≤ 99
            · obtain ⟨o1, o2⟩ := ho
              have HT : Hid (rtB (s, o) = true) := by simp [Hid, rtB, h3, HD.out, o1, o2]
              have hd1 : decide ((3 : Int) < (s.size : Int)) = false := by simp; omega
              have hd2 : decide (o < 0) = false := by simp; omega
              have hd3 : decide ((99 : Int) < o) = false := by simp; omega
              go_wp2_with fail
              clear c1 c2 hd1 hd2 hd3
              go_loopw [41] (fun j wi => ∃ m : Nat, m ≤ k ∧ j = .int .i64 m ∧ Hid (∀ i r', i < m → rs[i]? = some r' → r'.1 ≠ s) ∧ Blk wi wo.heap.size #[.string s, .int .i64 o] 32 ∧ Below w.heap.size w wi) (fun j _ => k - (intOf j).toNat)
              case atStart => exact ⟨0, by omega, rfl, fun i r' hi => absurd hi (by omega), hB, by (repeat' (first | (with_reducible exact Below.refl _ _) | (with_reducible assumption) | (with_reducible refine Below.drew ?_) | (with_reducible refine below_drewN ?_ _) | (with_reducible refine Below.alloc ?_ ?_ _) | (with_reducible refine Below.setCell ?_ ?_ _) | (refine Below.trans ?_ (Below.mono (by assumption) (by first | omega | (with_reducible exact Below.size (by assumption)) | (simp; done) | (simp; omega)))) | (with_reducible exact Nat.le_refl _) | omega | (with_reducible exact Below.size (by assumption)) | (simp only [World.size_alloc, World.size_setCell, World.size_drew]; omega) | (simp; done) | (simp; omega)))⟩
              case round =>
                obtain ⟨m, hm, rfl, hne, hB2, hbel2⟩ := hrel
                have hz2 := hbel2.size
                obtain ⟨b0, b1, bf0, bf1, bl⟩ := hB2.two
                by_cases hmk : m < k
                · obtain ⟨r2, hr2⟩ : ∃ r2, rs[m]? = some r2 := ⟨_, List.getElem?_eq_getElem (by rw [HN.out]; omega)⟩
                  obtain ⟨g1, g2⟩ := rcells_at rs m r2 hr2
                  have c1 : wr.cell? ⟨b, off + m * 2, none⟩ = some (.string r2.1) := by rw [hbel2.cell (p := ⟨b, off + m * 2, none⟩) hb, HC.out _ (by omega), g1]
                  have c2 : wr.cell? ⟨b, off + m * 2 + 1, none⟩ = some (.int .i64 r2.2) := by rw [Nat.add_assoc, hbel2.cell (p := ⟨b, off + (m * 2 + 1), none⟩) hb, HC.out _ (by omega), g2]
                  have HR2 := Lib.hid hr2
                  clear hr2 g1 g2
                  obtain ⟨s2, o2'⟩ := r2
                  simp only at c1 c2
                  by_cases hs : s2 = s
                  · have HF := Lib.hid (not_ok_pair hmk HR2.out HR.out hs)
                    have hsb := str_eq hs
                    clear hs
                    go_wp2
                    go_returns
                    exact ⟨by rw [HF.out]; rfl, by (repeat' (first | (with_reducible exact Below.refl _ _) | (with_reducible assumption) | (with_reducible refine Below.drew ?_) | (with_reducible refine below_drewN ?_ _) | (with_reducible refine Below.alloc ?_ ?_ _) | (with_reducible refine Below.setCell ?_ ?_ _) | (refine Below.trans ?_ (Below.mono (by assumption) (by first | omega | (with_reducible exact Below.size (by assumption)) | (simp; done) | (simp; omega)))) | (with_reducible exact Nat.le_refl _) | omega | (with_reducible exact Below.size (by assumption)) | (simp only [World.size_alloc, World.size_setCell, World.size_drew]; omega) | (simp; done) | (simp; omega)))⟩
                  · have hsb := str_ne hs
                    have HS := Lib.hid hs
                    clear hs
                    go_wp2
                    go_roundw
                    case rel =>
                      refine ⟨m + 1, by omega, by go_num, ?_, by (repeat' (first | (with_reducible assumption) | rfl | omega | (with_reducible exact Blk.new (by first | rfl | (simp; done) | (simp; omega))) | (with_reducible apply Blk.set) | (with_reducible apply Blk.other (by first | (simp; done) | (simp; omega) | omega)) | (with_reducible apply Blk.alloc) | (with_reducible apply Blk.drewN) | (with_reducible apply Blk.drew) | (with_reducible apply Blk.below) | (simp; omega))), by (repeat' (first | (with_reducible exact Below.refl _ _) | (with_reducible assumption) | (with_reducible refine Below.drew ?_) | (with_reducible refine below_drewN ?_ _) | (with_reducible refine Below.alloc ?_ ?_ _) | (with_reducible refine Below.setCell ?_ ?_ _) | (refine Below.trans ?_ (Below.mono (by assumption) (by first | omega | (with_reducible exact Below.size (by assumption)) | (simp; done) | (simp; omega)))) | (with_reducible exact Nat.le_refl _) | omega | (with_reducible exact Below.size (by assumption)) | (simp only [World.size_alloc, World.size_setCell, World.size_drew]; omega) | (simp; done) | (simp; omega)))⟩
                      intro i r' hi hr'
                      by_cases e : i = m
                      · subst e; have := HR2.out; rw [hr'] at this; cases this; exact HS.out
                      · exact hne.out i r' (by omega) hr'
                    case measure => simp [intOf]; omega
                · obtain rfl : m = k := by omega
                  go_wp2_with fail
                  go_roundw
                  case rel =>
                    exact ⟨m + 1, by omega, by go_num, hok.out.succ HR.out HT.out hne.out, hbel2⟩
                  case measure => simp [intOf]; omega
            · have HF := Lib.hid (not_ok_at HR.out (by simp only [rtB, h3, HD.out, decide_true, Bool.true_and, Bool.and_eq_false_iff, decide_eq_false_iff_not]; omega))
              by_cases o1 : 0 ≤ o
              · have o2 : 99 < o := by omega
                clear ho
                go_wp2
                go_returns
                exact ⟨by rw [HF.out]; rfl, by (repeat' (first | (with_reducible exact Below.refl _ _) | (with_reducible assumption) | (with_reducible refine Below.drew ?_) | (with_reducible refine below_drewN ?_ _) | (with_reducible refine Below.alloc ?_ ?_ _) | (with_reducible refine Below.setCell ?_ ?_ _) | (refine Below.trans ?_ (Below.mono (by assumption) (by first | omega | (with_reducible exact Below.size (by assumption)) | (simp; done) | (simp; omega)))) | (with_reducible exact Nat.le_refl _) | omega | (with_reducible exact Below.size (by assumption)) | (simp only [World.size_alloc, World.size_setCell, World.size_drew]; omega) | (simp; done) | (simp; omega)))⟩
              · clear ho
                go_wp2
                go_returns
                exact ⟨by rw [HF.out]; rfl, by (repeat' (first | (with_reducible exact Below.refl _ _) | (with_reducible assumption) | (with_reducible refine Below.drew ?_) | (with_reducible refine below_drewN ?_ _) | (with_reducible refine Below.alloc ?_ ?_ _) | (with_reducible refine Below.setCell ?_ ?_ _) | (refine Below.trans ?_ (Below.mono (by assumption) (by first | omega | (with_reducible exact Below.size (by assumption)) | (simp; done) | (simp; omega)))) | (with_reducible exact Nat.le_refl _) | omega | (with_reducible exact Below.size (by assumption)) | (simp only [World.size_alloc, World.size_setCell, World.size_drew]; omega) | (simp; done) | (simp; omega)))⟩
        · have HF := Lib.hid (not_ok_at HR.out (by simp [rtB, h3]))
          go_wp2
          go_returns
          exact ⟨by rw [HF.out]; rfl, by (repeat' (first | (with_reducible exact Below.refl _ _) | (with_reducible assumption) | (with_reducible refine Below.drew ?_) | (with_reducible refine below_drewN ?_ _) | (with_reducible refine Below.alloc ?_ ?_ _) | (with_reducible refine Below.setCell ?_ ?_ _) | (refine Below.trans ?_ (Below.mono (by assumption) (by first | omega | (with_reducible exact Below.size (by assumption)) | (simp; done) | (simp; omega)))) | (with_reducible exact Nat.le_refl _) | omega | (with_reducible exact Below.size (by assumption)) | (simp only [World.size_alloc, World.size_setCell, World.size_drew]; omega) | (simp; done) | (simp; omega)))⟩
      · obtain rfl : k = n := by omega
        have HF : Hid (routesB rs = true) := (routesB_iff rs).2 ⟨by rw [HN.out]; exact h8, by rw [HN.out]; exact hok.out⟩
        go_wp2
        go_returns
        exact ⟨by rw [HF.out]; rfl, hbel⟩
  · have HF : Hid (routesB rs = false) := routesB_no (fun ok => h8 (by have := ok.1; rw [HN.out] at this; exact this))
    go_enter Try.func25, Try.ntmps25
    go_wp2
    go_returns
    exact ⟨by rw [HF.out]; rfl, Below.refl _ _⟩

set_option maxHeartbeats 1000000 in
theorem sRoutesValid_any (v : Value) (rs : List Rt) (w : World) (hv : Rds w v rs.length 2 (rcells rs)) (hL : RtLen rs) :
    Calls Try.prog 26 #[v] w fun e w' => e = .returned (.bool (routesB rs)) ∧ ∃ q, w' = w.drewN q := by
  obtain ⟨hl1, hm1, a, ca, rfl, hn1, hc1⟩ := hv
  unfold maxLen at hm1
  obtain ⟨n, hn⟩ : ∃ n, rs.length = n := ⟨_, rfl⟩
  rw [hn] at hm1 hn1 hc1 ⊢
  have HN := Lib.hid hn
  have HL := Lib.hid hL
  clear hn hl1 hL
  go_enter Try.func26, Try.ntmps26
  go_wp2_with fail
  go_loopw [3] (fun i wr => ∃ k q : Nat, k ≤ n ∧ i = .int .i64 k ∧ Hid (RtOk rs k) ∧ wr = w.drewN q) (fun i _ => n - (intOf i).toNat)
  case atStart => exact ⟨0, 0, by omega, rfl, RtOk.zero rs, rfl⟩
  case round =>
    obtain ⟨k, q, hk, rfl, hok, rfl⟩ := hrel
    by_cases hkn : k < n
    · rcases hc1 with hc1 | ⟨b, off, rfl, hb, hc1⟩
      · omega
      obtain ⟨r, hr⟩ : ∃ r, rs[k]? = some r := ⟨_, List.getElem?_eq_getElem (by rw [HN.out]; omega)⟩
      obtain ⟨g1, g2⟩ := rcells_at rs k r hr
      have c1 : w.cell? ⟨b, off + k * 2, none⟩ = some (.string r.1) := by rw [hc1 _ (by omega), g1]
      have c2 : w.cell? ⟨b, off + k * 2 + 1, none⟩ = some (.int .i64 r.2) := by rw [Nat.add_assoc, hc1 _ (by omega), g2]
      have hrl := HL.out k r hr
      have HR := Lib.hid hr
      have HC := Lib.hid hc1
      clear hc1 hr g1 g2
      obtain ⟨s, o⟩ := r
      simp only at c1 c2 hrl
      have hrl' := hrl
      unfold maxLen at hrl
      go_wp2_with fail
      refine (sDigitsOk_any s _ hrl').mono ?_
      rintro e w1 ⟨rfl, rfl⟩
      obtain ⟨d, hd⟩ : ∃ d, digsB s = d := ⟨_, rfl⟩
      have HD := Lib.hid hd
      rw [hd]
      clear hd
      cases d
      · have HF := Lib.hid (not_ok_at HR.out (by simp [rtB, HD.out]))
        go_wp2
        go_returns
        exact ⟨by rw [HF.out]; rfl, _, rfl⟩
      · by_cases h3 : s.size ≤ 3
        · have hd0 : decide ((3 : Int) < (s.size : Int)) = false := by simp; omega
          go_wp2_with fail
          refine (sIn_any _ _ _ _).mono ?_
          rintro e w1 ⟨rfl, rfl⟩
          obtain ⟨d, hd⟩ : ∃ d, (decide (0 ≤ o) && decide (o ≤ 99)) = d := ⟨_, rfl⟩
          have HO := Lib.hid hd
          rw [hd]
          clear hd
          cases d
          · have HF := Lib.hid (not_ok_at HR.out (by simp only [rtB, HO.out, Bool.and_false]))
            go_wp2
            go_returns
            exact ⟨by rw [HF.out]; rfl, _, rfl⟩
          · have HT : Hid (rtB (s, o) = true) := by simp only [Hid, rtB, HO.out, HD.out, h3, decide_true, Bool.and_self]
            go_wp2_with fail
            clear c2 hd0
            go_loopw [4] (fun j wi => ∃ m q : Nat, m ≤ k ∧ j = .int .i64 m ∧ Hid (∀ i r', i < m → rs[i]? = some r' → r'.1 ≠ s) ∧ wi = w.drewN q) (fun j _ => k - (intOf j).toNat)
            case atStart => exact ⟨0, q, by omega, rfl, fun i r' hi => absurd hi (by omega), rfl⟩
            case round =>
              obtain ⟨m, q2, hm, rfl, hne, rfl⟩ := hrel
              by_cases hmk : m < k
              · obtain ⟨r2, hr2⟩ : ∃ r2, rs[m]? = some r2 := ⟨_, List.getElem?_eq_getElem (by rw [HN.out]; omega)⟩
                obtain ⟨g1, g2⟩ := rcells_at rs m r2 hr2
                have c3 : w.cell? ⟨b, off + m * 2, none⟩ = some (.string r2.1) := by rw [HC.out _ (by omega), g1]
                have HR2 := Lib.hid hr2
                clear hr2 g1 g2
                obtain ⟨s2, o2'⟩ := r2
                simp only at c3
                by_cases hs : s2 = s
                · have HF := Lib.hid (not_ok_pair hmk HR2.out HR.out hs)
                  have hsb := str_eq hs
                  clear hs
                  go_wp2_with fail
                  go_quiet (fail)
                  go_wp2
                  go_returns
                  exact ⟨by rw [HF.out]; rfl, _, by rw [World.drewN_drewN]⟩
                · have hsb := str_ne hs
                  have HS := Lib.hid hs
                  clear hs
                  go_wp2_with fail
                  go_quiet (fail)
                  go_wp2
                  go_roundw
                  case rel =>
                    refine ⟨m + 1, _, by omega, by go_num, ?_, rfl⟩
                    intro i r' hi hr'
                    by_cases e : i = m
                    · subst e; have := HR2.out; rw [hr'] at this; cases this; exact HS.out
                    · exact hne.out i r' (by omega) hr'
                  case measure => simp [intOf]; omega
              · obtain rfl : m = k := by omega
                go_wp2_with fail
                go_roundw
                case rel =>
                  exact ⟨m + 1, _, by omega, by go_num, hok.out.succ HR.out HT.out hne.out, rfl⟩
                case measure => simp [intOf]; omega
        · have HF := Lib.hid (not_ok_at HR.out (by simp [rtB, h3]))
          have hd0 : decide ((3 : Int) < (s.size : Int)) = true := by simp; omega
          go_wp2
          go_returns
          exact ⟨by rw [HF.out]; rfl, _, rfl⟩
    · obtain rfl : k = n := by omega
      by_cases h8 : k ≤ 8
      · have HF : Hid (routesB rs = true) := (routesB_iff rs).2 ⟨by rw [HN.out]; exact h8, by rw [HN.out]; exact hok.out⟩
        have hd : decide ((k : Int) ≤ 8) = true := by simp; omega
        go_wp2
        go_returns
        exact ⟨by rw [HF.out]; rfl, _, rfl⟩
      · have HF : Hid (routesB rs = false) := routesB_no (fun ok => h8 (by have := ok.1; rw [HN.out] at this; exact this))
        have hd : decide ((k : Int) ≤ 8) = false := by simp; omega
        go_wp2
        go_returns
        exact ⟨by rw [HF.out]; rfl, _, rfl⟩

end Go.Proofs.Ytcacedcbboidoaa
