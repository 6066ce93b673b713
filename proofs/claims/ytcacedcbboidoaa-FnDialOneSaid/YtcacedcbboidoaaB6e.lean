/- The walk of the law of DialOne. -/
import Derived.Test.YtcacedcbboidoaaDrDi
import Derived.Test.YtcacedcbboidoaaDi
import Derived.Test.YtcacedcbboidoaaAlive
set_option linter.unusedSimpArgs false
set_option linter.unusedVariables false
namespace Go.Proofs.Ytcacedcbboidoaa
open Go.RowKit

theorem oneR_some {ps : List ByteArray} {s : ByteArray} {k : Nat} (h : oneR ps s = some k) : planB ps = true ∧ digsB s = true ∧ dialK ps s.data.toList = some k := by
  unfold oneR at h
  split at h
  · rename_i hc
    rw [Bool.and_eq_true] at hc
    exact ⟨hc.1, hc.2, h⟩
  · cases h
theorem cut_eq {s p : ByteArray} (h : p.size ≤ s.size) (hp : preB s p = true) : s.extract 0 p.size = p := by
  have := preB_cut h
  rw [hp, beq_iff_eq, ByteArray.toList_eq, ByteArray.toList_eq] at this
  exact bytes_ext this
theorem digsB_app {a b : ByteArray} (h : digsB a = true) (h' : digsB b = true) : digsB (a ++ b) = true := by
  unfold digsB at *
  rw [ByteArray.data_append]
  simp only [Array.toList_append, List.all_append, h, h', Bool.and_self]
theorem preB_app (a b : ByteArray) : preB (a ++ b) a = true := by
  unfold preB
  rw [List.isPrefixOf_iff_prefix, ByteArray.data_append, Array.toList_append]
  exact List.prefix_append _ _

set_option maxRecDepth 100000 in
set_option maxHeartbeats 2000000 in
theorem wDialOne (a : Option Addr) (len cap : Nat) (cs : List Int) (w : World) (h0 : IsRow .u8 w a len cap cs) :
    Calls Try.prog 10 #[.slice a len cap] w fun e w' => e = .returned (.bool true) ∧ Below w.heap.size w w' := by
  have h := h0.code
  have hm := h.bd
  by_cases hbig : len > 1048576
  · go_enter Try.func10, Try.ntmps10
    go_wp2
    go_returns
    exact ⟨rfl, Below.refl _ _⟩
  · go_enter Try.func10, Try.ntmps10
    go_wp2_with fail
    refine (DrawDialOne_any _ _ _ _ _ h).mono ?_
    rintro e w1 ⟨v, ps, s, rfl, ho, hl, hsm, hss, hb1⟩
    have HSM := Lib.hid hsm
    have HR := Lib.hid (Rds.ofOwns ho)
    have hs : s.size ≤ maxLen := by unfold maxLen; omega
    have HS := Lib.hid hs
    clear hsm hs ho
    go_wp2_with fail
    refine (iDialOne_any _ ps s _ HR.out HSM.out.len HS.out).mono ?_
    rintro e w2 ⟨rfl, rfl⟩
    go_wp2_with fail
    refine (sDialOne_any _ ps s _ HR.out HSM.out.len HS.out).mono ?_
    rintro e w3 ⟨rfl, q3, rfl⟩
    have hbel : Below w.heap.size w (w1.drewN q3) := below_drewN hb1 q3
    have HR3 := Lib.hid (Rds.drewN q3 HR.out)
    clear hb1 HR
    generalize w1.drewN q3 = w4 at *
    obtain ⟨o, hoo⟩ : ∃ o, oneR ps s = o := ⟨_, rfl⟩
    have HO := Lib.hid hoo
    rw [hoo]
    clear hoo
    cases o with
    | none =>
      rw [show dialA ps none = -1 from rfl, show dialB ps none = 0 from rfl]
      go_wp2_with fail
      refine (alive_any _).mono ?_
      rintro e w6 ⟨rfl, hb6⟩
      go_wp2
      go_returns
      exact ⟨rfl, by (repeat' (first | (with_reducible exact Below.refl _ _) | (with_reducible assumption) | (with_reducible refine Below.drew ?_) | (with_reducible refine below_drewN ?_ _) | (with_reducible refine Below.alloc ?_ ?_ _) | (with_reducible refine Below.setCell ?_ ?_ _) | (refine Below.trans ?_ (Below.mono (by assumption) (by first | omega | (with_reducible exact Below.size (by assumption)) | (simp; done) | (simp; omega)))) | (with_reducible exact Nat.le_refl _) | omega | (with_reducible exact Below.size (by assumption)) | (simp only [World.size_alloc, World.size_setCell, World.size_drew]; omega) | (simp; done) | (simp; omega)))⟩
    | some k =>
      obtain ⟨hpl, hdg, hdk⟩ := oneR_some HO.out
      obtain ⟨p, hp, hpre⟩ := dialK_some hdk
      have hok := (planB_iff ps).1 hpl
      have hpn := numB_size (hok.at k p hp)
      obtain ⟨hp1, hp3, hpd⟩ := hpn
      have hpre' : preB s p = true := hpre
      have hps : p.size ≤ s.size := by have := pre_size hpre; simpa using this
      have hkl := lt_of_some hp
      have hk10 := hok.1
      rw [show dialA ps (some k) = (k : Int) from rfl, show dialB ps (some k) = ((sizeAt ps k : Nat) : Int) from rfl, sizeAt_of hp]
      have HPL := Lib.hid hpl
      have HOK := Lib.hid hok
      have HP := Lib.hid hp
      have HPRE := Lib.hid hpre'
      have HCUT := Lib.hid (cut_eq hps hpre')
      have HY : Hid (oneR ps (p ++ ⟨#[51, 49, 50, 48]⟩) = some k) := by
        unfold Hid
        rw [oneR_yes hpl (digsB_app hpd (by decide))]
        exact dialK_of hok hp (preB_app p _)
      obtain ⟨va, vc, rfl, hrl, hrm, hrn, hrc⟩ := HR3.out.open1
      obtain ⟨n, hn⟩ : ∃ n, ps.length = n := ⟨_, rfl⟩
      have HN := Lib.hid hn
      rw [hn] at hl hkl hk10 hrm hrn hrc ⊢
      have HRN : Hid (Rds w4 (.slice va n vc) ps.length 1 (strs ps)) := by have := HR3.out; rw [hn] at this ⊢; exact this
      have hsz : (s.extract 0 p.size).size ≤ 3 := by rw [ByteArray.size_extract]; omega
      clear hpl hok hp hpre hpre' hdk hdg hrl hn HR3 hpd
      go_wp2_with fail
      rw [HCUT.out]
      have hs2 : (p ++ (⟨#[51, 49, 50, 48]⟩ : ByteArray)).size ≤ maxLen := by
        rw [ByteArray.size_append]; have : (⟨#[51, 49, 50, 48]⟩ : ByteArray).size = 4 := rfl; unfold maxLen; omega
      have HS2 := Lib.hid hs2
      clear hs2 hsz
      refine (iDialOne_any _ ps (p ++ (⟨#[51, 49, 50, 48]⟩ : ByteArray)) _ HRN.out HSM.out.len HS2.out).mono ?_
      rintro e w5 ⟨rfl, rfl⟩
      rw [HY.out, show dialA ps (some k) = (k : Int) from rfl, show dialB ps (some k) = ((sizeAt ps k : Nat) : Int) from rfl, sizeAt_of HP.out]
      rcases hrc with hrc | ⟨b, off, rfl, hbl, hrc⟩
      · omega
      have HRC := Lib.hid hrc
      clear hrc
      go_wp2_with fail
      go_loopw [11] (fun j wr => ∃ m q : Nat, m ≤ n ∧ j = .int .i64 m ∧ wr = w4.drewN q) (fun j _ => n - (intOf j).toNat)
      case atStart => exact ⟨0, 0, by omega, rfl, rfl⟩
      case round =>
        obtain ⟨m, q, hm', rfl, rfl⟩ := hrel
        by_cases hmn : m < n
        · by_cases hmk : m = k
          · subst hmk
            have hmb : ((m : Int) != (m : Int)) = false := by simp
            go_wp2_with fail
            go_quiet (fail)
            go_wp2
            go_roundw
            case rel => exact ⟨m + 1, _, by omega, by go_num, rfl⟩
            case measure => simp [intOf]; omega
          · have hmb : ((m : Int) != (k : Int)) = true := by simp; omega
            obtain ⟨t, ht⟩ : ∃ t, ps[m]? = some t := ⟨_, List.getElem?_eq_getElem (by rw [HN.out]; omega)⟩
            have c1 := HRC.out m hmn
            rw [strs_at ps m t ht] at c1
            have htl := HSM.out t (List.mem_of_getElem? ht)
            have hno : preB s t = false := by
              rw [Bool.eq_false_iff]
              intro e
              exact hmk (dialK_uniq HOK.out ht HP.out e HPRE.out)
            have HNO := Lib.hid hno
            clear hno ht hmk
            by_cases hts : t.size ≤ s.size
            · have hcut := preB_cut hts
              rw [HNO.out] at hcut
              have hdt : decide (t.size ≤ s.size) = true := by simp; omega
              have hdt2 : decide ((t.size : Int) ≤ (s.size : Int)) = true := by simp; omega
              go_wp2_with fail
              go_quiet (fail)
              go_wp2
              go_roundw
              case rel => exact ⟨m + 1, _, by omega, by go_num, rfl⟩
              case measure => simp [intOf]; omega
            · have hdt : decide (t.size ≤ s.size) = false := by simp; omega
              have hdt2 : decide ((t.size : Int) ≤ (s.size : Int)) = false := by simp; omega
              go_wp2_with fail
              go_quiet (fail)
              go_wp2
              go_roundw
              case rel => exact ⟨m + 1, _, by omega, by go_num, rfl⟩
              case measure => simp [intOf]; omega
        · obtain rfl : m = n := by omega
          have c1 := HRC.out k hkl
          rw [strs_at ps k p HP.out] at c1
          have hcut2 := preB_cut hps
          rw [HPRE.out] at hcut2
          have hki : (0 : Int) ≤ (k : Int) := by omega
          have hki2 : (k : Int) < (m : Int) := by omega
          go_wp2_with fail
          go_quiet (fail)
          go_wp2
          go_returns
          exact ⟨rfl, by (repeat' (first | (with_reducible exact Below.refl _ _) | (with_reducible assumption) | (with_reducible refine Below.drew ?_) | (with_reducible refine below_drewN ?_ _) | (with_reducible refine Below.alloc ?_ ?_ _) | (with_reducible refine Below.setCell ?_ ?_ _) | (refine Below.trans ?_ (Below.mono (by assumption) (by first | omega | (with_reducible exact Below.size (by assumption)) | (simp; done) | (simp; omega)))) | (with_reducible exact Nat.le_refl _) | omega | (with_reducible exact Below.size (by assumption)) | (simp only [World.size_alloc, World.size_setCell, World.size_drew]; omega) | (simp; done) | (simp; omega)))⟩

end Go.Proofs.Ytcacedcbboidoaa
