/- The walk of the law of DialAll. -/
import Derived.Test.YtcacedcbboidoaaDrDi
import Derived.Test.YtcacedcbboidoaaAd
import Derived.Test.YtcacedcbboidoaaAlive
set_option linter.unusedSimpArgs false
set_option linter.unusedVariables false
namespace Go.Proofs.Ytcacedcbboidoaa
open Go.RowKit

theorem backTo_digs {ps : List ByteArray} (h : PlanOk ps) (k : Nat) : (backTo ps k).all digB = true := by
  rw [List.all_eq_true]
  intro c hc
  simp only [backTo, List.mem_flatten, List.mem_map, List.mem_reverse] at hc
  obtain ⟨l, ⟨p, hp, rfl⟩, hc⟩ := hc
  obtain ⟨j, hj⟩ := List.mem_iff_getElem?.1 (List.mem_of_mem_drop hp)
  have := (numB_size (h.at j p hj)).2.2
  unfold digsB at this
  rw [List.all_eq_true] at this
  exact this c hc
theorem backTo_end (ps : List ByteArray) (k : Nat) (h : ps.length ≤ k) : backTo ps k = [] := by simp [backTo, List.drop_of_length_le h]
theorem textOf_step (ps : List ByteArray) (zs : List Int) (k : Nat) (z : Int) (p : ByteArray) (hz : zs[k]? = some z) (hp : ps[z.toNat]? = some p) : textOf ps (zs.take (k + 1)) = textOf ps (zs.take k) ++ p.data.toList := by
  simp [textOf, List.take_add_one, hz, hp]
theorem allR_text {ps : List ByteArray} {s : ByteArray} {ks : List Int} (h : allR ps s = some ks) : textOf ps ks = s.data.toList ∧ ∀ k ∈ ks, 0 ≤ k ∧ k < ps.length := by
  unfold allR at h
  split at h
  · exact dialF_text _ _ _ h
  · cases h

set_option maxRecDepth 100000 in
set_option maxHeartbeats 2000000 in
theorem wDialAll (a : Option Addr) (len cap : Nat) (cs : List Int) (w : World) (h0 : IsRow .u8 w a len cap cs) :
    Calls Try.prog 15 #[.slice a len cap] w fun e w' => e = .returned (.bool true) ∧ Below w.heap.size w w' := by
  have h := h0.code
  have hm := h.bd
  by_cases hbig : len > 1048576
  · go_enter Try.func15, Try.ntmps15
    go_wp2
    go_returns
    exact ⟨rfl, Below.refl _ _⟩
  · go_enter Try.func15, Try.ntmps15
    go_wp2_with fail
    refine (DrawDialAll_any _ _ _ _ _ h).mono ?_
    rintro e w1 ⟨v, ps, s, rfl, ho, hl, hsm, hss, hb1⟩
    have HSM := Lib.hid hsm
    have HR := Lib.hid (Rds.ofOwns ho)
    clear hsm ho
    obtain ⟨r, hr⟩ : ∃ r, allR ps s = r := ⟨_, rfl⟩
    have hlen0 := allR_len ps s
    rw [hr] at hlen0
    obtain ⟨zs, hzs⟩ : ∃ zs, r.getD [] = zs := ⟨_, rfl⟩
    obtain ⟨o, ho⟩ : ∃ o, r.isSome = o := ⟨_, rfl⟩
    rw [hzs] at hlen0
    have HRR := Lib.hid hr
    have HZ := Lib.hid hzs
    have HO := Lib.hid ho
    have hoo : (o != o) = false := by cases o <;> rfl
    clear hr hzs ho
    go_wp2_with fail
    refine (iDialAll_any _ ps s _ HR.out HSM.out.len (by omega)).mono ?_
    rintro e w2 ⟨v1, rfl, ho1, hb2⟩
    rw [HRR.out, HZ.out] at ho1
    rw [HRR.out, HO.out]
    have HR2 := Lib.hid (HR.out.below hb2)
    have hbel2 : Below w.heap.size w w2 := by (repeat' (first | (with_reducible exact Below.refl _ _) | (with_reducible assumption) | (with_reducible refine Below.drew ?_) | (with_reducible refine below_drewN ?_ _) | (with_reducible refine Below.alloc ?_ ?_ _) | (with_reducible refine Below.setCell ?_ ?_ _) | (refine Below.trans ?_ (Below.mono (by assumption) (by first | omega | (with_reducible exact Below.size (by assumption)) | (simp; done) | (simp; omega)))) | (with_reducible exact Nat.le_refl _) | omega | (with_reducible exact Below.size (by assumption)) | (simp only [World.size_alloc, World.size_setCell, World.size_drew]; omega) | (simp; done) | (simp; omega)))
    clear hb1 hb2 HR
    go_wp2_with fail
    refine (sDialAll_any _ ps s _ HR2.out HSM.out.len (by omega)).mono ?_
    rintro e w3 ⟨v2, rfl, ho2, hb3⟩
    rw [HRR.out, HZ.out] at ho2
    rw [HRR.out, HO.out]
    have HR3 := Lib.hid (HR2.out.below hb3)
    have hbel3 : Below w.heap.size w w3 := by (repeat' (first | (with_reducible exact Below.refl _ _) | (with_reducible assumption) | (with_reducible refine Below.drew ?_) | (with_reducible refine below_drewN ?_ _) | (with_reducible refine Below.alloc ?_ ?_ _) | (with_reducible refine Below.setCell ?_ ?_ _) | (refine Below.trans ?_ (Below.mono (by assumption) (by first | omega | (with_reducible exact Below.size (by assumption)) | (simp; done) | (simp; omega)))) | (with_reducible exact Nat.le_refl _) | omega | (with_reducible exact Below.size (by assumption)) | (simp only [World.size_alloc, World.size_setCell, World.size_drew]; omega) | (simp; done) | (simp; omega)))
    have ho13 := owns_below hb3 ho1
    clear hb3 HR2 ho1
    go_wp2_with fail
    refine (sameInts_any _ _ _ _ _ (Rds.ofOwns ho13) (Rds.ofOwns ho2)).mono ?_
    rintro e w4 ⟨rfl, hb4⟩
    rw [decide_eq_true rfl]
    have HR4 := Lib.hid (HR3.out.below hb4)
    have hbel4 : Below w.heap.size w w4 := by (repeat' (first | (with_reducible exact Below.refl _ _) | (with_reducible assumption) | (with_reducible refine Below.drew ?_) | (with_reducible refine below_drewN ?_ _) | (with_reducible refine Below.alloc ?_ ?_ _) | (with_reducible refine Below.setCell ?_ ?_ _) | (refine Below.trans ?_ (Below.mono (by assumption) (by first | omega | (with_reducible exact Below.size (by assumption)) | (simp; done) | (simp; omega)))) | (with_reducible exact Nat.le_refl _) | omega | (with_reducible exact Below.size (by assumption)) | (simp only [World.size_alloc, World.size_setCell, World.size_drew]; omega) | (simp; done) | (simp; omega)))
    have hr14 := (Rds.ofOwns ho13).below hb4
    clear hb4 HR3 ho13 ho2
    go_wp2_with fail
    refine (sPlanValid_any _ ps _ HR4.out HSM.out.len).mono ?_
    rintro e w5 ⟨rfl, q5, rfl⟩
    obtain ⟨d, hd⟩ : ∃ d, planB ps = d := ⟨_, rfl⟩
    have HD := Lib.hid hd
    rw [hd]
    have hbel5 : Below w.heap.size w (w4.drewN q5) := below_drewN hbel4 q5
    have HR5 := Lib.hid (HR4.out.drewN q5)
    have hr15 := hr14.drewN q5
    clear hd hbel4 hr14 HR4
    generalize w4.drewN q5 = w5 at *
    obtain ⟨va, vc, rfl, hvl, hvm, hvn, hvcell⟩ := hr15.open1
    cases d
    · have hrn : r = none := by rw [← HRR.out]; exact allR_no (.inl HD.out)
      subst hrn
      have hz0 : zs = [] := HZ.out.symm
      have ho0 : o = false := HO.out.symm
      subst hz0 ho0
      clear hvcell hr15
      go_wp2_with fail
      refine (alive_any _).mono ?_
      rintro e w6 ⟨rfl, hb6⟩
      go_wp2
      go_returns
      exact ⟨rfl, by (repeat' (first | (with_reducible exact Below.refl _ _) | (with_reducible assumption) | (with_reducible refine Below.drew ?_) | (with_reducible refine below_drewN ?_ _) | (with_reducible refine Below.alloc ?_ ?_ _) | (with_reducible refine Below.setCell ?_ ?_ _) | (refine Below.trans ?_ (Below.mono (by assumption) (by first | omega | (with_reducible exact Below.size (by assumption)) | (simp; done) | (simp; omega)))) | (with_reducible exact Nat.le_refl _) | omega | (with_reducible exact Below.size (by assumption)) | (simp only [World.size_alloc, World.size_setCell, World.size_drew]; omega) | (simp; done) | (simp; omega)))⟩
    · have hok := (planB_iff ps).1 HD.out
      have h10 := hok.1
      have HOK := Lib.hid hok
      obtain ⟨n, hn⟩ : ∃ n, ps.length = n := ⟨_, rfl⟩
      have HN := Lib.hid hn
      obtain ⟨pa, pc, rfl, _, hpm, hpn, hpcell⟩ := HR5.out.open1
      rw [hn] at hl h10 hpm hpn hpcell ⊢
      have HRN : Hid (Rds w5 (.slice pa n pc) ps.length 1 (strs ps)) := by have := HR5.out; rw [hn] at this ⊢; exact this
      obtain ⟨lz, hlz⟩ : ∃ lz, zs.length = lz := ⟨_, rfl⟩
      have HLZ := Lib.hid hlz
      rw [hlz] at hlen0 hvm hvn hvcell ⊢
      have HVC := Lib.hid hvcell
      have HPC := Lib.hid hpcell
      have hm1 : (-1 : Int) = ((0 : Nat) : Int) - 1 := by omega
      clear hok hn HR5 hvl hlz hvcell hpcell hr15 hm1
      go_wp2_with fail
      go_loop [9, 10] (fun bv kv => ∃ (m : Nat) (b : ByteArray), m ≤ n ∧ kv = .int .i64 ((m : Int) - 1) ∧ bv = .string b ∧ Hid (b.data.toList = backTo ps m) ∧ b.size ≤ 8 * (n - m)) (fun _ kv => ((intOf kv) + 1).toNat)
      case atStart => exact ⟨n, ⟨#[]⟩, by omega, by simp, rfl, by unfold Hid; rw [backTo_end _ _ (by rw [HN.out]; omega)], by simp; rfl⟩
      case round =>
        obtain ⟨m, b, hmn, rfl, rfl, hbt, hbs⟩ := hrel
        by_cases hm0 : 0 < m
        · have hp := HPC.out
          rcases hp with hp | ⟨b1, o1, rfl, hbl1, hp⟩
          · omega
          obtain ⟨t, ht⟩ : ∃ t, ps[m - 1]? = some t := ⟨_, List.getElem?_eq_getElem (by rw [HN.out]; omega)⟩
          have c1 := hp (m - 1) (by omega)
          rw [strs_at ps _ t ht] at c1
          have htl := HSM.out t (List.mem_of_getElem? ht)
          have HT := Lib.hid ht
          have e1 : ((m : Int) - 1).toNat = m - 1 := by omega
          clear hp ht
          go_wp2_with fail
          go_round
          case rel =>
            refine ⟨m - 1, b ++ t, by omega, ?_, rfl, ?_, by rw [ByteArray.size_append]; omega⟩
            · congr 1; omega
            · unfold Hid
              rw [backTo_step ps (m - 1) t HT.out, show m - 1 + 1 = m by omega, ← hbt.out]
              simp [ByteArray.data_append]
          case measure => simp [intOf]; omega
        · obtain rfl : m = 0 := by omega
          have hbd : digsB b = true := by unfold digsB; rw [hbt.out]; exact backTo_digs HOK.out 0
          have HA : Hid (allR ps b = some (downTo n)) := by
            unfold Hid
            rw [allR_yes HD.out hbd, hbt.out, dialL_backTo HOK.out, HN.out]
          have hbs2 : b.size ≤ 1048576 := by omega
          have HBS := Lib.hid hbs2
          clear hbd hbs2
          go_wp2_with fail
          refine (iDialAll_any _ ps b _ HRN.out HSM.out.len HBS.out).mono ?_
          rintro e w6 ⟨v6, rfl, ho6, hb6⟩
          rw [HA.out] at ho6
          rw [HA.out, show (some (downTo n)).isSome = true from rfl]
          rw [show (some (downTo n)).getD [] = downTo n from rfl, downTo_len] at ho6
          have hbel6 : Below w.heap.size w w6 := by (repeat' (first | (with_reducible exact Below.refl _ _) | (with_reducible assumption) | (with_reducible refine Below.drew ?_) | (with_reducible refine below_drewN ?_ _) | (with_reducible refine Below.alloc ?_ ?_ _) | (with_reducible refine Below.setCell ?_ ?_ _) | (refine Below.trans ?_ (Below.mono (by assumption) (by first | omega | (with_reducible exact Below.size (by assumption)) | (simp; done) | (simp; omega)))) | (with_reducible exact Nat.le_refl _) | omega | (with_reducible exact Below.size (by assumption)) | (simp only [World.size_alloc, World.size_setCell, World.size_drew]; omega) | (simp; done) | (simp; omega)))
          obtain ⟨ta, tc, rfl, _, htm, htn, htcell⟩ := (Rds.ofOwns ho6).open1
          have HTC := Lib.hid htcell
          have HB6 := Lib.hid hb6
          clear ho6 htcell hbt hb6
          go_wp2_with fail
          go_loop [13] (fun kv => ∃ k : Nat, k ≤ n ∧ kv = .int .i64 k) (fun kv => n - (intOf kv).toNat)
          case atStart => exact ⟨0, by omega, rfl⟩
          case round =>
            obtain ⟨k, hk, rfl⟩ := hrel
            by_cases hkn : k < n
            · have ht := HTC.out
              rcases ht with ht | ⟨b2, o2, rfl, hbl2, ht⟩
              · omega
              have c2 := ht k hkn
              rw [ints_at _ _ _ (downTo_at n k hkn)] at c2
              have hcmp : (((n : Int) - 1 - (k : Int)) != ((n : Int) - 1 - (k : Int))) = false := by simp
              clear ht
              go_wp2_with fail
              go_round
              case rel => exact ⟨k + 1, by omega, by go_num⟩
              case measure => simp [intOf]; omega
            · obtain rfl : k = n := by omega
              have hin : ∀ z ∈ zs, 0 ≤ z ∧ z < k := by
                intro z hz
                cases r with
                | none => rw [← HZ.out] at hz; simp at hz
                | some ks => rw [← HZ.out] at hz; have := (allR_text HRR.out).2 z hz; rw [HN.out] at this; exact this
              have HIN := Lib.hid hin
              clear hin
              go_wp2_with fail
              go_loop [14, 15] (fun tv iv => ∃ (i : Nat) (t : ByteArray), i ≤ lz ∧ iv = .int .i64 i ∧ tv = .string t ∧ Hid (t.data.toList = textOf ps (zs.take i)) ∧ t.size ≤ 8 * i) (fun _ iv => lz - (intOf iv).toNat)
              case atStart => exact ⟨0, ⟨#[]⟩, by omega, rfl, rfl, by simp [Hid, textOf], by simp; rfl⟩
              case round =>
                obtain ⟨i, t, hi, rfl, rfl, htt, hts⟩ := hrel
                by_cases hil : i < lz
                · have hv := HVC.out
                  rcases hv with hv | ⟨b3, o3, rfl, hbl3, hv⟩
                  · omega
                  have hp := HPC.out
                  obtain ⟨z, hz⟩ : ∃ z, zs[i]? = some z := ⟨_, List.getElem?_eq_getElem (by rw [HLZ.out]; omega)⟩
                  obtain ⟨hz0, hzk⟩ := HIN.out z (List.mem_of_getElem? hz)
                  rcases hp with hp | ⟨b4, o4, rfl, hbl4, hp⟩
                  · omega
                  obtain ⟨y, hy⟩ : ∃ y, z.toNat = y := ⟨_, rfl⟩
                  have hyk : y < k := by omega
                  have hzy : z = (y : Int) := by omega
                  obtain ⟨p, hpy⟩ : ∃ p, ps[y]? = some p := ⟨_, List.getElem?_eq_getElem (by rw [HN.out]; omega)⟩
                  subst hzy
                  have c3 : w6.cell? ⟨b3, o3 + i, none⟩ = some (.int .i64 (y : Int)) := by rw [HB6.out.cell (p := ⟨b3, o3 + i, none⟩) hbl3, hv i hil, ints_at _ _ _ hz]
                  have c4 : w6.cell? ⟨b4, o4 + y, none⟩ = some (.string p) := by rw [HB6.out.cell (p := ⟨b4, o4 + y, none⟩) hbl4, hp y hyk, strs_at _ _ _ hpy]
                  have hpl := HSM.out p (List.mem_of_getElem? hpy)
                  have HST := Lib.hid (textOf_step ps zs i (y : Int) p hz (by simpa using hpy))
                  clear hv hp hz hpy hy
                  go_wp2_with fail
                  go_round
                  case rel =>
                    refine ⟨i + 1, t ++ p, by omega, by go_num, rfl, ?_, by rw [ByteArray.size_append]; omega⟩
                    unfold Hid
                    rw [HST.out, ← htt.out]
                    simp [ByteArray.data_append]
                  case measure => simp [intOf]; omega
                · obtain rfl : i = lz := by omega
                  have hfin := htt.out
                  rw [List.take_of_length_le (by rw [HLZ.out]; omega)] at hfin
                  cases r with
                  | none =>
                    have ho0 : o = false := HO.out.symm
                    have hz0 : zs = [] := HZ.out.symm
                    have hi0 : i = 0 := by rw [← HLZ.out, hz0]; rfl
                    clear hfin
                    subst ho0 hi0
                    go_wp2
                    go_returns
                    exact ⟨rfl, hbel6⟩
                  | some ks =>
                    have ho0 : o = true := HO.out.symm
                    have hts2 : t = s := by
                      apply bytes_ext
                      rw [hfin, ← HZ.out]
                      exact (allR_text HRR.out).1
                    clear hfin
                    subst ho0
                    have hcmp := str_eq hts2
                    clear hts2
                    go_wp2
                    go_returns
                    exact ⟨rfl, hbel6⟩

end Go.Proofs.Ytcacedcbboidoaa
