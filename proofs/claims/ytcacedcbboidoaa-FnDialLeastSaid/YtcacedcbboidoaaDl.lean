/- Contract of the program's DialLeast. -/
import Derived.Test.YtcacedcbboidoaaDc
import Derived.Test.YtcacedcbboidoaaSo
import Derived.ArgAppend
set_option linter.unusedSimpArgs false
set_option linter.unusedVariables false
namespace Go.Proofs.Ytcacedcbboidoaa
open Go.RowKit

theorem keep_some {w : World} {b i : Nat} {o : Obj} (hlt : b < w.heap.size) (h : (w.cell? ⟨b, i, none⟩).isSome = true) : ((w.alloc o).cell? ⟨b, i, none⟩).isSome = true := by
  rw [World.cell?_alloc_lt _ _ _ hlt]; exact h
theorem keep_frz {w : World} {b i : Nat} {c : Array Value} {t : TypeId} (h : w.frozen? ⟨b, i, none⟩ = false) : (w.alloc (.cells c t)).frozen? ⟨b, i, none⟩ = false := by
  rw [frozen?_alloc_cells]; exact h
theorem Seg.alloc {w : World} {g off N : Nat} {zs : List Int} {o : Obj} (h : Seg w g off N zs) : Seg (w.alloc o) g off N zs := by
  obtain ⟨cur, hb, h1, h2, h3⟩ := h; exact ⟨cur, hb.alloc _, h1, h2, h3⟩
def slLen (v : Value) : Nat := match v with
  | .slice _ n _ => n
  | _ => 0
theorem Seg.blk {w : World} {g off N : Nat} {zs : List Int} (h : Seg w g off N zs) : ∃ cur, Blk w g cur 3 ∧ cur.size = N := by
  obtain ⟨cur, hb, h1, _⟩ := h; exact ⟨cur, hb, h1⟩
theorem Seg.some {w : World} {g off N i : Nat} {zs : List Int} (h : Seg w g off N zs) (hi : i < N) : (w.cell? ⟨g, i, none⟩).isSome = true := by
  obtain ⟨cur, hb, h1, _⟩ := h
  rw [hb.at, Array.getElem?_eq_getElem (by omega)]; rfl
theorem Seg.ofOwn {w : World} {g n cap : Nat} {zs : List Int} (hl : zs.length = n) (h : Own w g n cap 3 1 (ints zs)) : Seg w g 0 cap zs := by
  obtain ⟨cur, hb, h1, h2, h3, h4⟩ := h.blk
  refine ⟨cur, hb, by omega, by omega, fun i z hz => ?_⟩
  have hi := (List.getElem?_eq_some_iff.1 hz).1
  have := ints_at zs i z hz
  rw [← h4, List.getElem?_take_of_lt (by omega), Array.getElem?_toList] at this
  rw [Nat.zero_add]; exact this
/-- The first j are left out, and one is laid behind the others. -/
theorem Seg.shift {w : World} {g off N : Nat} {zs : List Int} (h : Seg w g off N zs) {j : Nat} {z : Int} (hj : j ≤ zs.length) (hN : off + zs.length + 1 ≤ N) : Seg (w.setCell ⟨g, off + zs.length, none⟩ (.int .i64 z)) g (off + j) N (zs.drop j ++ [z]) := by
  obtain ⟨cur, hb, h1, h2, h3⟩ := h
  refine ⟨cur.setIfInBounds (off + zs.length) (.int .i64 z), hb.set rfl, by simpa using h1, by simp; omega, fun i y hi => ?_⟩
  by_cases e : i < zs.length - j
  · rw [List.getElem?_append_left (by rw [List.length_drop]; exact e), List.getElem?_drop] at hi
    rw [Array.getElem?_setIfInBounds_ne (by omega), show off + j + i = off + (j + i) by omega]
    exact h3 _ y hi
  · rw [List.getElem?_append_right (by rw [List.length_drop]; omega), List.length_drop] at hi
    have e2 : i - (zs.length - j) = 0 := by
      have := (List.getElem?_eq_some_iff.1 hi).1
      simp at this; omega
    rw [e2] at hi
    simp at hi
    subst hi
    rw [show off + j + i = off + zs.length by omega, Array.getElem?_setIfInBounds_self_of_lt (by omega)]
theorem so_split {ys : List Int} (h : SoTo ys ys.length) (j : Nat) : ∀ x ∈ ys.take j, ∀ y ∈ ys.drop j, x ≤ y := by
  intro x hx y hy
  obtain ⟨a, ha⟩ := List.mem_iff_getElem?.1 hx
  obtain ⟨b, hb⟩ := List.mem_iff_getElem?.1 hy
  have ha1 := (List.getElem?_eq_some_iff.1 ha).1
  rw [List.length_take] at ha1
  rw [List.getElem?_take_of_lt (by omega)] at ha
  rw [List.getElem?_drop] at hb
  have hb1 := (List.getElem?_eq_some_iff.1 hb).1
  have := h a (j + b) (by omega) hb1
  simpa [List.getD_eq_getElem?_getD, ha, hb] using this
theorem padN_first (n : Nat) (h : 2 ≤ n) : 2 + (n - 2) % 3 = 4 - padN n ∧ padN n ≤ 2 := by unfold padN; omega
theorem pad_perm {zs ys : List Int} (h : ys.Perm zs) (k j : Nat) : (zs ++ List.replicate k (0 : Int)).Perm ((List.replicate k 0 ++ ys.take j) ++ ys.drop j) := by
  rw [List.append_assoc, List.take_append_drop]
  exact ((h.symm.append_right _).trans List.perm_append_comm)

set_option maxRecDepth 100000 in
set_option maxHeartbeats 4000000 in
theorem iDialLeast_any (v : Value) (zs : List Int) (w : World) (hv : Rds w v zs.length 1 (ints zs)) :
    Calls Try.prog 69 #[v] w (LeastOut zs w) := by
  obtain ⟨i0, hi, hz0, hz1, hz2⟩ := info_parts infoI
  have HV := Lib.hid hv
  clear hv
  go_enter Try.func69, Try.ntmps69
  go_wp2_with fail
  refine (iOften_any _ zs _ HV.out).mono ?_
  rintro e w1 ⟨rfl, rfl⟩
  obtain ⟨o, ho⟩ : ∃ o, oftB zs = o := ⟨_, rfl⟩
  have HO := Lib.hid ho
  rw [ho]
  clear ho
  cases o
  · go_wp2
    go_returns
    exact ⟨-1, rfl, ⟨fun _ => rfl, fun h => by rw [HO.out] at h; cases h⟩, Below.refl _ _⟩
  · obtain ⟨h2, h10, hzz⟩ := oftB_mem HO.out
    have HZZ := Lib.hid hzz
    have hib := isum_bound hzz
    obtain ⟨hp1, hp2⟩ := padN_first zs.length h2
    have hpm := padN_mod zs.length
    clear hzz
    go_wp2_with fail
    refine (cloneInt_any _ zs _ HV.out (by omega) (by omega)).mono ?_
    rintro e w1 ⟨v1, rfl, ho1, hb1⟩
    obtain ⟨n, hn⟩ : ∃ n, zs.length = n := ⟨_, rfl⟩
    have HN := Lib.hid hn
    rw [hn] at h2 h10 hp1 hp2 hpm ho1 hib
    obtain ⟨pd, hpd⟩ : ∃ pd, padN n = pd := ⟨_, rfl⟩
    have HPD := Lib.hid hpd
    rw [hpd] at hp1 hp2 hpm
    have hrow : ∃ g c, v1 = .slice (some ⟨g, 0, none⟩) n c ∧ w.heap.size ≤ g ∧ Own w1 g n c 3 1 (ints zs) := by
      rcases ho1.2 with ⟨_, h3⟩ | ⟨g, cap, cur, rfl, hb, r⟩
      · omega
      · exact ⟨g, cap, rfl, hb, (Own.of ho1).1⟩
    obtain ⟨g, c, rfl, hg, hO⟩ := hrow
    have hcaps := hO.caps
    have hseg := Seg.ofOwn hn hO
    have hjj : (2 : Int) + ((n : Int) - 2) % 3 = ((4 - pd : Nat) : Int) := by omega
    have HJJ := Lib.hid hjj
    clear ho1 hn hpd hO hjj
    go_wp2_with fail
    rw [HJJ.out]
    go_loopw [3, 4, 5] (fun gv jv sv wr => ∃ (g off m cp N j : Nat) (ys : List Int) (s : Int), gv = .slice (some ⟨g, off, none⟩) m cp ∧ jv = .int .i64 j ∧ sv = .int .i64 s ∧ Hid (ys.length = m) ∧ 1 ≤ m ∧ m ≤ 10 ∧ m ≤ cp ∧ off + cp ≤ N ∧ N ≤ maxLen ∧ 2 ≤ j ∧ j ≤ 4 ∧ (m + (4 - j)) % 3 = 1 ∧ (m = 1 → j = 4) ∧ Seg wr g off N ys ∧ w.heap.size ≤ g ∧ Below w.heap.size w wr ∧ Hid (∀ y ∈ ys, 0 ≤ y) ∧ Hid (isum ys = isum zs) ∧ 0 ≤ s ∧ s + 990 * m ≤ 9900 ∧ Hid (∀ t, HR (ys ++ List.replicate (4 - j) 0) t → HR (zs ++ List.replicate pd 0) (s + t))) (fun gv _ _ _ => slLen gv)
    case atStart => exact ⟨g, 0, n, c, c, 4 - pd, zs, 0, rfl, rfl, rfl, HN, by omega, h10, by omega, by omega, by omega, by omega, by omega, by omega, by omega, hseg, hg, hb1, fun y hy => (HZZ.out y hy).1, rfl, by omega, by omega, by unfold Hid; rw [show 4 - (4 - pd) = pd by omega]; intro t ht; simpa using ht⟩
    case round =>
      clear hseg hg hb1 hcaps
      obtain ⟨g, off, m, cp, N, j, ys, s, rfl, rfl, rfl, HM, hm1, hm10, hmc, hoc, hNm, hj2, hj4, hjm, hm1j, hseg, hg, hbel, hnn, hsum, hs0, hs1, hinv⟩ := hrel
      have hz := hbel.size
      by_cases hgo : 1 < m
      · have hjle : j ≤ m := by omega
        have hN2 : N ≤ 9223372036854775807 := by unfold maxLen at hNm; exact hNm
        have hHM : ys.length = m := HM.out
        have hsrt := sort_any g off N cp ys
        rw [hHM] at hsrt
        have hsz := hsrt wr hseg (by omega) hmc hN2
        have HS := Lib.hid hsz
        clear hsrt hsz hHM
        go_wp2_with fail
        refine HS.out.mono ?_
        rintro e w2 ⟨xs, rfl, hperm, hsorted, hseg2, hgr2⟩
        have hxl : xs.length = m := by rw [hperm.length_eq, HM.out]
        have HXL := Lib.hid hxl
        have HPERM := Lib.hid hperm
        have hso : SoTo xs xs.length := by rw [hperm.length_eq]; exact hsorted
        have HSO := Lib.hid hso
        have hbel2 : Below w.heap.size w w2 := below_gb hgr2 hz hg hbel
        have hsz2 := hbel2.size
        have hnn2 : ∀ y ∈ xs, 0 ≤ y := fun y hy => hnn.out y (hperm.mem_iff.1 hy)
        have HNN := Lib.hid hnn2
        have HIS : Hid (isum xs = isum zs) := by unfold Hid; rw [isum_perm hperm]; exact hsum.out
        have hpart : ∀ k, 0 ≤ isum (xs.take k) ∧ isum (xs.take k) ≤ 990 := by
          intro k
          have e : isum (xs.take k) + isum (xs.drop k) = isum xs := by rw [← isum_app, List.take_append_drop]
          have e1 := isum_nonneg (xs := xs.take k) (fun y hy => hnn2 y (List.mem_of_mem_take hy))
          have e2 := isum_nonneg (xs := xs.drop k) (fun y hy => hnn2 y (List.mem_of_mem_drop hy))
          have e3 := HIS.out
          omega
        have HPART := Lib.hid hpart
        have HSEG := Lib.hid hseg2
        have hglt := hseg2.lt
        have hji : (j : Int) ≤ (cp : Int) := by omega
        have hj0 : (0 : Int) ≤ (j : Int) := by omega
        clear hxl hperm hso hnn2 hpart hseg2 hgr2 hsorted hseg
        go_wp2_with fail
        go_loop [6, 28] (fun jo ki => ∃ (k : Nat) (x : Int), k ≤ j ∧ ki = .int .i64 k ∧ jo = .int .i64 x ∧ 0 ≤ x ∧ x ≤ 990 ∧ Hid (x = isum (xs.take k))) (fun _ ki => j - (intOf ki).toNat)
        case atStart => exact ⟨0, 0, by omega, rfl, rfl, by omega, by omega, by simp [Hid, isum]⟩
        case round =>
          obtain ⟨k, x, hk, rfl, rfl, hx0, hx1, hx⟩ := hrel
          by_cases hkj : k < j
          · obtain ⟨y, hy⟩ : ∃ y, xs[k]? = some y := ⟨_, List.getElem?_eq_getElem (by rw [HXL.out]; omega)⟩
            have q1 := HSEG.out.at hy
            have hst := isum_step xs k y hy
            have hpk := HPART.out (k + 1)
            rw [hst, ← hx.out] at hpk
            obtain ⟨hpk1, hpk2⟩ := hpk
            have HST := Lib.hid hst
            clear hy hst
            go_wp2_with fail
            go_round
            case rel => exact ⟨k + 1, x + y, by omega, by go_num, rfl, by omega, by omega, by unfold Hid; rw [HST.out, ← hx.out]⟩
            case measure => simp [intOf]; omega
          · obtain rfl : k = j := by omega
            obtain ⟨o2, hA, ho2⟩ : ∃ o2, (if cp = k then some (⟨g, off, none⟩ : Addr) else some ⟨g, off + k, none⟩) = some ⟨g, o2, none⟩ ∧ (k < cp → o2 = off + k) := by
              by_cases hck : cp = k
              · exact ⟨off, by rw [if_pos hck], fun h => by omega⟩
              · exact ⟨off + k, by rw [if_neg hck], fun _ => rfl⟩
            have hdrop : ∀ i u, (ints (xs.drop k))[i]? = some u → w2.cell? ⟨g, o2 + i, none⟩ = some u := by
              intro i u hu
              have hi' := (List.getElem?_eq_some_iff.1 hu).1
              rw [ints_len, List.length_drop, HXL.out] at hi'
              obtain ⟨y, hy⟩ : ∃ y, xs[k + i]? = some y := ⟨_, List.getElem?_eq_getElem (by rw [HXL.out]; omega)⟩
              have := ints_at (xs.drop k) i y (by rw [List.getElem?_drop]; exact hy)
              rw [hu] at this
              rw [ho2 (by omega), show off + k + i = off + (k + i) by omega, HSEG.out.at hy, this]
            have HDR := Lib.hid hdrop
            have HLD : Hid ((ints (xs.drop k)).length = (m - k) * 1) := by unfold Hid; rw [ints_len, List.length_drop, HXL.out, Nat.mul_one]
            have HPOS := Lib.hid ho2
            have HNEW : Hid (∀ t, HR ((xs.drop k ++ [x]) ++ List.replicate (4 - 4) 0) t → HR (zs ++ List.replicate pd 0) (s + x + t)) := by
              have hl4 : (List.replicate (4 - k) (0 : Int) ++ xs.take k).length = 4 := by rw [List.length_append, List.length_replicate, List.length_take, HXL.out]; omega
              have hord : ∀ a ∈ List.replicate (4 - k) (0 : Int) ++ xs.take k, ∀ b ∈ xs.drop k, a ≤ b := by
                intro a ha b hb
                rcases List.mem_append.1 ha with ha | ha
                · rw [(List.mem_replicate.1 ha).2]; exact HNN.out b (List.mem_of_mem_drop hb)
                · exact so_split HSO.out k a ha b hb
              have h5 := hr_round hinv.out (pad_perm HPERM.out (4 - k) k) hl4 hord
              have h6 : isum (List.replicate (4 - k) (0 : Int) ++ xs.take k) = x := by rw [isum_app, isum_zeros, hx.out]; omega
              rw [h6] at h5
              unfold Hid
              intro t ht
              exact h5 t (by simpa using ht)
            have HSUM : Hid (isum (xs.drop k ++ [x]) = isum zs) := by
              unfold Hid
              have e : isum (xs.take k) + isum (xs.drop k) = isum xs := by rw [← isum_app, List.take_append_drop]
              rw [isum_app, ← HIS.out, ← e, hx.out]
              simp [isum]; omega
            have HNN2 : Hid (∀ y ∈ xs.drop k ++ [x], 0 ≤ y) := by
              intro y hy
              rcases List.mem_append.1 hy with hy | hy
              · exact HNN.out y (List.mem_of_mem_drop hy)
              · simp at hy; omega
            have HLEN : Hid ((xs.drop k ++ [x]).length = m - k + 1) := by unfold Hid; rw [List.length_append, List.length_drop, HXL.out]; rfl
            clear hdrop ho2
            go_wp2_with (at_builtin; refine wpList_append_arg _ rfl _ _ 23 rfl 3 i0 (.int .i64 0) 1 8 Try.underlying23 hi hz0 hz1 hz2 rfl (by decide) g o2 (m - k) (cp - k) (ints (xs.drop k)) rfl HLD.out (by intro i u hu; exact keep_alloc (HDR.out i u hu)) ⟨w2.heap.size, 0, none⟩ 1 1 [.int .i64 x] rfl rfl (by intro i u hu; rw [Addr.add_spot]; exact keep_new (by simp) (by simpa using hu)) (by intro u hu; simp at hu; subst hu; rfl) (by intro hroom i hi'; simp at hi'; subst hi'; have e2 := HPOS.out (by omega); rw [e2, Nat.mul_one, Nat.add_zero, show off + k + (m - k) = off + m by omega]; exact ⟨keep_some (by simpa using hglt) (HSEG.out.some (by omega)), keep_frz (HSEG.out.free _)⟩) (by unfold maxLen; omega) (by omega) ?_ ?_; all_goals intro hcase)
            · go_roundw
              case rel =>
                have e2 := HPOS.out (by omega)
                have hsh := (HSEG.out.alloc (o := .cells #[.int .i64 x] 3)).shift (j := k) (z := x) (by rw [HXL.out]; omega) (by rw [HXL.out]; omega)
                rw [HXL.out] at hsh
                refine ⟨g, off + k, m - k + 1, cp - k, N, 4, xs.drop k ++ [x], s + x, by rw [e2], by go_num, rfl, HLEN, by omega, by omega, by omega, by omega, hNm, by omega, by omega, by omega, by omega, ?_, hg, ?_, HNN2, HSUM, by omega, by omega, HNEW⟩
                · rw [e2, show off + k + (m - k) = off + m by omega]; exact hsh
                · exact (hbel2.alloc hsz2 _).setCell hg _
              case measure => simp [slLen]; omega
            · intro v' w3 hown3 hgrow3
              obtain ⟨g3, c3, rfl, hg3, hO3⟩ : ∃ g3 c3, v' = .slice (some ⟨g3, 0, none⟩) (m - k + 1) c3 ∧ w2.heap.size ≤ g3 ∧ Own w3 g3 (m - k + 1) c3 3 1 (ints (xs.drop k ++ [x])) := by
                rw [show ints (xs.drop k) ++ [Value.int .i64 x] = ints (xs.drop k ++ [x]) by simp [ints]] at hown3
                rcases hown3.2 with ⟨_, h3⟩ | ⟨g3, cap, cur, rfl, hb, r⟩
                · omega
                · exact ⟨g3, cap, rfl, by omega, (Own.of hown3).1⟩
              have hcaps3 := hO3.caps
              have hseg3 := Seg.ofOwn HLEN.out hO3
              have hbel3 : Below w.heap.size w w3 := (hbel2.alloc hsz2 _).grown hgrow3 (by simp; omega) (fun k hk => by cases hk)
              clear hown3 hgrow3 hO3
              go_wp2_with fail
              go_roundw
              case rel => exact ⟨g3, 0, m - k + 1, c3, c3, 4, xs.drop k ++ [x], s + x, rfl, by go_num, rfl, HLEN, by omega, by omega, by omega, by omega, by omega, by omega, by omega, by omega, by omega, hseg3, by omega, hbel3, HNN2, HSUM, by omega, by omega, HNEW⟩
              case measure => simp [slLen]; omega
      · obtain rfl : m = 1 := by omega
        obtain rfl : j = 4 := hm1j rfl
        have hHM := HM.out
        obtain ⟨y, rfl⟩ : ∃ y, ys = [y] := by
          match ys, hHM with
          | [y], _ => exact ⟨y, rfl⟩
        go_wp2_with fail
        go_returns
        refine ⟨s, rfl, ⟨fun h => (by rw [HO.out] at h; cases h), fun _ => ⟨?_, hs0, by omega⟩⟩, hbel⟩
        have h7 := hinv.out 0 (by simpa using HR.one y)
        unfold Huf
        rw [HN.out, HPD.out]
        simpa using h7

end Go.Proofs.Ytcacedcbboidoaa
