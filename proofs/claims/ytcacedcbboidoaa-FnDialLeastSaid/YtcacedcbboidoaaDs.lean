/- Contract of the reference's DialLeast. -/
import Derived.Test.YtcacedcbboidoaaDc
import Derived.Test.YtcacedcbboidoaaStep
import Derived.Test.YtcacedcbboidoaaDl
import Derived.Deep.RegionHeld3
set_option linter.unusedSimpArgs false
set_option linter.unusedVariables false
namespace Go.Proofs.Ytcacedcbboidoaa
open Go.RowKit

theorem perm_take {us : List Int} {b : Nat} {y : Int} (h : us[b]? = some y) : us.Perm (y :: us.eraseIdx b) := by
  obtain ⟨hb, hy⟩ := List.getElem?_eq_some_iff.1 h
  have e : us = us.take b ++ y :: us.drop (b + 1) := by
    rw [← hy, ← List.drop_eq_getElem_cons hb, List.take_append_drop]
  rw [List.eraseIdx_eq_take_drop_succ]
  exact (List.Perm.of_eq e).trans List.perm_middle
theorem own_more {w : World} {base n : Nat} {us : List Int} {z : Int} {v : Value} (h : w.ownsRow base 3 1 v (n + 1) (ints us ++ [.int .i64 z])) : ∃ g c, v = .slice (some ⟨g, 0, none⟩) (n + 1) c ∧ base ≤ g ∧ Own w g (n + 1) c 3 1 (ints (us ++ [z])) := by
  rw [show ints us ++ [Value.int .i64 z] = ints (us ++ [z]) by simp [ints]] at h
  rcases h.2 with ⟨_, h3⟩ | ⟨g3, cap, cur, rfl, hb, r⟩
  · omega
  · exact ⟨g3, cap, rfl, by omega, (Own.of h).1⟩
/-- b is a least one among the first k. -/
def MinTo (us : List Int) (b k : Nat) : Prop := ∀ i y z, i < k → us[b]? = some y → us[i]? = some z → y ≤ z
theorem MinTo.start (us : List Int) : MinTo us 0 1 := by
  intro i y z hi hy hz
  obtain rfl : i = 0 := by omega
  rw [hy] at hz; cases hz; omega
theorem MinTo.step {us : List Int} {b k : Nat} {x y : Int} (h : MinTo us b k) (hk : us[k]? = some x) (hb : us[b]? = some y) : (x < y → MinTo us k (k + 1)) ∧ (¬ x < y → MinTo us b (k + 1)) := by
  refine ⟨fun hl i u z hi hu hz => ?_, fun hl i u z hi hu hz => ?_⟩
  · rw [hk] at hu; cases hu
    by_cases e : i = k
    · subst e; rw [hk] at hz; cases hz; omega
    · have := h i y z (by omega) hb hz; omega
  · rw [hb] at hu; cases hu
    by_cases e : i = k
    · subst e; rw [hk] at hz; cases hz; omega
    · exact h i y z (by omega) hb hz
/-- The four least, so far. -/
def Took (us four rest : List Int) : Prop := us.Perm (four ++ rest) ∧ ∀ x ∈ four, ∀ y ∈ rest, x ≤ y
theorem Took.step {us four rest : List Int} {b n : Nat} {y : Int} (h : Took us four rest) (hb : rest[b]? = some y) (hm : MinTo rest b rest.length) : Took us (four ++ [y]) (rest.eraseIdx b) := by
  have hp := perm_take hb
  refine ⟨?_, fun x hx u hu => ?_⟩
  · rw [List.append_assoc]
    exact h.1.trans (List.Perm.append_left _ (by simpa using hp))
  · have hu' : u ∈ rest := hp.mem_iff.2 (by simp [hu])
    rcases List.mem_append.1 hx with hx | hx
    · exact h.2 x hx u hu'
    · simp at hx
      subst hx
      obtain ⟨i, hi⟩ := List.mem_iff_getElem?.1 hu'
      exact hm i _ u (List.getElem?_eq_some_iff.1 hi).1 hb hi
theorem ints_one (us : List Int) : ∀ u ∈ ints us, u.oneCell' = true := by
  intro u hu; obtain ⟨q, _, rfl⟩ := List.mem_map.1 hu; rfl

set_option maxRecDepth 100000 in
set_option maxHeartbeats 4000000 in
theorem sDialLeast_any (v : Value) (zs : List Int) (w : World) (hv : Rds w v zs.length 1 (ints zs)) :
    Calls Try.prog 68 #[v] w (LeastOut zs w) := by
  obtain ⟨i0, hi, hz0, hz1, hz2⟩ := info_parts infoI
  have HV := Lib.hid hv
  obtain ⟨a, c0, rfl, hl1, hm1, hn1, hc1⟩ := hv.open1
  unfold maxLen at hm1
  clear hv hl1
  go_enter Try.func68, Try.ntmps68
  go_wp2_with fail
  refine (sOften_any _ zs _ HV.out).mono ?_
  rintro e w1 ⟨rfl, rfl⟩
  obtain ⟨o, ho⟩ : ∃ o, oftB zs = o := ⟨_, rfl⟩
  have HO := Lib.hid ho
  rw [ho]
  clear ho
  cases o
  · go_wp2
    go_returns
    exact ⟨-1, rfl, ⟨fun _ => rfl, fun h => by rw [HO.out] at h; cases h⟩, Below.refl _ _⟩
  · obtain ⟨h2, h10, hzz⟩ := oftB_mem HO.out
    have HZZ := Lib.hid hzz
    have hib := isum_bound hzz
    have hi0 := isum_nonneg (fun y hy => (hzz y hy).1)
    have hpm := padN_mod zs.length
    have hp2 : padN zs.length ≤ 2 := by unfold padN; omega
    obtain ⟨n, hn⟩ : ∃ n, zs.length = n := ⟨_, rfl⟩
    have HN := Lib.hid hn
    rw [hn] at h2 h10 hp2 hpm hib hc1 hm1 hn1 ⊢
    obtain ⟨pd, hpd⟩ : ∃ pd, padN n = pd := ⟨_, rfl⟩
    have HPD := Lib.hid hpd
    rw [hpd] at hp2 hpm
    rcases hc1 with hc1 | ⟨b, off, rfl, hb, hc1⟩
    · omega
    have HC := Lib.hid hc1
    have HIB : Hid (isum zs ≤ 990) := by unfold Hid; omega
    have HI0 := Lib.hid hi0
    clear hzz hc1 hn hpd hib hi0
    go_wp2_with (at_builtin; refine wpList_append_own _ rfl _ _ 23 rfl w.heap.size 3 i0 _ 1 8 Try.underlying23 hi hz0 hz1 hz2 rfl (by decide) _ 0 [] rfl (World.ownsRow_lit _ #[] 0 (Nat.le_refl _) (by unfold maxLen; omega) rfl) ⟨b, off, none⟩ n _ (ints zs) rfl (by rw [ints_len, HN.out, Nat.mul_one]) (by intro j u hu; rw [Addr.add_spot]; refine keep_alloc ?_; have hj := (List.getElem?_eq_some_iff.1 hu).1; rw [ints_len, HN.out] at hj; rw [HC.out j hj]; exact hu) (ints_one zs) (by unfold maxLen; omega) (by omega) (by simp) ?_; intro v' w3 hown' hgrow _)
    simp only [Nat.zero_add, List.nil_append] at hown'
    have hB : Below w.heap.size w w3 := ((Below.refl w.heap.size w).alloc (Nat.le_refl _) _).grown hgrow (by simp) (by intro k hk; have e : w.heap.size = k := Option.some.inj hk; omega)
    obtain ⟨g, c, rfl, hg, hO⟩ : ∃ g c, v' = .slice (some ⟨g, 0, none⟩) n c ∧ w.heap.size ≤ g ∧ Own w3 g n c 3 1 (ints zs) := by
      rcases hown'.2 with ⟨_, h3⟩ | ⟨g, cap, cur, rfl, hb, r⟩
      · omega
      · exact ⟨g, cap, rfl, hb, (Own.of hown').1⟩
    clear hgrow hown'
    go_wp2_with fail
    go_loopw [3] (fun gv wr => ∃ (k g c : Nat), k ≤ pd ∧ gv = .slice (some ⟨g, 0, none⟩) (n + k) c ∧ w.heap.size ≤ g ∧ Own wr g (n + k) c 3 1 (ints (zs ++ List.replicate k 0)) ∧ Below w.heap.size w wr) (fun gv _ => n + pd - slLen gv)
    case atStart => exact ⟨0, g, c, by omega, rfl, hg, by simpa using hO, hB⟩
    case round =>
      clear hO hB hg
      obtain ⟨k, g, c, hk, rfl, hg, hO, hbel⟩ := hrel
      have hz := hbel.size
      have hown := hO.back hg
      by_cases hkp : k < pd
      · have hd : (((n : Int) + (k : Int)) % 3 != 1) = true := by simp; omega
        go_wp2_with (at_builtin; refine wpList_append_own _ rfl _ _ 23 rfl w.heap.size 3 i0 (.int .i64 0) 1 8 Try.underlying23 hi hz0 hz1 hz2 rfl (by decide) _ _ _ rfl (hown.alloc _) ⟨wr.heap.size, 0, none⟩ 1 1 [.int .i64 0] rfl rfl (by intro j u hj; rw [Addr.add_spot]; exact keep_new (by simp) (by simpa using hj)) (by intro u hu; simp at hu; subst hu; rfl) (by unfold maxLen; omega) (by omega) (by simp; omega) ?_; intro v' w1 hown' hgrow _)
        have hbel' := below_push hbel (Nat.le_refl _) hown hgrow
        obtain ⟨g1, c1, rfl, hg1, hO1⟩ := own_more hown'
        clear hown' hgrow hown
        go_wp2_with fail
        go_roundw
        case rel => exact ⟨k + 1, g1, c1, by omega, by go_num, hg1, by rw [List.replicate_succ', ← List.append_assoc]; exact hO1, hbel'⟩
        case measure => simp [slLen]; omega
      · obtain rfl : k = pd := by omega
        have hd : (((n : Int) + (k : Int)) % 3 != 1) = false := by simp; omega
        have hlen0 : Hid ((zs ++ List.replicate k 0).length = n + k) := by unfold Hid; rw [List.length_append, List.length_replicate, HN.out]
        have hnn0 : Hid (∀ y ∈ zs ++ List.replicate k 0, 0 ≤ y) := padded_nonneg (fun z hz => (HZZ.out z hz).1) k
        have hsum0 : Hid (isum (zs ++ List.replicate k 0) = isum zs) := by unfold Hid; rw [isum_app, isum_zeros]; omega
        clear hown
        go_wp2_with fail
        go_loopw [3, 4] (fun gv sv wr => ∃ (m g c : Nat) (us : List Int) (s : Int), gv = .slice (some ⟨g, 0, none⟩) m c ∧ sv = .int .i64 s ∧ Hid (us.length = m) ∧ m % 3 = 1 ∧ m ≤ 12 ∧ w.heap.size ≤ g ∧ Own wr g m c 3 1 (ints us) ∧ Below w.heap.size w wr ∧ Hid (∀ y ∈ us, 0 ≤ y) ∧ Hid (isum us = isum zs) ∧ 0 ≤ s ∧ s + 330 * m ≤ 3960 ∧ Hid (∀ t, HR us t → HR (zs ++ List.replicate k 0) (s + t))) (fun gv _ _ => slLen gv)
        case atStart => exact ⟨n + k, g, c, _, 0, rfl, rfl, hlen0, by omega, by omega, hg, hO, hbel, hnn0, hsum0, by omega, by omega, by unfold Hid; intro t ht; simpa using ht⟩
        case round =>
          clear hO hbel hg hz
          obtain ⟨m, g, c, us, s, rfl, rfl, HM, hm3, hm12, hg, hO, hbel, hnn, hsum, hs0, hs1, hinv⟩ := hrel
          obtain ⟨wo, rfl⟩ : ∃ wo : World, wo = wr := ⟨_, rfl⟩
          by_cases hgo : 1 < m
          · have hm4 : 4 ≤ m := by omega
            have hd1 : decide ((1 : Int) < (m : Int)) = true := by simp; omega
            go_wp2_with fail
            go_loopw [3, 5, 6] (fun gv jv iv wi => ∃ (i g c : Nat) (four rest : List Int) (x : Int), i ≤ 4 ∧ gv = .slice (some ⟨g, 0, none⟩) (m - i) c ∧ iv = .int .i64 i ∧ jv = .int .i64 x ∧ Hid (rest.length = m - i) ∧ Hid (four.length = i) ∧ Hid (Took us four rest) ∧ Hid (isum four = x) ∧ 0 ≤ x ∧ x ≤ 990 ∧ w.heap.size ≤ g ∧ Own wi g (m - i) c 3 1 (ints rest) ∧ Below w.heap.size w wi) (fun _ _ iv _ => 4 - (intOf iv).toNat)
            case atStart => exact ⟨0, g, c, [], us, 0, by omega, rfl, rfl, rfl, HM, rfl, by unfold Hid; exact ⟨List.Perm.refl _, fun x hx => by cases hx⟩, rfl, by omega, by omega, hg, hO, hbel⟩
            case round =>
              clear hO hbel hg
              obtain ⟨i, g, c, four, rest, x, hi4, rfl, rfl, rfl, HR, HF, HT, HX, hx0, hx1, hg, hO, hbel⟩ := hrel
              have hz := hbel.size
              obtain ⟨wi, rfl⟩ : ∃ wi : World, wi = wr := ⟨_, rfl⟩
              by_cases hil : i < 4
              · have hd4 : decide ((i : Int) < 4) = true := by simp; omega
                obtain ⟨L, hL⟩ : ∃ L, m - i = L := ⟨_, rfl⟩
                have hL1 : 1 ≤ L := by omega
                have hL12 : L ≤ 12 := by omega
                have hLn : m - (i + 1) = L - 1 := by omega
                rw [hL] at HR hO ⊢
                clear hL
                have HOW := Lib.hid hO
                have hcaps := hO.caps
                have hglt := hO.lt
                unfold maxLen at hcaps
                clear hO
                go_wp2_with fail
                go_loopw [7, 8] (fun bv kv wr => ∃ (b k q : Nat), b < L ∧ 1 ≤ k ∧ k ≤ L ∧ bv = .int .i64 b ∧ kv = .int .i64 k ∧ Hid (MinTo rest b k) ∧ wr = wi.drewN q) (fun _ kv _ => L - (intOf kv).toNat)
                case atStart => exact ⟨0, 1, 0, by omega, by omega, by omega, rfl, rfl, MinTo.start _, rfl⟩
                case round =>
                  obtain ⟨b, k, q, hb, hk1, hk, rfl, rfl, hmin, rfl⟩ := hrel
                  by_cases hkL : k < L
                  · obtain ⟨y, hy⟩ : ∃ y, rest[b]? = some y := ⟨_, List.getElem?_eq_getElem (by rw [HR.out]; omega)⟩
                    obtain ⟨u, hu⟩ : ∃ u, rest[k]? = some u := ⟨_, List.getElem?_eq_getElem (by rw [HR.out]; omega)⟩
                    have q1 : wi.cell? ⟨g, b, none⟩ = some (.int .i64 y) := by rw [HOW.out.cell _ (by omega)]; exact ints_at _ _ _ hy
                    have q2 : wi.cell? ⟨g, k, none⟩ = some (.int .i64 u) := by rw [HOW.out.cell _ (by omega)]; exact ints_at _ _ _ hu
                    obtain ⟨hst1, hst2⟩ := hmin.out.step hu hy
                    have HS1 := Lib.hid hst1
                    have HS2 := Lib.hid hst2
                    clear hy hu hst1 hst2
                    by_cases hlt : u < y
                    · go_wp2_with fail
                      go_quiet (fail)
                      go_wp2
                      go_roundw
                      case rel => exact ⟨k, k + 1, _, by omega, by omega, by omega, rfl, by go_num, HS1.out hlt, rfl⟩
                      case measure => simp [intOf]; omega
                    · go_wp2_with fail
                      go_quiet (fail)
                      go_wp2
                      go_roundw
                      case rel => exact ⟨b, k + 1, _, hb, by omega, by omega, rfl, by go_num, HS2.out hlt, rfl⟩
                      case measure => simp [intOf]; omega
                  · obtain rfl : k = L := by omega
                    obtain ⟨y, hy⟩ : ∃ y, rest[b]? = some y := ⟨_, List.getElem?_eq_getElem (by rw [HR.out]; omega)⟩
                    have q1 : (wi.drewN q).cell? ⟨g, b, none⟩ = some (.int .i64 y) := by
                      show wi.cell? ⟨g, b, none⟩ = _
                      rw [HOW.out.cell _ (by omega)]; exact ints_at _ _ _ hy
                    have hmin' := hmin.out
                    rw [← HR.out] at hmin'
                    have HT2 := Lib.hid (HT.out.step (n := 0) hy hmin')
                    have hsp := isum_perm HT2.out.1
                    rw [isum_app, isum_app, HX.out, hsum.out] at hsp
                    have hy0 : 0 ≤ y := hnn.out y (HT.out.1.mem_iff.2 (List.mem_append.2 (.inr (List.mem_of_getElem? hy))))
                    have hre : 0 ≤ isum (rest.eraseIdx b) := isum_nonneg (fun u hu => hnn.out u (HT2.out.1.mem_iff.2 (List.mem_append.2 (.inr hu))))
                    have hone : isum [y] = y := by simp [isum]
                    have hxy : x + y ≤ 990 := by have := HIB.out; omega
                    have HX2 : Hid (isum (four ++ [y]) = x + y) := by unfold Hid; rw [isum_app, HX.out, hone]
                    have HF2 : Hid ((four ++ [y]).length = i + 1) := by unfold Hid; rw [List.length_append, HF.out]; rfl
                    have hel : (rest.eraseIdx b).length = k - 1 := by rw [List.length_eraseIdx_of_lt (by rw [HR.out]; exact hb), HR.out]
                    have HEL := Lib.hid hel
                    have HO5 : Hid (Own (wi.drewN q) g k c 3 1 (ints rest)) := HOW.out
                    have hbel5 : Below w.heap.size w (wi.drewN q) := below_drewN hbel q
                    clear hsp hre hone hel hmin' hbel hglt hy
                    generalize wi.drewN q = w5 at *
                    have hz5 := hbel5.size
                    have hglt := HO5.out.lt
                    obtain ⟨o2, hA, hRB⟩ : ∃ o2, (if c = b + 1 then some (⟨g, 0, none⟩ : Addr) else some ⟨g, b + 1, none⟩) = some ⟨g, o2, none⟩ ∧ ∀ j u, (ints (rest.drop (b + 1)))[j]? = some u → w5.cell? ⟨g, o2 + j, none⟩ = some u := by
                      by_cases hck : c = b + 1
                      · refine ⟨0, by rw [if_pos hck], fun j u hu => ?_⟩
                        have : rest.drop (b + 1) = [] := List.drop_of_length_le (by rw [HR.out]; omega)
                        rw [this] at hu
                        simp [ints] at hu
                      · refine ⟨b + 1, by rw [if_neg hck], fun j u hu => ?_⟩
                        rw [show ints (rest.drop (b + 1)) = (ints rest).drop (b + 1) by simp [ints], List.getElem?_drop] at hu
                        have hj := (List.getElem?_eq_some_iff.1 hu).1
                        rw [ints_len, HR.out] at hj
                        rw [HO5.out.cell _ (by omega)]; exact hu
                    have hRA : ∀ j u, (ints (rest.take b))[j]? = some u → w5.cell? ⟨g, j, none⟩ = some u := by
                      intro j u hu
                      have hj := (List.getElem?_eq_some_iff.1 hu).1
                      rw [ints_len, List.length_take, HR.out] at hj
                      rw [show ints (rest.take b) = (ints rest).take b by simp [ints], List.getElem?_take_of_lt (by omega)] at hu
                      rw [HO5.out.cell _ (by omega)]; exact hu
                    have HRA := Lib.hid hRA
                    have HRB := Lib.hid hRB
                    have HLA : Hid ((ints (rest.take b)).length = b * 1) := by unfold Hid; rw [ints_len, List.length_take, HR.out]; omega
                    have HLB : Hid ((ints (rest.drop (b + 1))).length = (k - (b + 1)) * 1) := by unfold Hid; rw [ints_len, List.length_drop, HR.out]; omega
                    clear hRA hRB
                    have hs1 : IntKind.i64.wrap ((b : Int) + 1) = (b : Int) + 1 := IntWalk.i64_in _ (by omega)
                    have hs2 : (0 : Int) ≤ (b : Int) + 1 := by omega
                    have hs3 : ((b : Int) + 1).toNat = b + 1 := by omega
                    have hs4 : (b : Int) + 1 ≤ (k : Int) := by omega
                    have hs5 : (k : Int) ≤ (c : Int) := by omega
                    have hs6 : (0 : Int) ≤ (b : Int) := by omega
                    have hs7 : (b : Int) ≤ (c : Int) := by omega
                    have tok1 : True := trivial
                    have tok2 : True := trivial
                    go_wp2_with fail
                    go_region_held3 (fun _ => True) (exact trivial)
                      (first
                        | (have _t := tok1; refine step_append_free (by rfl) _ _ _ (by rfl) w5.heap.size 3 i0 _ 1 8 Try.underlying23 hi hz0 (by assumption) hz2 rfl (by omega) _ 0 0 [] (by rfl) (World.ownsRow_lit _ #[] 0 (by simp) (by unfold maxLen; omega) rfl) ⟨g, 0, none⟩ b _ (ints (rest.take b)) (by rfl) HLA.out (by intro j u hu; rw [Addr.add_spot, Nat.zero_add]; exact keep_alloc (HRA.out j u hu)) (ints_one _) (by unfold maxLen; omega) (by omega) (by simp) ?_; intro g6 cap6 w6 hown6 hgrow6; clear tok1; have hg6 := (Own.of hown6).2)
                        | (have _t := tok2; refine step_append_free (by rfl) _ _ _ (by rfl) w5.heap.size 3 i0 _ 1 8 Try.underlying23 hi hz0 (by assumption) hz2 rfl (by omega) g6 _ cap6 _ (by rfl) hown6 ⟨g, o2, none⟩ (k - (b + 1)) _ (ints (rest.drop (b + 1))) (by rfl) HLB.out (by intro j u hu; rw [Addr.add_spot]; exact keep_gb hgrow6 (by simp; omega) (keep_alloc (HRB.out j u hu))) (ints_one _) (by unfold maxLen; omega) (by omega) (by have := hgrow6.size; simp at this; omega) ?_; intro g7 cap7 w7 hown7 hgrow7; clear tok2; have hg7 := (Own.of hown7).2))
                    have B6 : Below w5.heap.size w5 w6 := by
                      refine Below.grown ?_ hgrow6 ?_ ?_
                      · (repeat' (first | (with_reducible exact Below.refl _ _) | (with_reducible assumption) | (with_reducible refine Below.drew ?_) | (with_reducible refine below_drewN ?_ _) | (with_reducible refine Below.alloc ?_ ?_ _) | (with_reducible refine Below.setCell ?_ ?_ _) | (refine Below.trans ?_ (Below.mono (by assumption) (by first | omega | (with_reducible exact Below.size (by assumption)) | (simp; done) | (simp; omega)))) | (with_reducible exact Nat.le_refl _) | omega | (with_reducible exact Below.size (by assumption)) | (simp only [World.size_alloc, World.size_setCell, World.size_drew]; omega) | (simp; done) | (simp; omega)))
                      · simp
                      · intro j hj; cases hj; exact Nat.le_refl _
                    have B7 : Below w5.heap.size w5 w7 := by
                      refine Below.grown B6 hgrow7 B6.size ?_
                      intro j hj; cases hj; exact hg6
                    have e7 : b + (k - (b + 1)) = k - 1 := by omega
                    have hO7 : Own w7 g7 (k - 1) cap7 3 1 (ints (rest.eraseIdx b)) := by
                      have h7 := (Own.of hown7).1
                      rw [Nat.zero_add, e7, List.nil_append] at h7
                      have e8 : ints (rest.take b) ++ ints (rest.drop (b + 1)) = ints (rest.eraseIdx b) := by rw [List.eraseIdx_eq_take_drop_succ]; simp [ints]
                      rw [e8] at h7
                      exact h7
                    rw [e7]
                    have hbel7 : Below w.heap.size w w7 := by (repeat' (first | (with_reducible exact Below.refl _ _) | (with_reducible assumption) | (with_reducible refine Below.drew ?_) | (with_reducible refine below_drewN ?_ _) | (with_reducible refine Below.alloc ?_ ?_ _) | (with_reducible refine Below.setCell ?_ ?_ _) | (refine Below.trans ?_ (Below.mono (by assumption) (by first | omega | (with_reducible exact Below.size (by assumption)) | (simp; done) | (simp; omega)))) | (with_reducible exact Nat.le_refl _) | omega | (with_reducible exact Below.size (by assumption)) | (simp only [World.size_alloc, World.size_setCell, World.size_drew]; omega) | (simp; done) | (simp; omega)))
                    have hgl : w.heap.size ≤ g7 := by omega
                    clear hown6 hown7 hgrow6 hgrow7 B6 B7 hA hs1 hs2 hs3 hs4 e7 q1
                    go_wp2_with fail
                    go_roundw
                    case rel =>
                      refine ⟨i + 1, g7, cap7, four ++ [y], rest.eraseIdx b, x + y, by omega, by go_num, by go_num, rfl, ?_, HF2, HT2, HX2, by omega, hxy, hgl, ?_, hbel7⟩
                      · unfold Hid; rw [HEL.out]; omega
                      · rw [hLn]; exact hO7
                    case measure => simp [intOf]; omega
              · obtain rfl : i = 4 := by omega
                have hd4 : decide (((4 : Nat) : Int) < 4) = false := by simp
                have hown := hO.back hg
                have HROUND := Lib.hid (hr_round hinv.out HT.out.1 HF.out HT.out.2)
                rw [HX.out] at HROUND
                have hS : Hid (isum (rest ++ [x]) = isum zs) := by
                  unfold Hid
                  rw [isum_app, ← hsum.out, isum_perm HT.out.1, isum_app, HX.out]
                  simp [isum]; omega
                have hN : Hid (∀ y ∈ rest ++ [x], 0 ≤ y) := by
                  intro y hy
                  rcases List.mem_append.1 hy with hy | hy
                  · exact hnn.out y (HT.out.1.mem_iff.2 (List.mem_append.2 (.inr hy)))
                  · simp at hy; omega
                have hLE : Hid ((rest ++ [x]).length = m - 4 + 1) := by unfold Hid; rw [List.length_append, HR.out]; rfl
                go_wp2_with (at_builtin; refine wpList_append_own _ rfl _ _ 23 rfl w.heap.size 3 i0 (.int .i64 0) 1 8 Try.underlying23 hi hz0 hz1 hz2 rfl (by decide) _ _ _ rfl (hown.alloc _) ⟨wi.heap.size, 0, none⟩ 1 1 [.int .i64 x] rfl rfl (by intro j u hj; rw [Addr.add_spot]; exact keep_new (by simp) (by simpa using hj)) (by intro u hu; simp at hu; subst hu; rfl) (by unfold maxLen; omega) (by omega) (by simp; omega) ?_; intro v' w1 hown' hgrow _)
                have hbel' := below_push hbel (Nat.le_refl _) hown hgrow
                obtain ⟨g1, c1, rfl, hg1, hO1⟩ := own_more hown'
                clear hown' hgrow hown
                go_wp2_with fail
                go_roundw
                case rel => exact ⟨m - 4 + 1, g1, c1, rest ++ [x], s + x, by go_num, by go_num, hLE, by omega, by omega, hg1, hO1, hbel', hN, hS, by omega, by omega, HROUND⟩
                case measure => simp [slLen]; omega
          · obtain rfl : m = 1 := by omega
            have hHM := HM.out
            obtain ⟨y, rfl⟩ : ∃ y, us = [y] := by
              match us, hHM with
              | [y], _ => exact ⟨y, rfl⟩
            go_wp2_with fail
            go_returns
            refine ⟨s, rfl, ⟨fun h => (by rw [HO.out] at h; cases h), fun _ => ⟨?_, hs0, by omega⟩⟩, hbel⟩
            have h7 := hinv.out 0 (by simpa using HR.one y)
            unfold Huf
            rw [HN.out, HPD.out]
            simpa using h7

end Go.Proofs.Ytcacedcbboidoaa
