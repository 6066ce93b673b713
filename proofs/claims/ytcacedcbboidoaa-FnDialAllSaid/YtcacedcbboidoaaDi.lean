/- Contracts of dialFirst, DialOne, DialAll (program and reference). -/
import Derived.Test.YtcacedcbboidoaaPv
import Derived.Test.YtcacedcbboidoaaPg
set_option linter.unusedSimpArgs false
set_option linter.unusedVariables false
namespace Go.Proofs.Ytcacedcbboidoaa
open Go.RowKit

theorem dialK_first {ps : List ByteArray} {s : ByteArray} {k : Nat} {p : ByteArray} (h : ∀ j t, j < k → ps[j]? = some t → preB s t = false) (hp : ps[k]? = some p) (h1 : preB s p = true) : dialK ps s.data.toList = some k := by
  obtain ⟨hk, e⟩ := List.getElem?_eq_some_iff.1 hp
  unfold dialK
  rw [List.findIdx?_eq_some_iff_getElem]
  refine ⟨hk, by rw [e]; exact h1, fun j hj => ?_⟩
  have := h j ps[j] hj (List.getElem?_eq_getElem (by omega))
  unfold preB at this
  simp [this]
theorem dialK_never {ps : List ByteArray} {s : ByteArray} (h : ∀ j t, j < ps.length → ps[j]? = some t → preB s t = false) : dialK ps s.data.toList = none := by
  unfold dialK
  rw [List.findIdx?_eq_none_iff]
  intro p hp
  obtain ⟨j, hj⟩ := List.mem_iff_getElem?.1 hp
  exact h j p (lt_of_some hj) hj

/-- What is answered: the place and the length, or that there is none. -/
def dialA (ps : List ByteArray) (o : Option Nat) : Int := match o with
  | none => -1
  | some k => k
def dialB (ps : List ByteArray) (o : Option Nat) : Int := match o with
  | none => 0
  | some k => sizeAt ps k

set_option maxHeartbeats 400000 in
theorem dialFirst_any (v : Value) (ps : List ByteArray) (s : ByteArray) (w : World) (hv : Rds w v ps.length 1 (strs ps)) (hL : StLen ps) (hs : s.size ≤ maxLen) :
    Calls Try.prog 94 #[v, .string s] w fun e w' => e = .returned (.tuple #[.int .i64 (dialA ps (dialK ps s.data.toList)), .int .i64 (dialB ps (dialK ps s.data.toList))]) ∧ w = w' := by
  obtain ⟨a, ca, rfl, hl1, hm1, hn1, hc1⟩ := hv.open1
  unfold maxLen at hm1
  obtain ⟨n, hn⟩ : ∃ n, ps.length = n := ⟨_, rfl⟩
  rw [hn] at hm1 hn1 hc1 ⊢
  have HN := Lib.hid hn
  have HL := Lib.hid hL
  clear hn hl1 hL hv
  go_enter Try.func94, Try.ntmps94
  go_wp2_with fail
  go_loop [10] (fun i => ∃ k : Nat, k ≤ n ∧ i = .int .i64 k ∧ Hid (∀ j t, j < k → ps[j]? = some t → preB s t = false)) (fun i => n - (intOf i).toNat)
  case atStart => exact ⟨0, by omega, rfl, fun j t h => absurd h (by omega)⟩
  case round =>
    obtain ⟨k, hk, rfl, hno⟩ := hrel
    by_cases hkn : k < n
    · rcases hc1 with hc1 | ⟨b, off, rfl, hb, hc1⟩
      · omega
      obtain ⟨p, hp⟩ : ∃ p, ps[k]? = some p := ⟨_, List.getElem?_eq_getElem (by rw [HN.out]; omega)⟩
      have c1 := hc1 k hkn
      rw [strs_at ps k p hp] at c1
      have hpl := HL.out k p hp
      have hpl' := hpl
      unfold maxLen at hpl'
      have HP := Lib.hid hp
      clear hc1 hp
      go_wp2_with fail
      refine (hasPrefix_any s p _ hs hpl).mono ?_
      rintro e w1 ⟨rfl, rfl⟩
      obtain ⟨d, hd⟩ : ∃ d, preB s p = d := ⟨_, rfl⟩
      have HD := Lib.hid hd
      rw [hd]
      clear hd
      cases d
      · go_wp2_with fail
        go_round
        case rel =>
          refine ⟨k + 1, by omega, by go_num, fun j t hj ht => ?_⟩
          by_cases e : j = k
          · subst e; have := HP.out; rw [ht] at this; cases this; exact HD.out
          · exact hno.out j t (by omega) ht
        case measure => simp [intOf]; omega
      · have HK := Lib.hid (dialK_first hno.out HP.out HD.out)
        have HA : Hid (dialA ps (dialK ps s.data.toList) = (k : Int)) := by unfold Hid; rw [HK.out]; rfl
        have HB : Hid (dialB ps (dialK ps s.data.toList) = (p.size : Int)) := by unfold Hid; rw [HK.out]; show ((sizeAt ps k : Nat) : Int) = _; rw [sizeAt_of HP.out]
        go_wp2
        go_returns
        exact ⟨by rw [HA.out, HB.out]; rfl, rfl⟩
    · obtain rfl : k = n := by omega
      have HK := Lib.hid (dialK_never (ps := ps) (s := s) (by rw [HN.out]; exact hno.out))
      have HA : Hid (dialA ps (dialK ps s.data.toList) = -1) := by unfold Hid; rw [HK.out]; rfl
      have HB : Hid (dialB ps (dialK ps s.data.toList) = 0) := by unfold Hid; rw [HK.out]; rfl
      go_wp2
      go_returns
      exact ⟨by rw [HA.out, HB.out]; rfl, rfl⟩

/-- Which number is dialled; none where the plan or the text is not valid. -/
noncomputable def oneR (ps : List ByteArray) (s : ByteArray) : Option Nat := if (planB ps && digsB s) = true then dialK ps s.data.toList else none
theorem oneR_no {ps : List ByteArray} {s : ByteArray} (h : planB ps = false ∨ digsB s = false) : oneR ps s = none := by
  unfold oneR
  rw [if_neg]
  rcases h with h | h <;> simp [h]
theorem oneR_yes {ps : List ByteArray} {s : ByteArray} (h : planB ps = true) (h' : digsB s = true) : oneR ps s = dialK ps s.data.toList := by
  unfold oneR
  rw [if_pos (by rw [h, h']; rfl)]

set_option maxHeartbeats 400000 in
theorem iDialOne_any (v : Value) (ps : List ByteArray) (s : ByteArray) (w : World) (hv : Rds w v ps.length 1 (strs ps)) (hL : StLen ps) (hs : s.size ≤ maxLen) :
    Calls Try.prog 50 #[v, .string s] w fun e w' => e = .returned (.tuple #[.int .i64 (dialA ps (oneR ps s)), .int .i64 (dialB ps (oneR ps s))]) ∧ w = w' := by
  have HV := Lib.hid hv
  have HL := Lib.hid hL
  clear hv hL
  go_enter Try.func50, Try.ntmps50
  go_wp2_with fail
  refine (iPlanValid_any _ ps _ HV.out HL.out).mono ?_
  rintro e w1 ⟨rfl, rfl⟩
  obtain ⟨d, hd⟩ : ∃ d, planB ps = d := ⟨_, rfl⟩
  have HD := Lib.hid hd
  rw [hd]
  clear hd
  cases d
  · have HK := Lib.hid (oneR_no (s := s) (.inl HD.out))
    go_wp2
    go_returns
    exact ⟨by rw [HK.out]; rfl, rfl⟩
  · go_wp2_with fail
    refine (iDigitsOk_any s _ hs).mono ?_
    rintro e w1 ⟨rfl, rfl⟩
    obtain ⟨d, hd⟩ : ∃ d, digsB s = d := ⟨_, rfl⟩
    have HG := Lib.hid hd
    rw [hd]
    clear hd
    cases d
    · have HK := Lib.hid (oneR_no (ps := ps) (.inr HG.out))
      go_wp2
      go_returns
      exact ⟨by rw [HK.out]; rfl, rfl⟩
    · have HK := Lib.hid (oneR_yes HD.out HG.out)
      go_wp2_with fail
      refine (dialFirst_any _ ps s _ HV.out HL.out hs).mono ?_
      rintro e w1 ⟨rfl, rfl⟩
      go_wp2
      go_returns
      exact ⟨by rw [HK.out]; rfl, rfl⟩

set_option maxHeartbeats 1000000 in
theorem sDialOne_any (v : Value) (ps : List ByteArray) (s : ByteArray) (w : World) (hv : Rds w v ps.length 1 (strs ps)) (hL : StLen ps) (hs : s.size ≤ maxLen) :
    Calls Try.prog 51 #[v, .string s] w fun e w' => e = .returned (.tuple #[.int .i64 (dialA ps (oneR ps s)), .int .i64 (dialB ps (oneR ps s))]) ∧ ∃ q, w' = w.drewN q := by
  have HV0 := hv
  obtain ⟨a, ca, rfl, hl1, hm1, hn1, hc1⟩ := hv.open1
  have HV := Lib.hid HV0
  unfold maxLen at hm1
  obtain ⟨n, hn⟩ : ∃ n, ps.length = n := ⟨_, rfl⟩
  have HN := Lib.hid hn
  have HV2 : Hid (Rds w (.slice a n ca) ps.length 1 (strs ps)) := by rw [hn] at HV ⊢; exact HV.out
  rw [hn] at hm1 hn1 hc1 ⊢
  have HL := Lib.hid hL
  clear hn hl1 hL hv HV0 HV
  go_enter Try.func51, Try.ntmps51
  go_wp2_with fail
  go_loopw [6] (fun i wr => ∃ k q : Nat, k ≤ n ∧ i = .int .i64 k ∧ Hid (1 ≤ k → planB ps = true ∧ digsB s = true) ∧ Hid (∀ j t, j < k → ps[j]? = some t → preB s t = false) ∧ wr = w.drewN q) (fun i _ => n - (intOf i).toNat)
  case atStart => exact ⟨0, 0, by omega, rfl, fun h => absurd h (by omega), fun j t h => absurd h (by omega), rfl⟩
  case round =>
    obtain ⟨k, q, hk, rfl, hval, hno, rfl⟩ := hrel
    by_cases hkn : k < n
    · go_wp2_with fail
      refine (sPlanValid_any _ ps _ (HV2.out.drewN q) HL.out).mono ?_
      rintro e w1 ⟨rfl, q1, rfl⟩
      obtain ⟨d, hd⟩ : ∃ d, planB ps = d := ⟨_, rfl⟩
      have HD := Lib.hid hd
      rw [hd]
      clear hd
      cases d
      · have HK := Lib.hid (oneR_no (s := s) (.inl HD.out))
        go_wp2
        go_returns
        exact ⟨by rw [HK.out]; rfl, _, rfl⟩
      · go_wp2_with fail
        refine (sDigitsOk_any s _ hs).mono ?_
        rintro e w2 ⟨rfl, rfl⟩
        obtain ⟨d, hd⟩ : ∃ d, digsB s = d := ⟨_, rfl⟩
        have HG := Lib.hid hd
        rw [hd]
        clear hd
        cases d
        · have HK := Lib.hid (oneR_no (ps := ps) (.inr HG.out))
          go_wp2
          go_returns
          exact ⟨by rw [HK.out]; rfl, _, rfl⟩
        · rcases hc1 with hc1 | ⟨b, off, rfl, hb, hc1⟩
          · omega
          obtain ⟨p, hp⟩ : ∃ p, ps[k]? = some p := ⟨_, List.getElem?_eq_getElem (by rw [HN.out]; omega)⟩
          have c1 := hc1 k hkn
          rw [strs_at ps k p hp] at c1
          have hpl := HL.out k p hp
          have hpl' := hpl
          unfold maxLen at hpl'
          have HP := Lib.hid hp
          clear hc1 hp
          go_wp2_with fail
          refine (l6Begins_any s p _ hs hpl).mono ?_
          rintro e w3 ⟨rfl, rfl⟩
          obtain ⟨d, hd⟩ : ∃ d, preB s p = d := ⟨_, rfl⟩
          have HE := Lib.hid hd
          rw [hd]
          clear hd
          cases d
          · go_wp2_with fail
            go_roundw
            case rel =>
              refine ⟨k + 1, _, by omega, by go_num, fun _ => ⟨HD.out, HG.out⟩, fun j t hj ht => ?_, rfl⟩
              by_cases e : j = k
              · subst e; have := HP.out; rw [ht] at this; cases this; exact HE.out
              · exact hno.out j t (by omega) ht
            case measure => simp [intOf]; omega
          · have HK := Lib.hid (dialK_first hno.out HP.out HE.out)
            have HA : Hid (dialA ps (oneR ps s) = (k : Int)) := by unfold Hid; rw [oneR_yes HD.out HG.out, HK.out]; rfl
            have HB : Hid (dialB ps (oneR ps s) = (p.size : Int)) := by unfold Hid; rw [oneR_yes HD.out HG.out, HK.out]; show ((sizeAt ps k : Nat) : Int) = _; rw [sizeAt_of HP.out]
            go_wp2_with fail
            go_quiet (fail)
            go_wp2
            go_returns
            exact ⟨by rw [HA.out, HB.out]; rfl, _, by first | rfl | rw [World.drewN_drewN]⟩
    · obtain rfl : k = n := by omega
      have HK : Hid (oneR ps s = none) := by
        by_cases h : planB ps = true ∧ digsB s = true
        · unfold Hid; rw [oneR_yes h.1 h.2]; exact dialK_never (by rw [HN.out]; exact hno.out)
        · refine oneR_no ?_
          cases hp : planB ps with
          | false => exact .inl rfl
          | true => cases hd : digsB s with
            | false => exact .inr rfl
            | true => exact absurd ⟨hp, hd⟩ h
      go_wp2
      go_returns
      exact ⟨by rw [HK.out]; rfl, _, rfl⟩

/-- All numbers dialled. -/
noncomputable def allR (ps : List ByteArray) (s : ByteArray) : Option (List Int) := if (planB ps && digsB s) = true then dialL ps s.data.toList else none
theorem allR_no {ps : List ByteArray} {s : ByteArray} (h : planB ps = false ∨ digsB s = false) : allR ps s = none := by
  unfold allR
  rw [if_neg]
  rcases h with h | h <;> simp [h]
theorem allR_yes {ps : List ByteArray} {s : ByteArray} (h : planB ps = true) (h' : digsB s = true) : allR ps s = dialL ps s.data.toList := by
  unfold allR
  rw [if_pos (by rw [h, h']; rfl)]
def DialOut (r : Option (List Int)) (w : World) (e : Ending) (w' : World) : Prop :=
  ∃ v, e = .returned (.tuple #[v, .bool r.isSome]) ∧ w'.ownsRow w.heap.size 3 1 v (r.getD []).length (ints (r.getD [])) ∧ Below w.heap.size w w'
theorem drop_extract (s : ByteArray) (m : Nat) : (s.extract m s.size).data.toList = s.data.toList.drop m := by
  rw [ByteArray.data_extract]
  simp
  exact List.take_of_length_le (by simp)
theorem digs_drop {s t : ByteArray} {m : Nat} (h : digsB s = true) (ht : t.data.toList = s.data.toList.drop m) : digsB t = true := by
  unfold digsB at *
  rw [ht]
  rw [List.all_eq_true] at *
  exact fun c hc => h c (List.mem_of_mem_drop hc)

set_option maxRecDepth 100000 in
set_option maxHeartbeats 1000000 in
theorem iDialAll_any (v : Value) (ps : List ByteArray) (s : ByteArray) (w : World) (hv : Rds w v ps.length 1 (strs ps)) (hL : StLen ps) (hs : s.size ≤ 1048576) :
    Calls Try.prog 48 #[v, .string s] w (DialOut (allR ps s) w) := by
  obtain ⟨i0, hi, hz0, hz1, hz2⟩ := info_parts infoI
  have HV := Lib.hid hv
  have HL := Lib.hid hL
  have hsm : s.size ≤ maxLen := by unfold maxLen; omega
  have HSM := Lib.hid hsm
  clear hv hL hsm
  go_enter Try.func48, Try.ntmps48
  go_wp2_with fail
  refine (iPlanValid_any _ ps _ HV.out HL.out).mono ?_
  rintro e w1 ⟨rfl, rfl⟩
  obtain ⟨d, hd⟩ : ∃ d, planB ps = d := ⟨_, rfl⟩
  have HD := Lib.hid hd
  rw [hd]
  clear hd
  cases d
  · have HK := Lib.hid (allR_no (s := s) (.inl HD.out))
    go_wp2
    go_returns
    exact ⟨_, by rw [HK.out]; rfl, by rw [HK.out]; exact World.ownsRow_nil _ _ _ _, Below.refl _ _⟩
  · go_wp2_with fail
    refine (iDigitsOk_any s _ HSM.out).mono ?_
    rintro e w1 ⟨rfl, rfl⟩
    obtain ⟨d, hd⟩ : ∃ d, digsB s = d := ⟨_, rfl⟩
    have HG := Lib.hid hd
    rw [hd]
    clear hd
    cases d
    · have HK := Lib.hid (allR_no (ps := ps) (.inr HG.out))
      go_wp2
      go_returns
      exact ⟨_, by rw [HK.out]; rfl, by rw [HK.out]; exact World.ownsRow_nil _ _ _ _, Below.refl _ _⟩
    · have HK := Lib.hid (allR_yes HD.out HG.out)
      have HPO := Lib.hid ((planB_iff ps).1 HD.out)
      go_wp2_with fail
      go_loopw [6, 7] (fun v i wr => ∃ (m : Nat) (ks : List Int), m ≤ s.size ∧ i = .int .i64 m ∧ ks.length ≤ m ∧ wr.ownsRow w.heap.size 3 1 v ks.length (ints ks) ∧ Hid (dialL ps s.data.toList = (dialL ps (s.data.toList.drop m)).map (ks ++ ·)) ∧ Below w.heap.size w wr) (fun _ i _ => s.size - (intOf i).toNat)
      case atStart => exact ⟨0, [], by omega, rfl, by simp, World.ownsRow_nil _ _ _ _, by unfold Hid; simp, Below.refl _ _⟩
      case round =>
        obtain ⟨m, ks, hm, rfl, hks, hown, hdl, hbel⟩ := hrel
        have hz := hbel.size
        by_cases hms : m < s.size
        · have HT := Lib.hid (drop_extract s m)
          have hts : (s.extract m s.size).size = s.size - m := by rw [ByteArray.size_extract]; omega
          have htsm : (s.extract m s.size).size ≤ maxLen := by rw [hts]; unfold maxLen; omega
          have HTS := Lib.hid htsm
          have HTZ := Lib.hid hts
          clear hts htsm
          go_wp2_with fail
          refine (dialFirst_any _ ps (s.extract m s.size) _ (HV.out.below hbel) HL.out HTS.out).mono ?_
          rintro e w1 ⟨rfl, rfl⟩
          rw [HT.out]
          have hne : s.data.toList.drop m ≠ [] := by
            intro e
            have := congrArg List.length e
            simp at this
            omega
          have HNE := Lib.hid hne
          clear hne
          obtain ⟨o, ho⟩ : ∃ o, dialK ps (s.data.toList.drop m) = o := ⟨_, rfl⟩
          have HO := Lib.hid ho
          rw [ho]
          clear ho
          cases o with
          | none =>
            have HR : Hid (allR ps s = none) := by unfold Hid; rw [HK.out, hdl.out, dialL_no HNE.out HO.out]; rfl
            rw [show dialA ps none = -1 from rfl, show dialB ps none = 0 from rfl]
            go_wp2
            go_returns
            exact ⟨_, by rw [HR.out]; rfl, by rw [HR.out]; exact World.ownsRow_nil _ _ _ _, hbel⟩
          | some k =>
            obtain ⟨p, hp, hpre⟩ := dialK_some HO.out
            have hpn := numB_size (HPO.out.at k p hp)
            have hpl := pre_size hpre
            rw [List.length_drop] at hpl
            have hpl2 : p.size ≤ s.size - m := by simpa using hpl
            obtain ⟨hp1, hp3, -⟩ := hpn
            have hk10 := lt_of_some hp
            have h10 := HPO.out.1
            have HST := Lib.hid (dialL_step HPO.out HNE.out HO.out hp)
            rw [show dialA ps (some k) = (k : Int) from rfl, show dialB ps (some k) = ((sizeAt ps k : Nat) : Int) from rfl, sizeAt_of hp]
            clear hp hpre hpl
            have hk99 : (k : Int) < 99 := by omega
            clear hk10 h10
            go_wp2_with (at_builtin; refine wpList_append_own _ rfl _ _ 23 rfl w.heap.size 3 i0 (.int .i64 0) 1 8 Try.underlying23 hi hz0 hz1 hz2 rfl (by decide) _ _ _ rfl (hown.alloc _) ⟨wr.heap.size, 0, none⟩ 1 1 [.int .i64 k] rfl rfl (by intro j u hj; rw [Addr.add_spot]; exact keep_new (by simp) (by simpa using hj)) (by intro u hu; simp at hu; subst hu; rfl) (by unfold maxLen; omega) (by omega) (by simp; omega) ?_; intro v' w3 hown3 hgrow _)
            have hbel3 : Below w.heap.size w w3 := by
              refine Below.grown ?_ hgrow ?_ ?_
              · (repeat' (first | (with_reducible exact Below.refl _ _) | (with_reducible assumption) | (with_reducible refine Below.drew ?_) | (with_reducible refine below_drewN ?_ _) | (with_reducible refine Below.alloc ?_ ?_ _) | (with_reducible refine Below.setCell ?_ ?_ _) | (refine Below.trans ?_ (Below.mono (by assumption) (by first | omega | (with_reducible exact Below.size (by assumption)) | (simp; done) | (simp; omega)))) | (with_reducible exact Nat.le_refl _) | omega | (with_reducible exact Below.size (by assumption)) | (simp only [World.size_alloc, World.size_setCell, World.size_drew]; omega) | (simp; done) | (simp; omega)))
              · simp; omega
              · exact fun j hj => own_ge hown j hj
            rw [ints_snoc] at hown3
            clear hgrow hown
            go_roundw
            case rel =>
              refine ⟨m + p.size, ks ++ [(k : Int)], by omega, by go_num, by simp; omega, by simpa using hown3, ?_, hbel3⟩
              unfold Hid
              rw [hdl.out, HST.out, List.drop_drop, Option.map_map]
              congr 1
              funext l
              simp
            case measure => simp [intOf]; omega
        · obtain rfl : m = s.size := by omega
          have HR : Hid (allR ps s = some ks) := by
            unfold Hid
            rw [HK.out, hdl.out, List.drop_of_length_le (by simp), dialL_nil]
            simp
          go_wp2
          go_returns
          exact ⟨_, by rw [HR.out]; rfl, by rw [HR.out]; exact hown, hbel⟩

set_option maxRecDepth 100000 in
set_option maxHeartbeats 1000000 in
theorem sDialAll_any (v : Value) (ps : List ByteArray) (s : ByteArray) (w : World) (hv : Rds w v ps.length 1 (strs ps)) (hL : StLen ps) (hs : s.size ≤ 1048576) :
    Calls Try.prog 47 #[v, .string s] w (DialOut (allR ps s) w) := by
  obtain ⟨i0, hi, hz0, hz1, hz2⟩ := info_parts infoI
  have HV := Lib.hid hv
  have HL := Lib.hid hL
  have hsm : s.size ≤ maxLen := by unfold maxLen; omega
  have HSM := Lib.hid hsm
  clear hv hL hsm
  have hnew : (w.alloc (.cells #[] 3)).ownsRow w.heap.size 3 1 (.slice (some ⟨w.heap.size, 0, none⟩) 0 0) 0 (ints []) :=
    World.ownsRow_lit (base := w.heap.size) (e := 3) (size := 1) w #[] 0 (Nat.le_refl _) (by unfold maxLen; omega) rfl
  have hb0 : Below w.heap.size w (w.alloc (.cells #[] 3)) := by (repeat' (first | (with_reducible exact Below.refl _ _) | (with_reducible assumption) | (with_reducible refine Below.drew ?_) | (with_reducible refine below_drewN ?_ _) | (with_reducible refine Below.alloc ?_ ?_ _) | (with_reducible refine Below.setCell ?_ ?_ _) | (refine Below.trans ?_ (Below.mono (by assumption) (by first | omega | (with_reducible exact Below.size (by assumption)) | (simp; done) | (simp; omega)))) | (with_reducible exact Nat.le_refl _) | omega | (with_reducible exact Below.size (by assumption)) | (simp only [World.size_alloc, World.size_setCell, World.size_drew]; omega) | (simp; done) | (simp; omega)))
  go_enter Try.func47, Try.ntmps47
  go_wp2_with fail
  refine (sPlanValid_any _ ps _ (HV.out.below hb0) HL.out).mono ?_
  rintro e w1 ⟨rfl, q, rfl⟩
  have hnew1 : ((w.alloc (.cells #[] 3)).drewN q).ownsRow w.heap.size 3 1 (.slice (some ⟨w.heap.size, 0, none⟩) 0 0) 0 (ints []) := hnew
  have hb1 : Below w.heap.size w ((w.alloc (.cells #[] 3)).drewN q) := below_drewN hb0 q
  clear hnew hb0
  generalize (w.alloc (.cells #[] 3)).drewN q = w1 at *
  obtain ⟨d, hd⟩ : ∃ d, planB ps = d := ⟨_, rfl⟩
  have HD := Lib.hid hd
  rw [hd]
  clear hd
  cases d
  · have HK := Lib.hid (allR_no (s := s) (.inl HD.out))
    go_wp2
    go_returns
    exact ⟨_, by rw [HK.out]; rfl, by rw [HK.out]; exact hnew1, hb1⟩
  · go_wp2_with fail
    refine (sDigitsOk_any s _ HSM.out).mono ?_
    rintro e w2 ⟨rfl, rfl⟩
    obtain ⟨d, hd⟩ : ∃ d, digsB s = d := ⟨_, rfl⟩
    have HG := Lib.hid hd
    rw [hd]
    clear hd
    cases d
    · have HK := Lib.hid (allR_no (ps := ps) (.inr HG.out))
      go_wp2
      go_returns
      exact ⟨_, by rw [HK.out]; rfl, by rw [HK.out]; exact hnew1, hb1⟩
    · have HK := Lib.hid (allR_yes HD.out HG.out)
      have HPO := Lib.hid ((planB_iff ps).1 HD.out)
      go_wp2_with fail
      go_loopw [1, 6] (fun tv v wr => ∃ (m : Nat) (t : ByteArray) (ks : List Int), m ≤ s.size ∧ tv = .string t ∧ t.size = s.size - m ∧ Hid (t.data.toList = s.data.toList.drop m) ∧ ks.length ≤ m ∧ wr.ownsRow w.heap.size 3 1 v ks.length (ints ks) ∧ Hid (dialL ps s.data.toList = (dialL ps (s.data.toList.drop m)).map (ks ++ ·)) ∧ Below w.heap.size w wr) (fun tv _ _ => match tv with | .string t => t.size | _ => 0)
      case atStart => exact ⟨0, s, [], by omega, rfl, by omega, by unfold Hid; simp, by simp, hnew1, by unfold Hid; simp, hb1⟩
      case round =>
        clear hnew1 hb1
        obtain ⟨m, t, ks, hm, rfl, htz, htd, hks, hown, hdl, hbel⟩ := hrel
        have hz := hbel.size
        have HTZ := Lib.hid htz
        have htz1 : t.size ≤ s.size - m := by omega
        have htz2 : s.size - m ≤ t.size := by omega
        clear htz
        by_cases hms : m < s.size
        · have htsm : t.size ≤ maxLen := by unfold maxLen; omega
          have HTS := Lib.hid htsm
          have hpos : 0 < t.size := by omega
          clear htsm
          go_wp2_with fail
          refine (sDialOne_any _ ps t _ (HV.out.below hbel) HL.out HTS.out).mono ?_
          rintro e w1 ⟨rfl, q1, rfl⟩
          rw [oneR_yes HD.out (digs_drop HG.out htd.out), htd.out]
          have hne : s.data.toList.drop m ≠ [] := by
            intro e
            have := congrArg List.length e
            simp at this
            omega
          have HNE := Lib.hid hne
          clear hne
          have hown2 : (wr.drewN q1).ownsRow w.heap.size 3 1 _ ks.length (ints ks) := hown
          have hbel2 : Below w.heap.size w (wr.drewN q1) := below_drewN hbel q1
          clear hown hbel
          have hz2' : w.heap.size ≤ (wr.drewN q1).heap.size := hbel2.size
          generalize wr.drewN q1 = wr at *
          obtain ⟨o, ho⟩ : ∃ o, dialK ps (s.data.toList.drop m) = o := ⟨_, rfl⟩
          have HO := Lib.hid ho
          rw [ho]
          clear ho
          cases o with
          | none =>
            have HR : Hid (allR ps s = none) := by unfold Hid; rw [HK.out, hdl.out, dialL_no HNE.out HO.out]; rfl
            rw [show dialA ps none = -1 from rfl, show dialB ps none = 0 from rfl]
            go_wp2
            go_returns
            exact ⟨_, by rw [HR.out]; rfl, by rw [HR.out]; exact World.ownsRow_lit (base := w.heap.size) (e := 3) (size := 1) _ #[] 0 hz2' (by unfold maxLen; omega) rfl, by (repeat' (first | (with_reducible exact Below.refl _ _) | (with_reducible assumption) | (with_reducible refine Below.drew ?_) | (with_reducible refine below_drewN ?_ _) | (with_reducible refine Below.alloc ?_ ?_ _) | (with_reducible refine Below.setCell ?_ ?_ _) | (refine Below.trans ?_ (Below.mono (by assumption) (by first | omega | (with_reducible exact Below.size (by assumption)) | (simp; done) | (simp; omega)))) | (with_reducible exact Nat.le_refl _) | omega | (with_reducible exact Below.size (by assumption)) | (simp only [World.size_alloc, World.size_setCell, World.size_drew]; omega) | (simp; done) | (simp; omega)))⟩
          | some k =>
            obtain ⟨p, hp, hpre⟩ := dialK_some HO.out
            have hpn := numB_size (HPO.out.at k p hp)
            have hpl := pre_size hpre
            rw [List.length_drop] at hpl
            have hpl2 : p.size ≤ s.size - m := by simpa using hpl
            obtain ⟨hp1, hp3, -⟩ := hpn
            have hk10 := lt_of_some hp
            have h10 := HPO.out.1
            have HST := Lib.hid (dialL_step HPO.out HNE.out HO.out hp)
            rw [show dialA ps (some k) = (k : Int) from rfl, show dialB ps (some k) = ((sizeAt ps k : Nat) : Int) from rfl, sizeAt_of hp]
            clear hp hpre hpl
            have hk99 : (k : Int) < 99 := by omega
            clear hk10 h10
            go_wp2_with (at_builtin; refine wpList_append_own _ rfl _ _ 23 rfl w.heap.size 3 i0 (.int .i64 0) 1 8 Try.underlying23 hi hz0 hz1 hz2 rfl (by decide) _ _ _ rfl (hown2.alloc _) ⟨wr.heap.size, 0, none⟩ 1 1 [.int .i64 k] rfl rfl (by intro j u hj; rw [Addr.add_spot]; exact keep_new (by simp) (by simpa using hj)) (by intro u hu; simp at hu; subst hu; rfl) (by unfold maxLen; omega) (by omega) (by simp; omega) ?_; intro v' w3 hown3 hgrow _)
            have hbel3 : Below w.heap.size w w3 := by
              refine Below.grown ?_ hgrow ?_ ?_
              · (repeat' (first | (with_reducible exact Below.refl _ _) | (with_reducible assumption) | (with_reducible refine Below.drew ?_) | (with_reducible refine below_drewN ?_ _) | (with_reducible refine Below.alloc ?_ ?_ _) | (with_reducible refine Below.setCell ?_ ?_ _) | (refine Below.trans ?_ (Below.mono (by assumption) (by first | omega | (with_reducible exact Below.size (by assumption)) | (simp; done) | (simp; omega)))) | (with_reducible exact Nat.le_refl _) | omega | (with_reducible exact Below.size (by assumption)) | (simp only [World.size_alloc, World.size_setCell, World.size_drew]; omega) | (simp; done) | (simp; omega)))
              · simp; omega
              · exact fun j hj => own_ge hown2 j hj
            rw [ints_snoc] at hown3
            clear hgrow hown2
            go_roundw
            case rel =>
              refine ⟨m + p.size, t.extract p.size t.size, ks ++ [(k : Int)], by omega, rfl, by rw [ByteArray.size_extract]; omega, ?_, by simp; omega, by simpa using hown3, ?_, hbel3⟩
              · unfold Hid; rw [drop_extract, htd.out, List.drop_drop]
              · unfold Hid
                rw [hdl.out, HST.out, List.drop_drop, Option.map_map]
                congr 1
                funext l
                simp
            case measure => simp only [ByteArray.size_extract]; omega
        · obtain rfl : m = s.size := by omega
          have ht0 : ¬ 0 < t.size := by omega
          have HR : Hid (allR ps s = some ks) := by
            unfold Hid
            rw [HK.out, hdl.out, List.drop_of_length_le (by simp), dialL_nil]
            simp
          go_wp2
          go_returns
          exact ⟨_, by rw [HR.out]; rfl, by rw [HR.out]; exact hown, hbel⟩

end Go.Proofs.Ytcacedcbboidoaa
