/- The walk of FnExactJournalText. -/
import Derived.Test.YtedadhoneebfnaaDoorJu
import Derived.Test.YtedadhoneebfnaaDoorDk
set_option linter.unusedSimpArgs false
set_option linter.unusedVariables false
namespace Go.Proofs.YtedadhoneebfnaaDoor
open Go.RowKit

theorem mem_len {zs : List Ded} (h : DdLen zs) : ∀ d ∈ zs, d.2.2.size ≤ maxLen := fun d hd => by
  obtain ⟨k, hk⟩ := List.mem_iff_getElem?.1 hd
  exact h k d hk

set_option maxRecDepth 100000 in
set_option maxHeartbeats 1000000 in
theorem exactJournalText_any (v : Value) (zs : List Ded) (w : World) (hv : Rds w v zs.length 3 (dcells zs)) (hd : DdLen zs) :
    Calls Tryd.prog 4 #[v] w fun e w' => e = .returned (.bool true) ∧ Below w.heap.size w w' := by
  have hs := mem_len hd
  have HV := Lib.hid hv
  have HS := Lib.hid hs
  clear hd hs hv
  go_enter Tryd.func4, Tryd.ntmps4
  go_wp2_with fail
  refine (szExDeedS_any v zs _ HV.out HS.out).mono ?_
  rintro e w1 ⟨z, rfl, hz, hb1⟩
  have hbel1 : Below w.heap.size w w1 := hb1
  clear hb1
  by_cases hz0 : z < 0
  · go_wp2
    go_returns
    exact ⟨rfl, hbel1⟩
  · have hn := hz (by omega)
    clear hz
    have HN := Lib.hid hn
    clear hn
    go_wp2_with fail
    refine (toExDeedS_any v zs _ (Rds.below hbel1 HV.out) HN.out).mono ?_
    rintro e w2 ⟨g2, rfl, hg2, ho2, hb2⟩
    have hbel2 : Below w.heap.size w w2 := hbel1.trans (Below.mono hb2 hbel1.size)
    clear hb2
    go_wp2_with fail
    refine (sJournalText_any _ zs _ (Rds.ofOwn ho2) HN.out HS.out).mono ?_
    rintro e w3 ⟨rfl, hb3⟩
    have hbel3 : Below w.heap.size w w3 := hbel2.trans (Below.mono hb3 hbel2.size)
    clear hb3 ho2
    go_wp2_with fail
    refine (toExDeedS_any v zs _ (Rds.below hbel3 HV.out) HN.out).mono ?_
    rintro e w4 ⟨g4, rfl, hg4, ho4, hb4⟩
    have hbel4 : Below w.heap.size w w4 := hbel3.trans (Below.mono hb4 hbel3.size)
    clear hb4
    go_wp2_with fail
    refine (iJournalText_any _ zs _ (Rds.ofOwn ho4) HN.out HS.out).mono ?_
    rintro e w5 ⟨rfl, hb5⟩
    have hbel5 : Below w.heap.size w w5 := hbel4.trans (Below.mono hb5 hbel4.size)
    have hr5 := Rds.below hb5 (Rds.ofOwn ho4)
    clear hb5 ho4
    obtain ⟨T, hT⟩ : ∃ T, jtxt zs = T := ⟨_, rfl⟩
    rw [hT]
    have hsb := str_eq (rfl : T = T)
    clear hT
    go_wp2_with fail
    refine (toExDeedS_any v zs _ (Rds.below hbel5 HV.out) HN.out).mono ?_
    rintro e w6 ⟨g6, rfl, hg6, ho6, hb6⟩
    have hbel6 : Below w.heap.size w w6 := hbel5.trans (Below.mono hb6 hbel5.size)
    have hr6 := Rds.below hb6 hr5
    clear hb6 hr5
    go_wp2_with fail
    refine (eqExDeedS_any _ _ zs zs _ hr6 (Rds.ofOwn ho6)).mono ?_
    rintro e w7 ⟨rfl, hb7⟩
    have hbel7 : Below w.heap.size w w7 := hbel6.trans (Below.mono hb7 hbel6.size)
    have hdd : decide (zs = zs) = true := by simp
    rw [hdd]
    go_wp2
    go_returns
    exact ⟨rfl, hbel7⟩

end Go.Proofs.YtedadhoneebfnaaDoor
