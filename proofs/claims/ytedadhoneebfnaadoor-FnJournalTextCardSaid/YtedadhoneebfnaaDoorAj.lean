/- The walk of the law of JournalText. -/
import Derived.Test.YtedadhoneebfnaaDoorWr
import Derived.Test.YtedadhoneebfnaaDoorJu
import Derived.Test.YtedadhoneebfnaaDoorJi
import Derived.Test.YtedadhoneebfnaaDoorJ13
import Derived.Test.YtedadhoneebfnaaDoorSm
import Derived.Test.YtedadhoneebfnaaDoorAlive
set_option linter.unusedSimpArgs false
set_option linter.unusedVariables false
namespace Go.Proofs.YtedadhoneebfnaaDoor
open Go.RowKit

set_option maxRecDepth 100000 in
set_option maxHeartbeats 4000000 in
theorem wJournalText (a : Option Addr) (len cap : Nat) (zs : List Int) (w : World) (h0 : IsRow .u8 w a len cap zs) :
  Calls Tryd.prog 9 #[.slice a len cap] w fun e w' => e = .returned (.bool true) ∧ Below w.heap.size w w' := by
 have h := h0.code
 have hm := h.bd
 by_cases hbig : len > 1048576
 ·
  go_enter Tryd.func9, Tryd.ntmps9
  go_wp2
  go_returns
  exact ⟨rfl, Below.refl _ _⟩
 go_enter Tryd.func9, Tryd.ntmps9
 go_wp2_with fail
 refine (DrawJournalText_any _ _ _ _ _ h).mono ?_
 rintro e w1 ⟨v, ds, rfl, ho, hl, hds, hbel⟩
 have HDS : Hid (∀ d ∈ ds, d.2.2.size ≤ maxLen) := fun d hd => by have := hds d hd; unfold maxLen; omega
 have HR := Lib.hid (Rds.ofOwns ho)
 have HL : Hid (ds.length ≤ 1048576) := by unfold Hid; omega
 have hts := jcat_size ds
 have htz : (jtxt ds).size ≤ 14 * ds.length := by unfold jtxt; split; exact hts; exact Nat.zero_le _
 obtain ⟨t, ht⟩ : ∃ t, jtxt ds = t := ⟨_, rfl⟩
 have HT := Lib.hid ht
 rw [ht] at htz
 clear h h0 hbig hm ho hds hts ht
 go_wp2_with fail
 refine (iJournalText_any v ds _ HR.out HL.out HDS.out).mono ?_
 rintro e w2 ⟨rfl, hc⟩
 have hb2 := hbel.trans (Below.mono hc hbel.size)
 have HR2 := Lib.hid (Rds.below hc HR.out)
 rw [HT.out]
 clear hbel hc HR
 go_wp2_with fail
 refine (sJournalText_any v ds _ HR2.out HL.out HDS.out).mono ?_
 rintro e w3 ⟨rfl, hc⟩
 have hbel := hb2.trans (Below.mono hc hb2.size)
 have HR3 := Lib.hid (Rds.below hc HR2.out)
 rw [HT.out]
 have htt := str_eq (rfl : t = t)
 clear hb2 hc HR2
 by_cases ht0 : t.size = 0
 ·
  have hte := empty_of ht0
  subst hte
  go_wp2_with fail
  refine (alive_any _).mono ?_
  rintro e w9 ⟨rfl, hc⟩
  have hbel_ := hbel.trans (Below.mono hc hbel.size)
  clear hc
  go_wp2
  go_returns
  exact ⟨rfl, hbel_⟩
 obtain ⟨hs1, hs2⟩ := some_of ht0
 obtain ⟨hj1, hj2⟩ := jtxt_some (zs := ds) (by rw [HT.out]; exact ht0)
 have hjl : jL (tl t) = (ds, t.size) := by
  have h1 := jread ds hj1
  rw [← hj2, HT.out, tl_size] at h1
  exact h1
 have HJ := Lib.hid hjl
 clear ht0 hj1 hj2 hjl
 go_wp2_with fail
 refine (iReadJournal_any t _ (by omega)).mono ?_
 rintro e w4 ⟨u, rfl, ho4, hc⟩
 rw [HJ.out] at ho4
 rw [show (jL (tl t)).2 = t.size by rw [HJ.out]]
 simp only at ho4
 have hb4 := hbel.trans (Below.mono hc hbel.size)
 have HR4 := Lib.hid (Rds.below hc HR3.out)
 have HX4 := Lib.hid (Rds.ofOwns ho4)
 clear hbel hc HR3 ho4
 go_wp2_with fail
 refine (sameExDeeds_any _ _ ds ds _ HX4.out HR4.out).mono ?_
 rintro e w5 ⟨rfl, hc⟩
 have hb5 := hb4.trans (Below.mono hc hb4.size)
 have hdd : decide (ds = ds) = true := by simp
 rw [hdd]
 clear hb4 hc HR4 HX4
 go_wp2
 go_returns
 exact ⟨rfl, hb5⟩

end Go.Proofs.YtedadhoneebfnaaDoor
