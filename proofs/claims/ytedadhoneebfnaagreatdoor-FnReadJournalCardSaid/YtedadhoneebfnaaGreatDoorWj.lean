/- The draw of the text of a journal. -/
import Derived.Test.YtedadhoneebfnaaGreatDoorWr
import Derived.Test.YtedadhoneebfnaaGreatDoorDu
set_option linter.unusedSimpArgs false
set_option linter.unusedVariables false
namespace Go.Proofs.YtedadhoneebfnaaGreatDoor
open Go.RowKit

/-- The text of a journal that was drawn. -/
def JxPost (w : World) (e : Ending) (w' : World) : Prop := ∃ s : ByteArray, e = .returned (.string s) ∧ s.size ≤ 400 ∧ Below w.heap.size w w'

set_option maxRecDepth 100000 in
set_option maxHeartbeats 4000000 in
theorem DrawReadJournal_any (a : Option Addr) (len cap : Nat) (zs : List Int) (w : World) (h : Code w a len cap zs) :
  Calls Tryz.prog 20 #[.slice a len cap] w (JxPost w) := by
 go_enter Tryz.func20, Tryz.ntmps20
 go_wp2_with fail
 refine (open_any _ _ _ _ _ h).mono ?_
 rintro e w1 ⟨rb, rfl, hrb, hr, hb1⟩
 have hrw := hr.lt
 have hzz := hb1.size
 clear h
 go_wp2_with fail
 refine (l20Written_any rb 0 _ hr (by omega)).mono ?_
 rintro e w2 ⟨v, ds, q, rfl, ho, hl, hds, -, hq, hrd, hg⟩
 have hB2 := below_gb hg hzz hrb hb1
 have HDS : Hid (∀ d ∈ ds, d.2.2.size ≤ maxLen) := fun d hd => by have := (hds d hd).1; unfold maxLen; omega
 have HR := Lib.hid (Rds.ofOwns ho)
 have htz : (jtxt ds).size ≤ 14 * ds.length := by have := jcat_size ds; unfold jtxt; split; exact this; exact Nat.zero_le _
 obtain ⟨t, ht⟩ : ∃ t, jtxt ds = t := ⟨_, rfl⟩
 have HT := Lib.hid ht
 rw [ht] at htz
 clear hr hg hb1 hds ho ht
 go_wp2_with fail
 refine (sJournalText_any v ds _ HR.out (by omega) HDS.out).mono ?_
 rintro e w3 ⟨rfl, hc⟩
 rw [HT.out]
 have hB3 := hB2.trans (Below.mono hc hB2.size)
 have hr3 := hrd.below hc hrd.lt
 clear hrd hc hB2 HR
 have hz3 := hB3.size
 go_wp2_with fail
 refine (pick_any rb q _ _ hr3 (by omega) (by omega)).mono ?_
 rintro e w5 ⟨y, rfl, hya, hyb, hr5, hg5⟩
 have hB5 := below_gb hg5 hz3 hrb hB3
 have hz5 := hB5.size
 clear hr3 hg5 hB3
 have hy : y = 0 ∨ y = 1 ∨ y = 2 := by omega
 clear hya hyb
 rcases hy with rfl | rfl | rfl
 ·
  go_wp2_with fail
  refine (l20Spoil_any rb (q + 1) t _ hr5 (by omega) (by omega)).mono ?_
  rintro e w6 ⟨u, q6, rfl, hu, hqc, hqd, hr6, hg6⟩
  have hB6 := below_gb hg6 hz5 hrb hB5
  clear hr5 hr6 hg6 hB5
  go_wp2
  go_returns
  exact ⟨u, rfl, by omega, hB6⟩
 ·
  go_wp2_with fail
  refine (pick_any rb (q + 1) _ _ hr5 (by omega) (by first | omega | (simp only []; omega))).mono ?_
  rintro e w6 ⟨k, rfl, hka, hkb, hr6, hg6⟩
  have hB6 := below_gb hg6 hz5 hrb hB5
  clear hr5 hr6 hg6 hB5
  obtain ⟨k, rfl⟩ := Int.eq_ofNat_of_zero_le hka
  have i1 : (0 : Int) ≤ (k : Int) := by omega
  have i2 : (k : Int) ≤ (t.size : Int) := by omega
  have hx : (t.extract 0 k).size ≤ t.size := by rw [ByteArray.size_extract]; omega
  clear hka hkb
  go_wp2
  go_returns
  exact ⟨_, rfl, by omega, hB6⟩
 ·
  clear hr5
  go_wp2
  go_returns
  exact ⟨t, rfl, by omega, hB5⟩

end Go.Proofs.YtedadhoneebfnaaGreatDoor
