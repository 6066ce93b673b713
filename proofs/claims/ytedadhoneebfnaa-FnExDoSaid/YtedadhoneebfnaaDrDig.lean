/- The draw of digits: l20Digits. -/
import Derived.Test.YtedadhoneebfnaaJ1
import Derived.Test.YtedadhoneebfnaaRd
set_option linter.unusedSimpArgs false
set_option linter.unusedVariables false
namespace Go.Proofs.Ytedadhoneebfnaa
open Go.RowKit

/-- What l20Digits leaves. -/
def DigPost (rb p : Nat) (most : Int) (w : World) (e : Ending) (w' : World) : Prop :=
 ∃ (s : ByteArray) (q : Nat), e = .returned (.string s) ∧ (s.size : Int) ≤ most ∧ digsB s = true ∧ p ≤ q ∧ q ≤ p + 10 ∧ Rdr w' rb q ∧ w.grownBy w' (some rb)

set_option maxHeartbeats 1000000 in
theorem l20Digits_any (rb p : Nat) (most : Int) (w : World) (h : Rdr w rb p) (hp : p ≤ 500000000) (h0 : 0 ≤ most) (h6 : most ≤ 8) :
  Calls Try.prog 85 #[.pointer (some ⟨rb, 0, none⟩), .int .i64 most] w (DigPost rb p most w) := by
 go_enter Try.func85, Try.ntmps85
 go_wp2_with fail
 refine (pick_any rb p _ _ h (by omega) (by omega)).mono ?_
 rintro e w1 ⟨x, rfl, hx0, hx1, hr1, hg1⟩
 have hx : x ≤ most := by omega
 clear hx1
 go_wp2_with fail
 go_loopw [5, 6] (fun s k wr => ∃ (j q : Nat) (st : ByteArray), k = .int .i64 j ∧ s = .string st ∧ (j : Int) + st.size ≤ most ∧ q + j ≤ p + 1 + 8 ∧ p ≤ q ∧ Hid (digsB st = true) ∧ Rdr wr rb q ∧ w.grownBy wr (some rb)) (fun _ k _ => (intOf k).toNat)
 case atStart => exact ⟨x.toNat, p + 1, ⟨#[]⟩, by go_num, rfl, by have : (⟨#[]⟩ : ByteArray).size = 0 := rfl; omega, by omega, by omega, rfl, hr1, hg1⟩
 case round =>
  obtain ⟨j, q, st, rfl, rfl, hj, hq1, hq2, hst, hr, hg⟩ := hrel
  by_cases hj0 : 0 < j
  ·
   have hrlt := hr.lt
   go_wp2_with fail
   refine (pick_any rb q _ _ hr.alloc (by omega) (by omega)).mono ?_
   rintro e w2 ⟨y, rfl, hy0, hy1, hr2, hg2⟩
   have hy : y < 4 := by omega
   have hC := Blk.gb hg2 (b := wr.heap.size) (by omega) (Blk.new rfl)
   have hcell := hC.at y.toNat
   obtain ⟨c, hc, hcd⟩ : ∃ c : UInt8, w2.cell? ⟨wr.heap.size, y.toNat, none⟩ = some (.string ⟨#[c]⟩) ∧ digB c = true := by
    have : y = 0 ∨ y = 1 ∨ y = 2 ∨ y = 3 := by omega
    rcases this with rfl | rfl | rfl | rfl
    ·
     exact ⟨48, hcell, by decide⟩
    ·
     exact ⟨49, hcell, by decide⟩
    ·
     exact ⟨50, hcell, by decide⟩
    ·
     exact ⟨51, hcell, by decide⟩
   have hg2' : w.grownBy w2 (some rb) := gb_trans (gb_alloc hg) hg2
   have HCD := Lib.hid hcd
   clear hcell hC hy1 hg2 hcd
   go_wp2
   go_roundw
   case rel =>
    have e1 : (st ++ (⟨#[c]⟩ : ByteArray)).size = st.size + 1 := by rw [ByteArray.size_append]; rfl
    refine ⟨j - 1, q + 1, st ++ ⟨#[c]⟩, by go_num, rfl, by omega, by omega, by omega, ?_, hr2, hg2'⟩
    have e2 : (st ++ (⟨#[c]⟩ : ByteArray)).data.toList = st.data.toList ++ [c] := by simp [ByteArray.data_append]
    unfold Hid digsB
    rw [e2, List.all_append, Bool.and_eq_true]
    exact ⟨hst.out, by simp [HCD.out]⟩
   case measure => simp [intOf]; omega
  ·
   obtain rfl : j = 0 := by omega
   go_wp2
   go_returns
   exact ⟨st, q, rfl, by omega, hst.out, by omega, by omega, hr, hg⟩

end Go.Proofs.Ytedadhoneebfnaa
