/- Contract of markText. -/
import Derived.Test.YtedadhoneebfnaaDoorLib
import Derived.Test.YtedadhoneebfnaaDoorRows
import Derived.Handy
import Derived.StillTailTactics
import Derived.Deep.QuietTactic
import Derived.BigQuiet
import Derived.Laws.IdiomStrings
set_option linter.unusedSimpArgs false
set_option linter.unusedVariables false
namespace Go.Proofs.YtedadhoneebfnaaDoor
open Go.RowKit

/-- The digits of a number; none for nought. -/
def tens (k : Nat) : List UInt8 := if h : k = 0 then [] else tens (k / 10) ++ [UInt8.ofNat (48 + k % 10)]
termination_by k
theorem tens_zero : tens 0 = [] := by unfold tens; simp
theorem tens_pos {k : Nat} (h : k ≠ 0) : tens k = tens (k / 10) ++ [UInt8.ofNat (48 + k % 10)] := by
  conv => lhs; unfold tens
  rw [dif_neg h]
theorem tens_len (k : Nat) : (tens k).length ≤ k := by
  induction k using Nat.strongRecOn with
  | ind k ih =>
    by_cases h : k = 0
    · subst h; simp [tens_zero]
    · rw [tens_pos h]
      have := ih (k / 10) (by omega)
      simp only [List.length_append, List.length_singleton]
      omega
def mt (k : Nat) : ByteArray := ⟨#[109]⟩ ++ ⟨(tens k).toArray⟩

set_option maxRecDepth 100000 in
set_option maxHeartbeats 400000 in
theorem markText_any (k : Nat) (w : World) (h0 : 0 < k) (h1 : k ≤ 1000000000) :
    Calls Tryd.prog 43 #[.int .i64 k] w fun e w' => e = .returned (.string (mt k)) ∧ Below w.heap.size w w' := by
  go_enter Tryd.func43, Tryd.ntmps43
  go_wp2_with fail
  go_loopw [0, 3] (fun kk s wr => ∃ (j : Nat) (out : List UInt8), kk = .int .i64 j ∧ s = .string ⟨out.toArray⟩ ∧ j ≤ k ∧ out.length + j ≤ k ∧ Hid (tens j ++ out = tens k) ∧ Below w.heap.size w wr) (fun kk _ _ => (intOf kk).toNat)
  case atStart => exact ⟨k, [], rfl, rfl, by omega, by simp, by simp [Hid], Below.refl _ _⟩
  case round =>
    obtain ⟨j, out, rfl, rfl, hj, hlen, hd, hbel⟩ := hrel
    have hz := hbel.size
    by_cases hj0 : 0 < j
    · obtain ⟨c, hc⟩ : ∃ c, UInt8.ofNat (48 + j % 10) = c := ⟨_, rfl⟩
      have hcn : (c.toNat : Int) = 48 + (j : Int) % 10 := by rw [← hc]; simp; omega
      have hst := tens_pos (show j ≠ 0 by omega)
      rw [hc] at hst
      have HST := Lib.hid hst
      have hcv : (convert 43 9 (.slice (some ⟨wr.heap.size, 0, none⟩) 1 1)).run Tryd.prog (wr.alloc (.cells #[.int .u8 (48 + (j : Int) % 10)] 5)) = .ok (.string ⟨#[c]⟩) (wr.alloc (.cells #[.int .u8 (48 + (j : Int) % 10)] 5)) :=
        run_convert_bytes_back _ _ _ 5 _ 1 [c] Tryd.underlying43 Tryd.underlying5 Tryd.underlying9 (by intro i hi; simp at hi; subst hi; rw [Addr.add_spot, World.cell?_alloc_at _ _ _ _ rfl]; simp [hcn])
      clear hst hc
      go_wp2
      go_roundw
      case rel =>
        refine ⟨j / 10, c :: out, by go_num, ?_, by omega, by simp only [List.length_cons]; omega, ?_, by (repeat' (first | (with_reducible exact Below.refl _ _) | (with_reducible assumption) | (with_reducible refine Below.drew ?_) | (with_reducible refine below_drewN ?_ _) | (with_reducible refine Below.alloc ?_ ?_ _) | (with_reducible refine Below.setCell ?_ ?_ _) | (refine Below.trans ?_ (Below.mono (by assumption) (by first | omega | (with_reducible exact Below.size (by assumption)) | (simp; done) | (simp; omega)))) | (with_reducible exact Nat.le_refl _) | omega | (with_reducible exact Below.size (by assumption)) | (simp only [World.size_alloc, World.size_setCell, World.size_drew]; omega) | (simp; done) | (simp; omega)))⟩
        · have : (⟨#[c]⟩ : ByteArray) ++ ⟨out.toArray⟩ = ⟨(c :: out).toArray⟩ := by
            apply bytes_ext; simp [ByteArray.data_append]
          first | rw [this] | simp [this]
        · unfold Hid; rw [← hd.out, HST.out]; simp
      case measure => simp [intOf]; omega
    · obtain rfl : j = 0 := by omega
      go_wp2
      go_returns
      refine ⟨?_, hbel⟩
      have := hd.out
      rw [tens_zero, List.nil_append] at this
      rw [mt, this]
      rfl

end Go.Proofs.YtedadhoneebfnaaDoor
