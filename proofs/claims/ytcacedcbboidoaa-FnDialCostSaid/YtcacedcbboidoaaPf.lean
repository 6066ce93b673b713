/- Contracts of digitsOf and l6Text. -/
import Derived.Test.YtcacedcbboidoaaPlP
import Derived.Test.YtcacedcbboidoaaMt
import Derived.Laws.IdiomStrings
set_option linter.unusedSimpArgs false
set_option linter.unusedVariables false
namespace Go.Proofs.Ytcacedcbboidoaa
open Go.RowKit

theorem dig_cast (a : Nat) : ((UInt8.ofNat (48 + a % 4)).toNat : Int) = 48 + (a : Int) % 4 := by
  rw [UInt8.toNat_ofNat']; omega

set_option maxRecDepth 100000 in
set_option maxHeartbeats 400000 in
theorem digitsOf_any (x : Nat) (w : World) (hx : x < 64) :
    Calls Try.prog 93 #[.int .i64 x] w fun e w' => e = .returned (.string (num3 x 3)) ∧ Below w.heap.size w w' := by
  have hcv : (convert 22 9 (.slice (some ⟨w.heap.size, 0, none⟩) 3 3)).run Try.prog (w.alloc (.cells #[.int .u8 (48 + (x : Int) / 4 / 4 % 4), .int .u8 (48 + (x : Int) / 4 % 4), .int .u8 (48 + (x : Int) % 4)] 88)) = .ok (.string (num3 x 3)) (w.alloc (.cells #[.int .u8 (48 + (x : Int) / 4 / 4 % 4), .int .u8 (48 + (x : Int) / 4 % 4), .int .u8 (48 + (x : Int) % 4)] 88)) := by
    have := run_convert_bytes_back (P := Try.prog) (w.alloc (.cells #[.int .u8 (48 + (x : Int) / 4 / 4 % 4), .int .u8 (48 + (x : Int) / 4 % 4), .int .u8 (48 + (x : Int) % 4)] 88)) 22 9 5 ⟨w.heap.size, 0, none⟩ 3 (three x) Try.underlying22 Try.underlying5 Try.underlying9 (by
      intro i hi
      have h3 : i = 0 ∨ i = 1 ∨ i = 2 := by simp [three] at hi; omega
      rw [Addr.add_spot, World.cell?_alloc_at _ _ _ _ rfl]
      have e0 := dig_cast (x / 16)
      have e1 := dig_cast (x / 4)
      have e2 := dig_cast x
      rcases h3 with rfl | rfl | rfl
      · simp only [three, List.getD_cons_zero, e0]; simp; omega
      · simp only [three, List.getD_cons_zero, List.getD_cons_succ, e1]; simp; omega
      · simp only [three, List.getD_cons_zero, List.getD_cons_succ, e2]; simp; omega)
    exact this
  go_enter Try.func93, Try.ntmps93
  go_wp2
  go_rounds 4
  go_returns
  exact ⟨rfl, by (repeat' (first | (with_reducible exact Below.refl _ _) | (with_reducible assumption) | (with_reducible refine Below.drew ?_) | (with_reducible refine below_drewN ?_ _) | (with_reducible refine Below.alloc ?_ ?_ _) | (with_reducible refine Below.setCell ?_ ?_ _) | (refine Below.trans ?_ (Below.mono (by assumption) (by first | omega | (with_reducible exact Below.size (by assumption)) | (simp; done) | (simp; omega)))) | (with_reducible exact Nat.le_refl _) | omega | (with_reducible exact Below.size (by assumption)) | (simp only [World.size_alloc, World.size_setCell, World.size_drew]; omega) | (simp; done) | (simp; omega)))⟩

/-- The last j digits of a number. -/
def lowD (v : Nat) : Nat → List UInt8
  | 0 => []
  | j + 1 => UInt8.ofNat (48 + v / 4 ^ j % 4) :: lowD v j
theorem lowD_len (v j : Nat) : (lowD v j).length = j := by
  induction j with
  | zero => rfl
  | succ j ih => simp [lowD, ih]
theorem lowD_num3 (x l : Nat) (h1 : 1 ≤ l) (h3 : l ≤ 3) : (⟨(lowD (x / 4 ^ (3 - l)) l).toArray⟩ : ByteArray) = num3 x l := by
  have : l = 1 ∨ l = 2 ∨ l = 3 := by omega
  unfold num3
  rcases this with rfl | rfl | rfl
  · simp [lowD, three]
  · simp [lowD, three, Nat.div_div_eq_div_mul]
  · simp [lowD, three, Nat.div_div_eq_div_mul]

set_option maxRecDepth 100000 in
set_option maxHeartbeats 400000 in
theorem l6Text_any (v l : Nat) (w : World) (hv : v ≤ 1000000) (hl : l ≤ 8) :
    Calls Try.prog 92 #[.int .i64 v, .int .i64 l] w fun e w' => e = .returned (.string ⟨(lowD v l).toArray⟩) ∧ Below w.heap.size w w' := by
  go_enter Try.func92, Try.ntmps92
  go_wp2_with fail
  go_loopw [0, 5, 6] (fun vv s i wr => ∃ (j u : Nat), i = .int .i64 j ∧ vv = .int .i64 u ∧ Hid (u = v / 4 ^ j) ∧ u ≤ v ∧ s = .string ⟨(lowD v j).toArray⟩ ∧ j ≤ l ∧ Below w.heap.size w wr) (fun _ _ i _ => l - (intOf i).toNat)
  case atStart => exact ⟨0, v, rfl, rfl, by simp [Hid], by omega, rfl, by omega, Below.refl _ _⟩
  case round =>
    obtain ⟨j, u, rfl, rfl, hu, huv, rfl, hj, hbel⟩ := hrel
    have hz := hbel.size
    have hl8 : (lowD v j).length ≤ 8 := by rw [lowD_len]; omega
    by_cases hjl : j < l
    · obtain ⟨c, hc⟩ : ∃ c, UInt8.ofNat (48 + u % 4) = c := ⟨_, rfl⟩
      have hcn : (c.toNat : Int) = 48 + (u : Int) % 4 := by rw [← hc]; exact dig_cast u
      have hcv : (convert 22 9 (.slice (some ⟨wr.heap.size, 0, none⟩) 1 1)).run Try.prog (wr.alloc (.cells #[.int .u8 (48 + (u : Int) % 4)] 5)) = .ok (.string ⟨#[c]⟩) (wr.alloc (.cells #[.int .u8 (48 + (u : Int) % 4)] 5)) :=
        run_convert_bytes_back _ _ _ 5 _ 1 [c] Try.underlying22 Try.underlying5 Try.underlying9 (by intro i hi; simp at hi; subst hi; rw [Addr.add_spot, World.cell?_alloc_at _ _ _ _ rfl]; simp [hcn])
      have HC := Lib.hid hc
      clear hc
      go_wp2
      go_roundw
      case rel =>
        refine ⟨j + 1, u / 4, by go_num, by go_num, ?_, by omega, ?_, by omega, by (repeat' (first | (with_reducible exact Below.refl _ _) | (with_reducible assumption) | (with_reducible refine Below.drew ?_) | (with_reducible refine below_drewN ?_ _) | (with_reducible refine Below.alloc ?_ ?_ _) | (with_reducible refine Below.setCell ?_ ?_ _) | (refine Below.trans ?_ (Below.mono (by assumption) (by first | omega | (with_reducible exact Below.size (by assumption)) | (simp; done) | (simp; omega)))) | (with_reducible exact Nat.le_refl _) | omega | (with_reducible exact Below.size (by assumption)) | (simp only [World.size_alloc, World.size_setCell, World.size_drew]; omega) | (simp; done) | (simp; omega)))⟩
        · unfold Hid; rw [hu.out, Nat.div_div_eq_div_mul, Nat.pow_succ]
        · have : (⟨#[c]⟩ : ByteArray) ++ ⟨(lowD v j).toArray⟩ = ⟨(lowD v (j + 1)).toArray⟩ := by
            apply bytes_ext; simp only [ByteArray.data_append, lowD]; rw [← hu.out, HC.out]; simp
          first | rw [this] | simp [this]
      case measure => simp [intOf]; omega
    · obtain rfl : j = l := by omega
      go_wp2
      go_returns
      exact ⟨rfl, hbel⟩

end Go.Proofs.Ytcacedcbboidoaa
