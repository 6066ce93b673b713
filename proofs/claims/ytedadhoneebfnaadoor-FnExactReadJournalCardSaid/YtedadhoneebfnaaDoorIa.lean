/- Contract of strconv.Itoa for 0 to 99. -/
import Derived.Test.YtedadhoneebfnaaDoorDt
set_option linter.unusedSimpArgs false
set_option linter.unusedVariables false
namespace Go.Proofs.YtedadhoneebfnaaDoor
open Go.RowKit

theorem ret_str {a b : ByteArray} (h : a = b) : Ending.returned (.string a) = .returned (.string b) := by rw [h]
set_option maxRecDepth 100000 in
theorem digs_cut : ∀ n, n < 10 → (⟨#[48, 49, 50, 51, 52, 53, 54, 55, 56, 57, 97, 98, 99, 100, 101, 102, 103, 104, 105, 106, 107, 108, 109, 110, 111, 112, 113, 114, 115, 116, 117, 118, 119, 120, 121, 122]⟩ : ByteArray).extract n (n + 1) = two n := by decide +kernel
set_option maxRecDepth 100000 in
theorem small_cut : ∀ n, n < 100 → 10 ≤ n → (⟨#[48, 48, 48, 49, 48, 50, 48, 51, 48, 52, 48, 53, 48, 54, 48, 55, 48, 56, 48, 57, 49, 48, 49, 49, 49, 50, 49, 51, 49, 52, 49, 53, 49, 54, 49, 55, 49, 56, 49, 57, 50, 48, 50, 49, 50, 50, 50, 51, 50, 52, 50, 53, 50, 54, 50, 55, 50, 56, 50, 57, 51, 48, 51, 49, 51, 50, 51, 51, 51, 52, 51, 53, 51, 54, 51, 55, 51, 56, 51, 57, 52, 48, 52, 49, 52, 50, 52, 51, 52, 52, 52, 53, 52, 54, 52, 55, 52, 56, 52, 57, 53, 48, 53, 49, 53, 50, 53, 51, 53, 52, 53, 53, 53, 54, 53, 55, 53, 56, 53, 57, 54, 48, 54, 49, 54, 50, 54, 51, 54, 52, 54, 53, 54, 54, 54, 55, 54, 56, 54, 57, 55, 48, 55, 49, 55, 50, 55, 51, 55, 52, 55, 53, 55, 54, 55, 55, 55, 56, 55, 57, 56, 48, 56, 49, 56, 50, 56, 51, 56, 52, 56, 53, 56, 54, 56, 55, 56, 56, 56, 57, 57, 48, 57, 49, 57, 50, 57, 51, 57, 52, 57, 53, 57, 54, 57, 55, 57, 56, 57, 57]⟩ : ByteArray).extract (n * 2) (n * 2 + 2) = two n := by decide +kernel

set_option maxRecDepth 100000 in
set_option maxHeartbeats 1000000 in
theorem small_any (n : Nat) (w : World) (h : n ≤ 99) :
    Calls Tryd.prog 76 #[.int .i64 n] w fun e w' => e = .returned (.string (two n)) ∧ w = w' := by
  by_cases hn : n < 10
  · go_enter Tryd.func76, Tryd.ntmps76
    go_wp2
    go_returns
    exact ⟨ret_str (digs_cut n hn), rfl⟩
  · have h2 : ¬ (n : Int) < 10 := by omega
    go_enter Tryd.func76, Tryd.ntmps76
    go_wp2
    go_returns
    exact ⟨ret_str (small_cut n (by omega) (by omega)), rfl⟩

set_option maxRecDepth 100000 in
set_option maxHeartbeats 1000000 in
theorem itoa_any (n : Nat) (w : World) (h : n ≤ 99) :
    Calls Tryd.prog 34 #[.int .i64 n] w fun e w' => e = .returned (.string (two n)) ∧ w = w' := by
  have K2 : Hid (∀ w : World, Calls Tryd.prog 62 #[.int .i64 n, .int .i64 10] w fun e w' => e = .returned (.string (two n)) ∧ w = w') := by
    intro w
    have h3 : (0 : Int) ≤ (n : Int) := by omega
    have h4 : (n : Int) < 100 := by omega
    go_enter Tryd.func62, Tryd.ntmps62
    go_wp2_with fail
    refine (small_any n _ h).mono ?_
    rintro e w1 ⟨rfl, rfl⟩
    go_wp2
    go_returns
    exact ⟨rfl, rfl⟩
  have K1 : Hid (∀ w : World, Calls Tryd.prog 52 #[.int .i64 n] w fun e w' => e = .returned (.string (two n)) ∧ w = w') := by
    intro w
    go_enter Tryd.func52, Tryd.ntmps52
    go_wp2_with fail
    refine (K2.out _).mono ?_
    rintro e w1 ⟨rfl, rfl⟩
    go_wp2
    go_returns
    exact ⟨rfl, rfl⟩
  go_enter Tryd.func34, Tryd.ntmps34
  go_wp2_with fail
  first
    | refine (K1.out _).mono ?_
    | refine (K2.out _).mono ?_
  rintro e w1 ⟨rfl, rfl⟩
  go_wp2
  go_returns
  exact ⟨rfl, rfl⟩

end Go.Proofs.YtedadhoneebfnaaDoor
