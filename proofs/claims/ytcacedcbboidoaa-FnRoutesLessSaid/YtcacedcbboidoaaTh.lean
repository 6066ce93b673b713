/- Contract of three. -/
import Derived.Test.YtcacedcbboidoaaDig
import Derived.Test.YtcacedcbboidoaaQ
import Derived.BigQuiet
import Derived.IntWalk
set_option linter.unusedSimpArgs false
set_option linter.unusedVariables false
namespace Go.Proofs.Ytcacedcbboidoaa
open Go.RowKit

def dgs : ByteArray := ⟨#[48, 49, 50, 51]⟩
def tri (n : Nat) : ByteArray := dgs.extract (n / 16 % 4) (n / 16 % 4 + 1) ++ dgs.extract (n / 4 % 4) (n / 4 % 4 + 1) ++ dgs.extract (n % 4) (n % 4 + 1)
theorem tri_ok (n : Nat) : digsB (tri n) = true ∧ (tri n).size = 3 := by
  have key : ∀ a, a < 4 → ∀ b, b < 4 → ∀ c, c < 4 → digsB (dgs.extract a (a + 1) ++ dgs.extract b (b + 1) ++ dgs.extract c (c + 1)) = true ∧ (dgs.extract a (a + 1) ++ dgs.extract b (b + 1) ++ dgs.extract c (c + 1)).size = 3 := by
    decide +kernel
  exact key _ (Nat.mod_lt _ (by decide)) _ (Nat.mod_lt _ (by decide)) _ (Nat.mod_lt _ (by decide))

set_option maxRecDepth 100000 in
set_option maxHeartbeats 1000000 in
theorem three_any (n : Nat) (w : World) (hn : n < 64) :
    Calls Try.prog 62 #[.int .i64 n] w fun e w' => e = .returned (.string (tri n)) ∧ ∃ q, w' = w.drewN q := by
  obtain ⟨a, ha⟩ : ∃ a, n / 16 % 4 = a := ⟨_, rfl⟩
  obtain ⟨b, hb⟩ : ∃ b, n / 4 % 4 = b := ⟨_, rfl⟩
  obtain ⟨c, hc⟩ : ∃ c, n % 4 = c := ⟨_, rfl⟩
  have ha4 : a < 4 := by omega
  have hb4 : b < 4 := by omega
  have hc4 : c < 4 := by omega
  have HT : Hid (tri n = dgs.extract a (a + 1) ++ dgs.extract b (b + 1) ++ dgs.extract c (c + 1)) := by unfold Hid tri; rw [ha, hb, hc]
  have e1 : ((n : Int) / 16 % 4) = (a : Int) := by omega
  have e2 : ((n : Int) / 4 % 4) = (b : Int) := by omega
  have e3 : ((n : Int) % 4) = (c : Int) := by omega
  go_enter Try.func62, Try.ntmps62
  go_wp2_with fail
  go_quiet (fail)
  go_wp2
  go_returns
  exact ⟨by rw [HT.out]; rfl, _, rfl⟩

end Go.Proofs.Ytcacedcbboidoaa
