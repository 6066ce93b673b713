/- Contract of l8Via (reference). -/
import Derived.Test.YtedadhoneebfnaaGreatDoorLq
set_option linter.unusedSimpArgs false
set_option linter.unusedVariables false
namespace Go.Proofs.YtedadhoneebfnaaGreatDoor
open Go.RowKit

def viaX (cs : List Cl) (x : Int) : Int := match cs.find? (hasE x) with
 | some c => c.2.2
 | none => -1
theorem via_some {cs : List Cl} {x : Int} {c : Cl} (h : cs.find? (hasE x) = some c) : viaX cs x = c.2.2 := by simp [viaX, h]
theorem via_none {cs : List Cl} {x : Int} (h : cs.find? (hasE x) = none) : viaX cs x = -1 := by simp [viaX, h]

set_option maxHeartbeats 2000000 in
theorem l8Via_any (O E M : Int) (vp vc : Value) (ps : List ByteArray) (cs : List Cl) (x : Int) (w : World) (hR : ExRd w vp vc ps cs) :
  Calls Tryz.prog 83 #[.agg #[.int .i64 O, .int .i64 E, .int .i64 M, vp, vc], .int .i64 x] w fun e w' => e = .returned (.int .i64 (viaX cs x)) ∧ Below w.heap.size w w' := by
 have hB := Blk.new (w := w) (cs := #[.int .i64 O, .int .i64 E, .int .i64 M, vp, vc]) (T := 33) rfl
 have hbel0 : Below w.heap.size w (w.alloc (.cells #[.int .i64 O, .int .i64 E, .int .i64 M, vp, vc] 33)) := by (exact grownA)
 obtain ⟨a1, c1, rfl, _⟩ := hR.plan.open1
 obtain ⟨_, hm1, a2, c2, rfl, hn1, hc1⟩ := hR.calls
 unfold maxLen at hm1
 obtain ⟨n, hn⟩ : ∃ n, cs.length = n := ⟨_, rfl⟩
 rw [hn] at hB hbel0 hm1 hn1 hc1 ⊢
 have HN := Lib.hid hn
 clear hR hn
 go_enter Tryz.func83, Tryz.ntmps83
 go_wp2_with fail
 go_loopw [5] (fun i wr => ∃ k : Nat, k ≤ n ∧ i = .int .i64 k ∧ Hid (noneTo cs x k) ∧ Below w.heap.size w wr ∧ Blk wr w.heap.size #[.int .i64 O, .int .i64 E, .int .i64 M, .slice a1 ps.length c1, .slice a2 n c2] 33) (fun i _ => n - (intOf i).toNat)
 case atStart => exact ⟨0, by omega, rfl, fun j p h => absurd h (by omega), hbel0, hB⟩
 case round =>
  obtain ⟨k, hk, rfl, hno, hbel, hBw⟩ := hrel
  obtain ⟨p0, p1, p2, p3, p4, _, _, _, _, _, plt⟩ := hBw.five
  by_cases hkn : k < n
  ·
   rcases hc1 with hc1 | ⟨b, off, rfl, hb, hc1⟩
   ·
    omega
   obtain ⟨c, hc⟩ : ∃ c, cs[k]? = some c := ⟨_, List.getElem?_eq_getElem (by rw [HN.out]; omega)⟩
   obtain ⟨g1, g2, g3⟩ := ccells_at cs k c hc
   have HC := Lib.hid hc
   have k1 : wr.cell? ⟨b, off + k * 3, none⟩ = some (.int .i64 c.1) := by rw [hbel.cell (p := ⟨b, off + k * 3, none⟩) hb, hc1 _ (by omega), g1]
   have k2 : wr.cell? ⟨b, off + k * 3 + 1, none⟩ = some (.int .i64 c.2.1) := by rw [Nat.add_assoc, hbel.cell (p := ⟨b, off + (k * 3 + 1), none⟩) hb, hc1 _ (by omega), g2]
   have k3 : wr.cell? ⟨b, off + k * 3 + 2, none⟩ = some (.int .i64 c.2.2) := by rw [Nat.add_assoc, hbel.cell (p := ⟨b, off + (k * 3 + 2), none⟩) hb, hc1 _ (by omega), g3]
   clear hc1 hc g1 g2 g3
   obtain ⟨u, v, t⟩ := c
   simp only at k1 k2 k3
   by_cases h1 : u = x
   ·
    have hq1 : ((u : Int) == x) = true := by simpa using h1
    have HFF : Hid (viaX cs x = t) := via_some (find_at hno.out HC.out (by simp [hasE, h1]))
    clear h1
    go_wp2
    go_returns
    exact ⟨by rw [HFF.out]; rfl, hbel⟩
   ·
    have hq1 : ((u : Int) == x) = false := by simpa using h1
    by_cases h2 : v = x
    ·
     have hq2 : ((v : Int) == x) = true := by simpa using h2
     have HFF : Hid (viaX cs x = t) := via_some (find_at hno.out HC.out (by simp [hasE, h2]))
     clear h1 h2
     go_wp2
     go_returns
     exact ⟨by rw [HFF.out]; rfl, hbel⟩
    ·
     have hq2 : ((v : Int) == x) = false := by simpa using h2
     have HST := Lib.hid (hno.out.succ HC.out (by simp [hasE, h1, h2]))
     clear h1 h2
     go_wp2_with fail
     go_roundw
     case rel => exact ⟨k + 1, by omega, by go_num, HST.out, hbel, hBw⟩
     case measure => simp [intOf]; omega
  ·
   obtain rfl : k = n := by omega
   have HF : Hid (viaX cs x = -1) := via_none (find_none (by rw [HN.out]; exact hno.out))
   go_wp2
   go_returns
   exact ⟨by rw [HF.out]; rfl, hbel⟩

end Go.Proofs.YtedadhoneebfnaaGreatDoor
