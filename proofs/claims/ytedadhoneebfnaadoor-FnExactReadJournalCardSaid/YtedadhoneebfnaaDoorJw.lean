/- The walk of the exact law of ReadJournal. -/
import Derived.Test.YtedadhoneebfnaaDoorJs
import Derived.Test.YtedadhoneebfnaaDoorDm
set_option linter.unusedSimpArgs false
set_option linter.unusedVariables false
namespace Go.Proofs.YtedadhoneebfnaaDoor
open Go.RowKit

theorem apart_of {w0 w1 : World} {b0 b1 n0 n1 : Nat} {E0 E1 : TypeId} {s0 s1 : Nat} {v u : Value} {xs ys : List Value} (h : w0.ownsRow b0 E0 s0 v n0 xs) (h' : w1.ownsRow b1 E1 s1 u n1 ys) (hb : w0.heap.size ≤ b1) : v.ownBlock = none ∨ v.ownBlock ≠ u.ownBlock := by
  cases hv : v.ownBlock with
  | none => exact .inl rfl
  | some k => exact .inr (fun e => by have h1 := own_lt h k hv; have h2 := own_ge h' k e.symm; omega)

set_option maxRecDepth 100000 in
set_option maxHeartbeats 4000000 in
theorem exactReadJournal_any (s : ByteArray) (w : World) (hs : s.size ≤ maxLen) :
    Calls Tryd.prog 6 #[.string s] w fun e w' => e = .returned (.bool true) ∧ Below w.heap.size w w' := by
  unfold maxLen at hs
  by_cases hb : 1048576 < s.size
  · go_enter Tryd.func6, Tryd.ntmps6
    go_wp2
    go_returns
    exact ⟨rfl, Below.refl _ _⟩
  have hb2 : s.size ≤ 1048576 := by omega
  obtain ⟨⟨ds, b⟩, hr⟩ : ∃ z, jL (tl s) = z := ⟨_, rfl⟩
  have hle : b ≤ s.size ∧ ds.length ≤ s.size := by
    have hf : ∀ (n : Nat) (l : List UInt8), (jF n l).2 ≤ l.length ∧ (jF n l).1.length ≤ l.length := by
      intro n
      induction n with
      | zero => intro l; simp [jF]
      | succ n ih =>
        intro l
        unfold jF
        split
        · rename_i h
          have h1 := ih (aft 10 l)
          have h2 := ix_mem.1 h.1
          rw [aft_len] at h1
          rw [bef_len]
          simp only [List.length_cons]
          omega
        · simp
    have := hf ((tl s).length + 1) (tl s)
    have e : jF ((tl s).length + 1) (tl s) = (ds, b) := hr
    rw [e, tl_size] at this
    exact this
  obtain ⟨hle1, hle2⟩ := hle
  have HR := Lib.hid hr
  have HB := Lib.hid hb2
  clear hr hb hs
  go_enter Tryd.func6, Tryd.ntmps6
  go_wp2_with fail
  refine (sReadJournal_any s _ (by omega)).mono ?_
  rintro e w1 ⟨v1, rfl, ho1, hb1⟩
  rw [HR.out] at ho1 ⊢
  simp only at ho1
  have hsl1 := ho1
  go_wp2_with fail
  refine (iReadJournal_any s _ (by omega)).mono ?_
  rintro e w2 ⟨v2, rfl, ho2, hb2'⟩
  rw [HR.out] at ho2 ⊢
  simp only at ho2
  have hbel2 : Below w.heap.size w w2 := hb1.trans (Below.mono hb2' hb1.size)
  have AP := Lib.hid (apart_of ho1 ho2 (Nat.le_refl _))
  have hge : Hid (∀ k, v2.ownBlock = some k → w.heap.size ≤ k) := fun k hk => by have := own_ge ho2 k hk; have := hb1.size; omega
  have ho1' := owns_below hb2' ho1
  clear hb1 hb2' ho1 hsl1
  go_wp2_with fail
  refine (eqExDeedS_any _ _ ds ds _ (Rds.ofOwns ho2) (Rds.ofOwns ho1')).mono ?_
  rintro e w3 ⟨rfl, hb3⟩
  rw [decide_eq_true rfl]
  have o1 := owns_below hb3 ho1'
  have o2 := owns_below hb3 ho2
  have hbel3 : Below w.heap.size w w3 := hbel2.trans (Below.mono hb3 hbel2.size)
  clear hb3 hbel2 ho1' ho2
  go_wp2_with fail
  refine (markDeeds_any _ v2 ds.length ds 1 _ o2 (by omega) (by omega) (by omega)).mono ?_
  rintro e w4 ⟨rfl, o4, hg4⟩
  have o14 := o1.kept hg4 AP.out
  have hbel4 : Below w.heap.size w w4 := hbel3.grown hg4 hbel3.size hge.out
  clear hg4 o1 o2 hbel3
  go_wp2_with fail
  refine (heldDeeds_any v2 ds.length 1 _ (Rds.ofOwns o4) (by omega) (by omega) (by omega)).mono ?_
  rintro e w5 ⟨rfl, hb5⟩
  have o5 := owns_below hb5 o4
  have o15 := owns_below hb5 o14
  have hbel5 : Below w.heap.size w w5 := hbel4.trans (Below.mono hb5 hbel4.size)
  clear hb5 hbel4 o4 o14
  have hk5 : ¬ ((1 + 3 * ds.length : Nat) : Int) < 0 := by omega
  have hq5 : (((1 + 3 * ds.length : Nat) : Int) != ((1 + 3 * ds.length : Nat) : Int)) = false := by simp
  go_wp2_with fail
  refine (iReadJournal_any s _ (by have := HB.out; omega)).mono ?_
  rintro e w6 ⟨v6, rfl, o6, hb6⟩
  rw [HR.out] at o6 ⊢
  simp only at o6
  have o56 := owns_below hb6 o5
  have o16 := owns_below hb6 o15
  have hbel6 : Below w.heap.size w w6 := hbel5.trans (Below.mono hb6 hbel5.size)
  clear hb6 hbel5 o5 o15
  go_wp2_with fail
  refine (eqExDeedS_any _ _ ds ds _ (Rds.ofOwns o6) (Rds.ofOwns o16)).mono ?_
  rintro e w7 ⟨rfl, hb7⟩
  rw [decide_eq_true rfl]
  have o57 := owns_below hb7 o56
  have hbel7 : Below w.heap.size w w7 := hbel6.trans (Below.mono hb7 hbel6.size)
  clear hb7 hbel6 o56 o16 o6
  go_wp2_with fail
  refine (heldDeeds_any v2 ds.length 1 _ (Rds.ofOwns o57) (by omega) (by omega) (by omega)).mono ?_
  rintro e w8 ⟨rfl, hb8⟩
  have hbel8 : Below w.heap.size w w8 := hbel7.trans (Below.mono hb8 hbel7.size)
  go_wp2
  go_returns
  exact ⟨rfl, hbel8⟩

end Go.Proofs.YtedadhoneebfnaaDoor
