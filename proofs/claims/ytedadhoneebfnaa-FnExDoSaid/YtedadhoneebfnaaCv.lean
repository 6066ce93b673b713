/- Contracts of CallsValid (program and reference). -/
import Derived.Test.YtedadhoneebfnaaJ2
import Derived.Handy
import Derived.IntWalk
import Derived.Deep.QuietTactic
import Derived.BigQuiet
set_option linter.unusedSimpArgs false
set_option linter.unusedVariables false
namespace Go.Proofs.Ytedadhoneebfnaa
open Go.RowKit

theorem wrap_quo {L E x : Int} (h0 : 0 ≤ x) (h1 : x < L) (hL : L ≤ 12) (hE : 0 ≤ E) : IntKind.i64.wrap (x / E) = x / E :=
 IntWalk.i64_in _ (by have a1 := Int.ediv_nonneg h0 hE; have a2 := Int.ediv_le_self E h0; omega)
theorem lines_le {O E M : Int} (h : ShapeOk O E M) : O * E ≤ 12 := by
 have ho := h.o
 have he := h.e
 exact Int.le_trans (Int.mul_le_mul_of_nonneg_right ho.2 (by omega)) (Int.mul_le_mul_of_nonneg_left he.2 (by omega))

set_option maxRecDepth 100000 in
set_option maxHeartbeats 4000000 in
theorem iCallsValid_any (O E M : Int) (v : Value) (cs : List Cl) (w : World) (hv : Rds w v cs.length 3 (ccells cs)) :
  Calls Try.prog 70 #[.agg #[.int .i64 O, .int .i64 E, .int .i64 M], v] w fun e w' => e = .returned (.bool (callsB O E M cs)) ∧ Below w.heap.size w w' := by
 obtain ⟨hl1, hm1, a, ca, rfl, hn1, hc1⟩ := hv
 unfold maxLen at hm1
 have hB := Blk.new (w := w) (cs := #[.int .i64 O, .int .i64 E, .int .i64 M]) (T := 30) rfl
 have hbel0 : Below w.heap.size w (w.alloc (.cells #[.int .i64 O, .int .i64 E, .int .i64 M] 30)) := by (exact grownA)
 obtain ⟨n, hn⟩ : ∃ n, cs.length = n := ⟨_, rfl⟩
 rw [hn] at hm1 hn1 hc1 ⊢
 have HN := Lib.hid hn
 clear hn hl1
 go_enter Try.func70, Try.ntmps70
 go_wp2_with fail
 refine (iShapeValid_any _ _ _ _).mono ?_
 rintro e w1 ⟨rfl, hb⟩
 have hbel1 : Below w.heap.size w w1 := by (exact grownA)
 have hB1 := hB.below hb (by simp)
 have hz1 := hbel1.size
 clear hB hb hbel0
 obtain ⟨d, hd⟩ : ∃ d, shapeB O E M = d := ⟨_, rfl⟩
 have HD := Lib.hid hd
 rw [hd]
 clear hd
 cases d
 ·
  have HF := Lib.hid (callsB_shape cs HD.out)
  go_wp2
  go_returns
  exact ⟨by rw [HF.out]; rfl, hbel1⟩
 ·
  have hsh := (shapeB_iff _ _ _).1 HD.out
  have HSH := Lib.hid hsh
  have he := hsh.e
  have hlt1 := hB1.lt
  clear hsh
  go_wp2_with fail
  go_loopw [14] (fun i wr => ∃ k : Nat, k ≤ n ∧ i = .int .i64 k ∧ Hid (ClTo (O * E) E M cs k) ∧ Below w1.heap.size w1 wr) (fun i _ => n - (intOf i).toNat)
  case atStart => exact ⟨0, by omega, rfl, ClTo.zero _ _ _ _, Below.refl _ _⟩
  case round =>
   obtain ⟨k, hk, rfl, hok, hbel⟩ := hrel
   obtain ⟨wo, rfl⟩ : ∃ wo : World, wo = wr := ⟨_, rfl⟩
   have hz := hbel.size
   by_cases hkn : k < n
   ·
    rcases hc1 with hc1 | ⟨b, off, rfl, hb, hc1⟩
    ·
     omega
    obtain ⟨c, hc⟩ : ∃ c, cs[k]? = some c := ⟨_, List.getElem?_eq_getElem (by rw [HN.out]; omega)⟩
    obtain ⟨g1, g2, g3⟩ := ccells_at cs k c hc
    have hcw : ∀ i, wo.cell? ⟨b, off + i, none⟩ = w.cell? ⟨b, off + i, none⟩ := fun i => (hbel.cell (p := ⟨b, off + i, none⟩) (by show b < _; omega)).trans (hbel1.cell (p := ⟨b, off + i, none⟩) hb)
    have c1 : wo.cell? ⟨b, off + k * 3, none⟩ = some (.int .i64 c.1) := by rw [hcw, hc1 _ (by omega), g1]
    have c2 : wo.cell? ⟨b, off + k * 3 + 1, none⟩ = some (.int .i64 c.2.1) := by rw [Nat.add_assoc, hcw, hc1 _ (by omega), g2]
    have c3 : wo.cell? ⟨b, off + k * 3 + 2, none⟩ = some (.int .i64 c.2.2) := by rw [Nat.add_assoc, hcw, hc1 _ (by omega), g3]
    have HC := Lib.hid hc
    have HC1 := Lib.hid hc1
    have hBr := hB1.below hbel hlt1
    obtain ⟨s1, s2, s3, f1, f2, f3, hslt⟩ := hBr.three
    obtain ⟨x, y, m⟩ := c
    simp only at c1 c2 c3
    clear hc g1 g2 g3 hcw hc1
    have hCb := Blk.new (w := wo) (cs := #[.int .i64 x, .int .i64 y, .int .i64 m]) (T := 57) rfl
    have hbr : Below w1.heap.size w1 (wo.alloc (.cells #[.int .i64 x, .int .i64 y, .int .i64 m] 57)) := by (exact grownA)
    go_wp2_with fail
    refine (hasLine_any _ _ _ _ _ HSH.out).mono ?_
    rintro e w2 ⟨rfl, hb2⟩
    have hCb2 := hCb.below hb2 (by simp)
    have hbel2 : Below w1.heap.size w1 w2 := by (exact grownA)
    have hB2 := hB1.below hbel2 hlt1
    clear c1 c2 c3 s1 s2 s3 f1 f2 f3 hBr hCb hb2 hbr hslt
    obtain ⟨t1, t2, t3, e1, e2, e3, hclt⟩ := hCb2.three
    obtain ⟨s1, s2, s3, f1, f2, f3, hslt⟩ := hB2.three
    have hbelF : Below w.heap.size w w2 := by (exact grownA)
    obtain ⟨d1, hd1⟩ : ∃ d, lnB (O * E) x = d := ⟨_, rfl⟩
    have HD1 := Lib.hid hd1
    rw [hd1]
    clear hd1
    cases d1
    ·
     have HF := Lib.hid (callsB_at (O := O) (E := E) (M := M) HC.out (fun h => by have h1 := HD1.out; have h2 := h.1; simp [lnB] at h1; simp only at h2; omega))
     go_wp2
     go_returns
     exact ⟨by rw [HF.out]; rfl, hbelF⟩
    ·
     go_wp2_with fail
     refine (hasLine_any _ _ _ _ _ HSH.out).mono ?_
     rintro e w3 ⟨rfl, hb3⟩
     have hCb3 := hCb2.below hb3 hclt
     have hbel3 : Below w1.heap.size w1 w3 := by (exact grownA)
     have hB3 := hB1.below hbel3 hlt1
     have hbelG : Below w.heap.size w w3 := by (exact grownA)
     clear t1 t2 t3 s1 s2 s3 e1 e2 e3 f1 f2 f3 hCb2 hB2 hbelF hslt
     obtain ⟨t1, t2, t3, e1, e2, e3, hclt3⟩ := hCb3.three
     obtain ⟨s1, s2, s3, f1, f2, f3, hslt⟩ := hB3.three
     obtain ⟨d1, hd1⟩ : ∃ d, lnB (O * E) y = d := ⟨_, rfl⟩
     have HD2 := Lib.hid hd1
     rw [hd1]
     clear hd1 hb3
     cases d1
     ·
      have HF := Lib.hid (callsB_at (O := O) (E := E) (M := M) HC.out (fun h => by have h1 := HD2.out; have h2 := h.2.1; simp [lnB] at h1; simp only at h2; omega))
      go_wp2
      go_returns
      exact ⟨by rw [HF.out]; rfl, hbelG⟩
     ·
      by_cases hm0 : m < 0
      ·
       have HF := Lib.hid (callsB_at (O := O) (E := E) (M := M) HC.out (fun h => by have h2 := h.2.2; simp only at h2; omega))
       go_wp2
       go_returns
       exact ⟨by rw [HF.out]; rfl, hbelG⟩
      ·
       by_cases hm1 : M ≤ m
       ·
        have HF := Lib.hid (callsB_at (O := O) (E := E) (M := M) HC.out (fun h => by have h2 := h.2.2; simp only at h2; omega))
        go_wp2
        go_returns
        exact ⟨by rw [HF.out]; rfl, hbelG⟩
       ·
        have hx0 : 0 ≤ x := by have := HD1.out; simp [lnB] at this; omega
        have hy0 : 0 ≤ y := by have := HD2.out; simp [lnB] at this; omega
        have HAT : Hid (ClAt (O * E) M (x, y, m)) := by
         have h1 := HD1.out; have h2 := HD2.out
         simp [lnB] at h1 h2
         exact ⟨h1, h2, by simp only; omega, by simp only; omega⟩
        go_wp2_with fail
        obtain ⟨bc, hbc⟩ : ∃ bc, wo.heap.size = bc := ⟨_, rfl⟩
        have hzr : w1.heap.size ≤ bc := by omega
        rw [hbc] at hCb3 hclt3 ⊢
        clear t1 t2 t3 s1 s2 s3 e1 e2 e3 f1 f2 f3 hslt hbel hbel2 hclt
        go_loopw [47] (fun i wi => ∃ j : Nat, j ≤ k ∧ i = .int .i64 j ∧ Hid (∀ i d, i < j → cs[i]? = some d → Apart E d (x, y, m)) ∧ Below w3.heap.size w3 wi) (fun i _ => k - (intOf i).toNat)
        case atStart => exact ⟨0, by omega, rfl, fun i d h => absurd h (by omega), Below.refl _ _⟩
        case round =>
         obtain ⟨j, hj, rfl, hap, hbi⟩ := hrel
         have hzi := hbi.size
         have hz3 := hbel3.size
         by_cases hjk : j < k
         ·
          obtain ⟨d, hd⟩ : ∃ d, cs[j]? = some d := ⟨_, List.getElem?_eq_getElem (by rw [HN.out]; omega)⟩
          obtain ⟨g1, g2, g3⟩ := ccells_at cs j d hd
          have hbz : b < w1.heap.size := by have := hbel1.size; omega
          have hcw : ∀ i, wr.cell? ⟨b, off + i, none⟩ = w.cell? ⟨b, off + i, none⟩ := fun i => ((hbi.cell (p := ⟨b, off + i, none⟩) (by show b < _; omega)).trans (hbel3.cell (p := ⟨b, off + i, none⟩) hbz)).trans (hbel1.cell (p := ⟨b, off + i, none⟩) hb)
          have c1 : wr.cell? ⟨b, off + j * 3, none⟩ = some (.int .i64 d.1) := by rw [hcw, HC1.out _ (by omega), g1]
          have c2 : wr.cell? ⟨b, off + j * 3 + 1, none⟩ = some (.int .i64 d.2.1) := by rw [Nat.add_assoc, hcw, HC1.out _ (by omega), g2]
          have c3 : wr.cell? ⟨b, off + j * 3 + 2, none⟩ = some (.int .i64 d.2.2) := by rw [Nat.add_assoc, hcw, HC1.out _ (by omega), g3]
          have HDD := Lib.hid hd
          obtain ⟨t1, t2, t3, e1, e2, e3, hclt⟩ := (hCb3.below hbi hclt3).three
          obtain ⟨s1, s2, s3, f1, f2, f3, hslt⟩ := (hB3.below hbi (by omega)).three
          obtain ⟨x', y', m'⟩ := d
          simp only at c1 c2 c3
          have hAD := hok.out.1 j _ hjk hd
          have hx0' : 0 ≤ x' := hAD.1.1
          have hy0' : 0 ≤ y' := hAD.2.1.1
          have hOE := lines_le HSH.out
          have hw1 := wrap_quo hx0' hAD.1.2 hOE (show 0 ≤ E by omega)
          have hw2 := wrap_quo hy0' hAD.2.1.2 hOE (show 0 ≤ E by omega)
          have hw3 := wrap_quo hx0 HAT.out.1.2 hOE (show 0 ≤ E by omega)
          have hw4 := wrap_quo hy0 HAT.out.2.1.2 hOE (show 0 ≤ E by omega)
          clear hd g1 g2 g3 hcw hAD hOE
          have hbelI : Below w.heap.size w wr := by (exact grownA)
          have hbelW := hbelI
          have hzw := hbelI.size
          have hbelJ : Below w1.heap.size w1 wr := hbel3.trans (Below.mono hbi hz3)
          by_cases hxx : x' = x
          ·
           have HF := Lib.hid (callsB_apart (O := O) (E := E) (M := M) hjk HDD.out HC.out (fun h => h.1 hxx))
           subst hxx
           have hq : ((x' : Int) == x') = true := by simp
           go_wp2
           go_returns
           exact ⟨by rw [HF.out]; rfl, by (exact grownA)⟩
          ·
           have hq : ((x' : Int) == x) = false := by simpa using hxx
           by_cases hyy : y' = y
           ·
            have HF := Lib.hid (callsB_apart (O := O) (E := E) (M := M) hjk HDD.out HC.out (fun h => h.2.1 hyy))
            subst hyy
            have hq2 : ((y' : Int) == y') = true := by simp
            go_wp2
            go_returns
            exact ⟨by rw [HF.out]; rfl, by (exact grownA)⟩
           ·
            have hq2 : ((y' : Int) == y) = false := by simpa using hyy
            have hE0 : (E == 0) = false := by simp; omega
            have hE1 : ¬ E = 0 := by omega
            by_cases hmm : m' = m
            ·
             have hq3 : ((m' : Int) == m) = true := by simpa using hmm
             have d1 : Int.tdiv x' E = x' / E := Int.tdiv_eq_ediv_of_nonneg hx0'
             have d2 : Int.tdiv x E = x / E := Int.tdiv_eq_ediv_of_nonneg hx0
             have d3 : Int.tdiv y' E = y' / E := Int.tdiv_eq_ediv_of_nonneg hy0'
             have d4 : Int.tdiv y E = y / E := Int.tdiv_eq_ediv_of_nonneg hy0
             go_wp2_with fail
             by_cases hp1 : x' / E = x / E
             ·
              have hq4 : (x' / E == x / E) = true := by simpa using hp1
              have HF := Lib.hid (callsB_apart (O := O) (E := E) (M := M) hjk HDD.out HC.out (fun h => ((apart_iff _ _ _).1 h).2.2 ⟨hmm, .inl hp1⟩))
              go_quiet (fail)
              go_wp2
              go_returns
              exact ⟨by rw [HF.out]; rfl, below_drewN (hbelW.alloc (by omega) _) _⟩
             ·
              have hq4 : (x' / E == x / E) = false := by simpa using hp1
              have hr4a : decide (x' / E = x / E) = false := by simpa using hp1
              have hr4b : (Int.tdiv x' E == Int.tdiv x E) = false := by rw [d1, d2]; exact hq4
              have hr4c : decide (Int.tdiv x' E = Int.tdiv x E) = false := by rw [d1, d2]; exact hr4a
              by_cases hp2 : y' / E = y / E
              ·
               have hq5 : (y' / E == y / E) = true := by simpa using hp2
               have hr5a : decide (y' / E = y / E) = true := by simpa using hp2
               have hr5b : (Int.tdiv y' E == Int.tdiv y E) = true := by rw [d3, d4]; exact hq5
               have hr5c : decide (Int.tdiv y' E = Int.tdiv y E) = true := by rw [d3, d4]; exact hr5a
               have HF := Lib.hid (callsB_apart (O := O) (E := E) (M := M) hjk HDD.out HC.out (fun h => ((apart_iff _ _ _).1 h).2.2 ⟨hmm, .inr hp2⟩))
               go_quiet (fail)
               go_wp2
               go_returns
               exact ⟨by rw [HF.out]; rfl, below_drewN (hbelW.alloc (by omega) _) _⟩
              ·
               have hq5 : (y' / E == y / E) = false := by simpa using hp2
               have hr6a : decide (y' / E = y / E) = false := by simpa using hp2
               have hr6b : (Int.tdiv y' E == Int.tdiv y E) = false := by rw [d3, d4]; exact hq5
               have hr6c : decide (Int.tdiv y' E = Int.tdiv y E) = false := by rw [d3, d4]; exact hr6a
               have HST : Hid (∀ i d, i < j + 1 → cs[i]? = some d → Apart E d (x, y, m)) := by
                intro i d hi hd
                by_cases e : i = j
                ·
                 subst e; rw [HDD.out] at hd; cases hd
                 exact (apart_iff _ _ _).2 ⟨hxx, hyy, fun h => by rcases h.2 with h | h; exact hp1 h; exact hp2 h⟩
                ·
                 exact hap.out i d (by omega) hd
               go_quiet (fail)
               go_wp2
               go_roundw
               case rel => exact ⟨j + 1, by omega, by go_num, HST.out, by (exact grownA)⟩
               case measure => simp [intOf]; omega
            ·
             have hq3 : ((m' : Int) == m) = false := by simpa using hmm
             have HST : Hid (∀ i d, i < j + 1 → cs[i]? = some d → Apart E d (x, y, m)) := by
              intro i d hi hd
              by_cases e : i = j
              ·
               subst e; rw [HDD.out] at hd; cases hd
               exact (apart_iff _ _ _).2 ⟨hxx, hyy, fun h => hmm h.1⟩
              ·
               exact hap.out i d (by omega) hd
             go_wp2_with fail
             go_quiet (fail)
             go_wp2
             go_roundw
             case rel => exact ⟨j + 1, by omega, by go_num, HST.out, by (exact grownA)⟩
             case measure => simp [intOf]; omega
         ·
          obtain rfl : j = k := by omega
          have hbelI : Below w1.heap.size w1 wr := hbel3.trans (Below.mono hbi hz3)
          have HST := Lib.hid (hok.out.step HC.out HAT.out hap.out)
          go_wp2_with fail
          go_roundw
          case rel => exact ⟨j + 1, by omega, by go_num, HST.out, hbelI⟩
          case measure => simp [intOf]; omega
   ·
    obtain rfl : k = n := by omega
    have HF := Lib.hid ((callsB_iff _ _ _ _).2 (ClTo.all HSH.out (by rw [HN.out]; exact hok.out)))
    have hbelE : Below w.heap.size w wo := by (exact grownA)
    go_wp2
    go_returns
    exact ⟨by rw [HF.out]; rfl, hbelE⟩

end Go.Proofs.Ytedadhoneebfnaa
