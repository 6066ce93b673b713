/- Joined texts: Md, Mf. -/
import Derived.Test.YtedadhoneebfnaaJ4
import Derived.Test.YtedadhoneebfnaaJ5
set_option linter.unusedSimpArgs false
set_option linter.unusedVariables false
/- Contracts of the program's helpers for moving calls: middlesFrom, middlesTo, firstUnused, callFrom, callTo, linesFree. -/
namespace Go.Proofs.Ytedadhoneebfnaa
open Go.RowKit

theorem cl_get {w : World} {b off n k : Nat} {cs : List Cl} {c : Cl} (h : ∀ i, i < n * 3 → w.cell? ⟨b, off + i, none⟩ = (ccells cs)[i]?) (hc : cs[k]? = some c) (hk : k < n) :
  w.cell? ⟨b, off + k * 3, none⟩ = some (.int .i64 c.1) ∧ w.cell? ⟨b, off + k * 3 + 1, none⟩ = some (.int .i64 c.2.1) ∧ w.cell? ⟨b, off + k * 3 + 2, none⟩ = some (.int .i64 c.2.2) := by
 obtain ⟨g1, g2, g3⟩ := ccells_at cs k c hc
 exact ⟨by rw [h _ (by omega), g1], by rw [Nat.add_assoc, h _ (by omega), g2], by rw [Nat.add_assoc, h _ (by omega), g3]⟩
theorem cl_below {w wr : World} {B b off n : Nat} {cs : List Cl} (hbel : Below B w wr) (hb : b < B) (h : ∀ i, i < n * 3 → w.cell? ⟨b, off + i, none⟩ = (ccells cs)[i]?) : ∀ i, i < n * 3 → wr.cell? ⟨b, off + i, none⟩ = (ccells cs)[i]? :=
 fun i hi => (hbel.cell (p := ⟨b, off + i, none⟩) hb).trans (h i hi)
/-- Truths made anew. -/
def MbNew (f : Int → Bool) (m : Nat) (w : World) (e : Ending) (w' : World) : Prop := ∃ g, e = .returned (.slice (some ⟨g, 0, none⟩) m m) ∧ w.heap.size ≤ g ∧ Own w' g m m 4 1 (bcells m f) ∧ Below w.heap.size w w'

set_option maxRecDepth 100000 in
set_option maxHeartbeats 1000000 in
theorem middlesFrom_any (O E : Int) (m : Nat) (v : Value) (cs : List Cl) (o : Int) (w : World) (hok : CallsOk O E m cs) (hv : Rds w v cs.length 3 (ccells cs)) :
  Calls Try.prog 127 #[.agg #[.int .i64 O, .int .i64 E, .int .i64 m], v, .int .i64 o] w (MbNew (usedB E cs false o) m w) := by
 obtain ⟨hl1, hm1, a, ca, rfl, hn1, hc1⟩ := hv
 unfold maxLen at hm1
 obtain ⟨i0, hi, hz0, hz1, hz2⟩ := info_parts infoB8
 have hm5 := hok.sh.m
 have he := hok.sh.e
 have HOK := Lib.hid hok
 have hOE := lines_le hok.sh
 have hB := Blk.new (w := w) (cs := #[.int .i64 O, .int .i64 E, .int .i64 (m : Nat)]) (T := 30) rfl
 have hbel0 : Below w.heap.size w (w.alloc (.cells #[.int .i64 O, .int .i64 E, .int .i64 (m : Nat)] 30)) := by (exact grownA)
 unfold MbNew
 obtain ⟨n, hn⟩ : ∃ n, cs.length = n := ⟨_, rfl⟩
 rw [hn] at hm1 hn1 hc1 ⊢
 have HN := Lib.hid hn
 obtain ⟨t1, t2, t3, _, _, _, tlt⟩ := hB.three
 clear hn hl1 hok
 go_enter Try.func127, Try.ntmps127
 go_wp2_with (refine wpList_make_full _ rfl _ _ 90 rfl (w.heap.size + 1) 4 i0 _ 1 Try.underlying90 hi hz0 hz1 .i64 .i64 _ _ m rfl rfl rfl rfl (by rw [hz2]; omega) (by unfold maxLen; omega) (by simp) ?_; intro w4 hown hgr)
 rw [bcells_zero] at hown
 obtain ⟨hO, -⟩ := Own.of hown
 have hbel1 : Below w.heap.size w w4 := hbel0.grown hgr (by simp) (by intro k hk; cases hk)
 have hB1 : Blk w4 w.heap.size #[.int .i64 O, .int .i64 E, .int .i64 (m : Nat)] 30 := Blk.gbr hgr (fun e => by cases e) hB
 rw [show (w.alloc (.cells #[.int .i64 O, .int .i64 E, .int .i64 (m : Nat)] 30)).heap.size = w.heap.size + 1 by simp] at hO
 clear hown hgr hB hbel0 t1 t2 t3 tlt
 go_wp2_with fail
 go_loopw [15] (fun i wr => ∃ k : Nat, k ≤ n ∧ i = .int .i64 k ∧ Own wr (w.heap.size + 1) m m 4 1 (bcells m (usedTo E cs false o k)) ∧ Below w.heap.size w wr ∧ Blk wr w.heap.size #[.int .i64 O, .int .i64 E, .int .i64 (m : Nat)] 30) (fun i _ => n - (intOf i).toNat)
 case atStart => exact ⟨0, by omega, rfl, by rw [bcells_congr (g := fun _ => false) (fun i _ => usedTo_zero E cs false o i)]; exact hO, hbel1, hB1⟩
 case round =>
  obtain ⟨k, hk, rfl, hown, hbel, hBr⟩ := hrel
  have hz := hbel.size
  by_cases hkn : k < n
  ·
   rcases hc1 with hc1 | ⟨b, off, rfl, hb, hc1⟩
   ·
    omega
   obtain ⟨c, hc⟩ : ∃ c, cs[k]? = some c := ⟨_, List.getElem?_eq_getElem (by rw [HN.out]; omega)⟩
   obtain ⟨k1, k2, k3⟩ := cl_get (cl_below hbel hb hc1) hc hkn
   have HC := Lib.hid hc
   have hat := HOK.out.at' k c hc
   obtain ⟨s1, s2, s3, _, _, _, slt⟩ := hBr.three
   obtain ⟨x, y, v⟩ := c
   simp only at k1 k2 k3 hat
   obtain ⟨v, rfl⟩ := Int.eq_ofNat_of_zero_le hat.2.2.1
   have hvm : v < m := by omega
   have i1 : (0 : Int) ≤ (v : Int) := by omega
   have i2 : (v : Int) < (m : Int) := by omega
   have q1 := hown.cell v (by omega)
   rw [bcells_at _ hvm] at q1
   have f1 := hown.free v
   have hglt := hown.lt
   have hE0 : (E == 0) = false := by simp; omega
   have hE1 : ¬ E = 0 := by omega
   obtain ⟨dz, hdz⟩ : ∃ d, x / E = d := ⟨_, rfl⟩
   have hw1 : IntKind.i64.wrap (x / E) = x / E := wrap_quo (by omega) (L := O * E) (by omega) hOE (by omega)
   have hw2 : Int.tdiv x E = x / E := Int.tdiv_eq_ediv_of_nonneg (by omega)
   obtain ⟨bv, hbv⟩ : ∃ b, usedTo E cs false o k (v : Nat) = b := ⟨_, rfl⟩
   rw [hbv] at q1
   rw [hdz] at hw1 hw2
   have HDZ := Lib.hid hdz
   clear hc hbv hc1 hat
   by_cases hq : dz = o
   ·
    have hqb : ((dz : Int) == o) = true := by simpa using hq
    have HST : Hid (∀ i : Nat, i < m → usedTo E cs false o (k + 1) i = (usedTo E cs false o k i || decide ((v : Int) = i))) := by
     intro i _; rw [usedTo_succ HC.out]; simp [swC, HDZ.out, hq]
    clear hq hdz
    go_wp2_with fail
    go_roundw
    case rel =>
     refine ⟨k + 1, by omega, by go_num, ?_, by (exact grownA), by (exact blkA)⟩
     rw [bcells_congr (g := fun i => usedTo E cs false o k i || decide ((v : Int) = i)) HST.out, ← bcells_set _ hvm]
     (exact ownA)
    case measure => simp [intOf]; omega
   ·
    have hqb : ((dz : Int) == o) = false := by simpa using hq
    have HST : Hid (∀ i : Nat, i < m → usedTo E cs false o (k + 1) i = usedTo E cs false o k i) := by
     intro i _; rw [usedTo_succ HC.out]; simp [swC, HDZ.out, hq]
    clear hq hdz
    go_wp2_with fail
    go_roundw
    case rel =>
     refine ⟨k + 1, by omega, by go_num, ?_, by (exact grownA), by (exact blkA)⟩
     rw [bcells_congr HST.out]
     (exact ownA)
    case measure => simp [intOf]; omega
  ·
   obtain rfl : k = n := by omega
   have HF : Hid (∀ i : Nat, i < m → usedB E cs false o i = usedTo E cs false o k i) := by intro i _; rw [← usedTo_all, HN.out]
   go_wp2
   go_returns
   refine ⟨_, rfl, by omega, ?_, hbel⟩
   rw [bcells_congr HF.out]
   exact hown
set_option maxRecDepth 100000 in
set_option maxHeartbeats 1000000 in
theorem middlesTo_any (O E : Int) (m : Nat) (v : Value) (cs : List Cl) (o : Int) (w : World) (hok : CallsOk O E m cs) (hv : Rds w v cs.length 3 (ccells cs)) :
  Calls Try.prog 128 #[.agg #[.int .i64 O, .int .i64 E, .int .i64 m], v, .int .i64 o] w (MbNew (usedB E cs true o) m w) := by
 obtain ⟨hl1, hm1, a, ca, rfl, hn1, hc1⟩ := hv
 unfold maxLen at hm1
 obtain ⟨i0, hi, hz0, hz1, hz2⟩ := info_parts infoB8
 have hm5 := hok.sh.m
 have he := hok.sh.e
 have HOK := Lib.hid hok
 have hOE := lines_le hok.sh
 have hB := Blk.new (w := w) (cs := #[.int .i64 O, .int .i64 E, .int .i64 (m : Nat)]) (T := 30) rfl
 have hbel0 : Below w.heap.size w (w.alloc (.cells #[.int .i64 O, .int .i64 E, .int .i64 (m : Nat)] 30)) := by (exact grownA)
 unfold MbNew
 obtain ⟨n, hn⟩ : ∃ n, cs.length = n := ⟨_, rfl⟩
 rw [hn] at hm1 hn1 hc1 ⊢
 have HN := Lib.hid hn
 obtain ⟨t1, t2, t3, _, _, _, tlt⟩ := hB.three
 clear hn hl1 hok
 go_enter Try.func128, Try.ntmps128
 go_wp2_with (refine wpList_make_full _ rfl _ _ 90 rfl (w.heap.size + 1) 4 i0 _ 1 Try.underlying90 hi hz0 hz1 .i64 .i64 _ _ m rfl rfl rfl rfl (by rw [hz2]; omega) (by unfold maxLen; omega) (by simp) ?_; intro w4 hown hgr)
 rw [bcells_zero] at hown
 obtain ⟨hO, -⟩ := Own.of hown
 have hbel1 : Below w.heap.size w w4 := hbel0.grown hgr (by simp) (by intro k hk; cases hk)
 have hB1 : Blk w4 w.heap.size #[.int .i64 O, .int .i64 E, .int .i64 (m : Nat)] 30 := Blk.gbr hgr (fun e => by cases e) hB
 rw [show (w.alloc (.cells #[.int .i64 O, .int .i64 E, .int .i64 (m : Nat)] 30)).heap.size = w.heap.size + 1 by simp] at hO
 clear hown hgr hB hbel0 t1 t2 t3 tlt
 go_wp2_with fail
 go_loopw [15] (fun i wr => ∃ k : Nat, k ≤ n ∧ i = .int .i64 k ∧ Own wr (w.heap.size + 1) m m 4 1 (bcells m (usedTo E cs true o k)) ∧ Below w.heap.size w wr ∧ Blk wr w.heap.size #[.int .i64 O, .int .i64 E, .int .i64 (m : Nat)] 30) (fun i _ => n - (intOf i).toNat)
 case atStart => exact ⟨0, by omega, rfl, by rw [bcells_congr (g := fun _ => false) (fun i _ => usedTo_zero E cs true o i)]; exact hO, hbel1, hB1⟩
 case round =>
  obtain ⟨k, hk, rfl, hown, hbel, hBr⟩ := hrel
  have hz := hbel.size
  by_cases hkn : k < n
  ·
   rcases hc1 with hc1 | ⟨b, off, rfl, hb, hc1⟩
   ·
    omega
   obtain ⟨c, hc⟩ : ∃ c, cs[k]? = some c := ⟨_, List.getElem?_eq_getElem (by rw [HN.out]; omega)⟩
   obtain ⟨k1, k2, k3⟩ := cl_get (cl_below hbel hb hc1) hc hkn
   have HC := Lib.hid hc
   have hat := HOK.out.at' k c hc
   obtain ⟨s1, s2, s3, _, _, _, slt⟩ := hBr.three
   obtain ⟨x, y, v⟩ := c
   simp only at k1 k2 k3 hat
   obtain ⟨v, rfl⟩ := Int.eq_ofNat_of_zero_le hat.2.2.1
   have hvm : v < m := by omega
   have i1 : (0 : Int) ≤ (v : Int) := by omega
   have i2 : (v : Int) < (m : Int) := by omega
   have q1 := hown.cell v (by omega)
   rw [bcells_at _ hvm] at q1
   have f1 := hown.free v
   have hglt := hown.lt
   have hE0 : (E == 0) = false := by simp; omega
   have hE1 : ¬ E = 0 := by omega
   obtain ⟨dz, hdz⟩ : ∃ d, y / E = d := ⟨_, rfl⟩
   have hw1 : IntKind.i64.wrap (y / E) = y / E := wrap_quo (by omega) (L := O * E) (by omega) hOE (by omega)
   have hw2 : Int.tdiv y E = y / E := Int.tdiv_eq_ediv_of_nonneg (by omega)
   obtain ⟨bv, hbv⟩ : ∃ b, usedTo E cs true o k (v : Nat) = b := ⟨_, rfl⟩
   rw [hbv] at q1
   rw [hdz] at hw1 hw2
   have HDZ := Lib.hid hdz
   clear hc hbv hc1 hat
   by_cases hq : dz = o
   ·
    have hqb : ((dz : Int) == o) = true := by simpa using hq
    have HST : Hid (∀ i : Nat, i < m → usedTo E cs true o (k + 1) i = (usedTo E cs true o k i || decide ((v : Int) = i))) := by
     intro i _; rw [usedTo_succ HC.out]; simp [swC, HDZ.out, hq]
    clear hq hdz
    go_wp2_with fail
    go_roundw
    case rel =>
     refine ⟨k + 1, by omega, by go_num, ?_, by (exact grownA), by (exact blkA)⟩
     rw [bcells_congr (g := fun i => usedTo E cs true o k i || decide ((v : Int) = i)) HST.out, ← bcells_set _ hvm]
     (exact ownA)
    case measure => simp [intOf]; omega
   ·
    have hqb : ((dz : Int) == o) = false := by simpa using hq
    have HST : Hid (∀ i : Nat, i < m → usedTo E cs true o (k + 1) i = usedTo E cs true o k i) := by
     intro i _; rw [usedTo_succ HC.out]; simp [swC, HDZ.out, hq]
    clear hq hdz
    go_wp2_with fail
    go_roundw
    case rel =>
     refine ⟨k + 1, by omega, by go_num, ?_, by (exact grownA), by (exact blkA)⟩
     rw [bcells_congr HST.out]
     (exact ownA)
    case measure => simp [intOf]; omega
  ·
   obtain rfl : k = n := by omega
   have HF : Hid (∀ i : Nat, i < m → usedB E cs true o i = usedTo E cs true o k i) := by intro i _; rw [← usedTo_all, HN.out]
   go_wp2
   go_returns
   refine ⟨_, rfl, by omega, ?_, hbel⟩
   rw [bcells_congr HF.out]
   exact hown

set_option maxHeartbeats 1000000 in
theorem firstUnused_any (E : Int) (m : Nat) (cs : List Cl) (s : Bool) (o : Int) (g cap : Nat) (w : World) (hm : m ≤ 5) (hex : ∃ j : Nat, j < m ∧ usedB E cs s o j = false) (hv : Own w g m cap 4 1 (bcells m (usedB E cs s o))) :
  Calls Try.prog 126 #[.slice (some ⟨g, 0, none⟩) m cap] w fun e w' => e = .returned (.int .i64 (firstL E m cs s o)) ∧ w = w' := by
 have HEX := Lib.hid hex
 clear hex
 go_enter Try.func126, Try.ntmps126
 go_wp2_with fail
 go_loop [7] (fun i => ∃ k : Nat, k ≤ m ∧ i = .int .i64 k ∧ Hid (∀ j : Nat, j < k → usedB E cs s o j = true)) (fun i => m - (intOf i).toNat)
 case atStart => exact ⟨0, by omega, rfl, fun j h => absurd h (by omega)⟩
 case round =>
  obtain ⟨k, hk, rfl, hall⟩ := hrel
  by_cases hkn : k < m
  ·
   have q1 := hv.cell k (by omega)
   rw [bcells_at _ hkn] at q1
   have hlt := hv.lt
   obtain ⟨b, hb⟩ : ∃ b, usedB E cs s o (k : Nat) = b := ⟨_, rfl⟩
   rw [hb] at q1
   have HB := Lib.hid hb
   clear hb
   cases b
   ·
    have HF := Lib.hid (first_at (M := m) (by omega) hall.out HB.out)
    go_wp2
    go_returns
    exact ⟨by rw [HF.out]; rfl, rfl⟩
   ·
    have HST : Hid (∀ j : Nat, j < k + 1 → usedB E cs s o j = true) := by
     intro j hj
     by_cases e : j = k
     ·
      subst e; exact HB.out
     ·
      exact hall.out j (by omega)
    go_wp2_with fail
    go_round
    case rel => exact ⟨k + 1, by omega, by go_num, HST.out⟩
    case measure => simp [intOf]; omega
  ·
   exfalso
   obtain ⟨j, h1, h2⟩ := HEX.out
   have := hall.out j (by omega)
   rw [h2] at this; cases this

/-- The place of a call, or -1. -/
def FoundPost (n : Nat) (P : Nat → Prop) (w : World) (e : Ending) (w' : World) : Prop := ∃ r : Int, e = .returned (.int .i64 r) ∧ Found n P r ∧ Below w.heap.size w w'
set_option maxRecDepth 100000 in
set_option maxHeartbeats 1000000 in
theorem callFrom_any (O E M : Int) (v : Value) (cs : List Cl) (o want nt : Int) (w : World) (hs : ShapeOk O E M) (hat : ∀ (k : Nat) (c : Cl), cs[k]? = some c → ClAt (O * E) M c) (hv : Rds w v cs.length 3 (ccells cs)) :
  Calls Try.prog 130 #[.agg #[.int .i64 O, .int .i64 E, .int .i64 M], v, .int .i64 o, .int .i64 want, .int .i64 nt] w (FoundPost cs.length (seekP E cs false o want nt) w) := by
 obtain ⟨hl1, hm1, a, ca, rfl, hn1, hc1⟩ := hv
 unfold maxLen at hm1
 have he := hs.e
 have hOE := lines_le hs
 have HAT := Lib.hid hat
 have hB := Blk.new (w := w) (cs := #[.int .i64 O, .int .i64 E, .int .i64 M]) (T := 30) rfl
 have hbel0 : Below w.heap.size w (w.alloc (.cells #[.int .i64 O, .int .i64 E, .int .i64 M] 30)) := by (exact grownA)
 obtain ⟨n, hn⟩ : ∃ n, cs.length = n := ⟨_, rfl⟩
 rw [hn] at hm1 hn1 hc1 ⊢
 have HN := Lib.hid hn
 clear hn hl1 hat
 go_enter Try.func130, Try.ntmps130
 go_wp2_with fail
 go_loopw [15] (fun i wr => ∃ k : Nat, k ≤ n ∧ i = .int .i64 k ∧ Hid (∀ j : Nat, j < k → ¬ seekP E cs false o want nt j) ∧ Below w.heap.size w wr ∧ Blk wr w.heap.size #[.int .i64 O, .int .i64 E, .int .i64 M] 30) (fun i _ => n - (intOf i).toNat)
 case atStart => exact ⟨0, by omega, rfl, fun j h => absurd h (by omega), hbel0, hB⟩
 case round =>
  obtain ⟨k, hk, rfl, hno, hbel, hBr⟩ := hrel
  have hz := hbel.size
  by_cases hkn : k < n
  ·
   rcases hc1 with hc1 | ⟨b, off, rfl, hb, hc1⟩
   ·
    omega
   obtain ⟨c, hc⟩ : ∃ c, cs[k]? = some c := ⟨_, List.getElem?_eq_getElem (by rw [HN.out]; omega)⟩
   obtain ⟨k1, k2, k3⟩ := cl_get (cl_below hbel hb hc1) hc hkn
   have HC := Lib.hid hc
   have hat := HAT.out k c hc
   unfold ClAt at hat
   obtain ⟨s1, s2, s3, _, _, _, slt⟩ := hBr.three
   obtain ⟨x, y, v⟩ := c
   simp only at k1 k2 k3 hat
   have hE0 : (E == 0) = false := by simp; omega
   have hE1 : ¬ E = 0 := by omega
   have hw1 : IntKind.i64.wrap (x / E) = x / E := wrap_quo (by omega) (L := O * E) (by omega) hOE (by omega)
   have hw2 : Int.tdiv x E = x / E := Int.tdiv_eq_ediv_of_nonneg (by omega)
   obtain ⟨dz, hdz⟩ : ∃ d, x / E = d := ⟨_, rfl⟩
   rw [hdz] at hw1 hw2
   have HDZ := Lib.hid hdz
   clear hc hc1 hat hdz
   have HNX : Hid (¬ seekP E cs false o want nt k → ∀ j : Nat, j < k + 1 → ¬ seekP E cs false o want nt j) := by
    intro h j hj
    by_cases e : j = k
    ·
     subst e; exact h
    ·
     exact hno.out j (by omega)
   by_cases h1 : (k : Int) = nt
   ·
    have hq1 : ((k : Int) == nt) = true := by simpa using h1
    have hq1' : ((k : Int) != nt) = false := by simpa using h1
    have HST := Lib.hid (HNX.out (fun h => h.1 h1))
    clear HNX
    subst h1
    go_wp2_with fail
    go_roundw
    case rel => exact ⟨k + 1, by omega, by go_num, HST.out, by (exact grownA), by (exact blkA)⟩
    case measure => simp [intOf]; omega
   ·
    have hq1 : ((k : Int) == nt) = false := by simpa using h1
    have hq1' : ((k : Int) != nt) = true := by simpa using h1
    by_cases h2 : v = want
    ·
     have hq2 : ((v : Int) == want) = true := by simpa using h2
     by_cases h3 : dz = o
     ·
      have hq3 : ((dz : Int) == o) = true := by simpa using h3
      have HF : Hid (seekP E cs false o want nt k) := ⟨h1, _, HC.out, h2, by simp [swC, HDZ.out, h3]⟩
      clear HNX h1 h2 h3
      go_wp2
      go_returns
      exact ⟨_, rfl, .inr ⟨k, hkn, rfl, HF.out⟩, by (exact grownA)⟩
     ·
      have hq3 : ((dz : Int) == o) = false := by simpa using h3
      have HST := Lib.hid (HNX.out (fun h => by obtain ⟨_, c, hc, _, h5⟩ := h; rw [HC.out] at hc; cases hc; simp [swC, HDZ.out] at h5; exact h3 h5))
      clear HNX h1 h2 h3
      go_wp2_with fail
      go_roundw
      case rel => exact ⟨k + 1, by omega, by go_num, HST.out, by (exact grownA), by (exact blkA)⟩
      case measure => simp [intOf]; omega
    ·
     have hq2 : ((v : Int) == want) = false := by simpa using h2
     have HST := Lib.hid (HNX.out (fun h => by obtain ⟨_, c, hc, h4, _⟩ := h; rw [HC.out] at hc; cases hc; exact h2 h4))
     clear HNX h1 h2
     go_wp2_with fail
     go_roundw
     case rel => exact ⟨k + 1, by omega, by go_num, HST.out, by (exact grownA), by (exact blkA)⟩
     case measure => simp [intOf]; omega
  ·
   obtain rfl : k = n := by omega
   go_wp2
   go_returns
   exact ⟨-1, rfl, .inl ⟨rfl, hno.out⟩, hbel⟩
set_option maxRecDepth 100000 in
set_option maxHeartbeats 1000000 in
theorem callTo_any (O E M : Int) (v : Value) (cs : List Cl) (o want nt : Int) (w : World) (hs : ShapeOk O E M) (hat : ∀ (k : Nat) (c : Cl), cs[k]? = some c → ClAt (O * E) M c) (hv : Rds w v cs.length 3 (ccells cs)) :
  Calls Try.prog 129 #[.agg #[.int .i64 O, .int .i64 E, .int .i64 M], v, .int .i64 o, .int .i64 want, .int .i64 nt] w (FoundPost cs.length (seekP E cs true o want nt) w) := by
 obtain ⟨hl1, hm1, a, ca, rfl, hn1, hc1⟩ := hv
 unfold maxLen at hm1
 have he := hs.e
 have hOE := lines_le hs
 have HAT := Lib.hid hat
 have hB := Blk.new (w := w) (cs := #[.int .i64 O, .int .i64 E, .int .i64 M]) (T := 30) rfl
 have hbel0 : Below w.heap.size w (w.alloc (.cells #[.int .i64 O, .int .i64 E, .int .i64 M] 30)) := by (exact grownA)
 obtain ⟨n, hn⟩ : ∃ n, cs.length = n := ⟨_, rfl⟩
 rw [hn] at hm1 hn1 hc1 ⊢
 have HN := Lib.hid hn
 clear hn hl1 hat
 go_enter Try.func129, Try.ntmps129
 go_wp2_with fail
 go_loopw [15] (fun i wr => ∃ k : Nat, k ≤ n ∧ i = .int .i64 k ∧ Hid (∀ j : Nat, j < k → ¬ seekP E cs true o want nt j) ∧ Below w.heap.size w wr ∧ Blk wr w.heap.size #[.int .i64 O, .int .i64 E, .int .i64 M] 30) (fun i _ => n - (intOf i).toNat)
 case atStart => exact ⟨0, by omega, rfl, fun j h => absurd h (by omega), hbel0, hB⟩
 case round =>
  obtain ⟨k, hk, rfl, hno, hbel, hBr⟩ := hrel
  have hz := hbel.size
  by_cases hkn : k < n
  ·
   rcases hc1 with hc1 | ⟨b, off, rfl, hb, hc1⟩
   ·
    omega
   obtain ⟨c, hc⟩ : ∃ c, cs[k]? = some c := ⟨_, List.getElem?_eq_getElem (by rw [HN.out]; omega)⟩
   obtain ⟨k1, k2, k3⟩ := cl_get (cl_below hbel hb hc1) hc hkn
   have HC := Lib.hid hc
   have hat := HAT.out k c hc
   unfold ClAt at hat
   obtain ⟨s1, s2, s3, _, _, _, slt⟩ := hBr.three
   obtain ⟨x, y, v⟩ := c
   simp only at k1 k2 k3 hat
   have hE0 : (E == 0) = false := by simp; omega
   have hE1 : ¬ E = 0 := by omega
   have hw1 : IntKind.i64.wrap (y / E) = y / E := wrap_quo (by omega) (L := O * E) (by omega) hOE (by omega)
   have hw2 : Int.tdiv y E = y / E := Int.tdiv_eq_ediv_of_nonneg (by omega)
   obtain ⟨dz, hdz⟩ : ∃ d, y / E = d := ⟨_, rfl⟩
   rw [hdz] at hw1 hw2
   have HDZ := Lib.hid hdz
   clear hc hc1 hat hdz
   have HNX : Hid (¬ seekP E cs true o want nt k → ∀ j : Nat, j < k + 1 → ¬ seekP E cs true o want nt j) := by
    intro h j hj
    by_cases e : j = k
    ·
     subst e; exact h
    ·
     exact hno.out j (by omega)
   by_cases h1 : (k : Int) = nt
   ·
    have hq1 : ((k : Int) == nt) = true := by simpa using h1
    have hq1' : ((k : Int) != nt) = false := by simpa using h1
    have HST := Lib.hid (HNX.out (fun h => h.1 h1))
    clear HNX
    subst h1
    go_wp2_with fail
    go_roundw
    case rel => exact ⟨k + 1, by omega, by go_num, HST.out, by (exact grownA), by (exact blkA)⟩
    case measure => simp [intOf]; omega
   ·
    have hq1 : ((k : Int) == nt) = false := by simpa using h1
    have hq1' : ((k : Int) != nt) = true := by simpa using h1
    by_cases h2 : v = want
    ·
     have hq2 : ((v : Int) == want) = true := by simpa using h2
     by_cases h3 : dz = o
     ·
      have hq3 : ((dz : Int) == o) = true := by simpa using h3
      have HF : Hid (seekP E cs true o want nt k) := ⟨h1, _, HC.out, h2, by simp [swC, HDZ.out, h3]⟩
      clear HNX h1 h2 h3
      go_wp2
      go_returns
      exact ⟨_, rfl, .inr ⟨k, hkn, rfl, HF.out⟩, by (exact grownA)⟩
     ·
      have hq3 : ((dz : Int) == o) = false := by simpa using h3
      have HST := Lib.hid (HNX.out (fun h => by obtain ⟨_, c, hc, _, h5⟩ := h; rw [HC.out] at hc; cases hc; simp [swC, HDZ.out] at h5; exact h3 h5))
      clear HNX h1 h2 h3
      go_wp2_with fail
      go_roundw
      case rel => exact ⟨k + 1, by omega, by go_num, HST.out, by (exact grownA), by (exact blkA)⟩
      case measure => simp [intOf]; omega
    ·
     have hq2 : ((v : Int) == want) = false := by simpa using h2
     have HST := Lib.hid (HNX.out (fun h => by obtain ⟨_, c, hc, h4, _⟩ := h; rw [HC.out] at hc; cases hc; exact h2 h4))
     clear HNX h1 h2
     go_wp2_with fail
     go_roundw
     case rel => exact ⟨k + 1, by omega, by go_num, HST.out, by (exact grownA), by (exact blkA)⟩
     case measure => simp [intOf]; omega
  ·
   obtain rfl : k = n := by omega
   go_wp2
   go_returns
   exact ⟨-1, rfl, .inl ⟨rfl, hno.out⟩, hbel⟩

set_option maxHeartbeats 1000000 in
theorem linesFree_any (O E M : Int) (v : Value) (cs : List Cl) (x y : Int) (w : World) (hs : ShapeOk O E M) (hv : Rds w v cs.length 3 (ccells cs)) (hx : 0 ≤ x ∧ x < O * E) (hy : 0 ≤ y ∧ y < O * E) (hf : freeB cs x y) :
  Calls Try.prog 124 #[.agg #[.int .i64 O, .int .i64 E, .int .i64 M], v, .int .i64 x, .int .i64 y] w fun e w' => e = .returned (.bool true) ∧ Below w.heap.size w w' := by
 obtain ⟨hl1, hm1, a, ca, rfl, hn1, hc1⟩ := hv
 unfold maxLen at hm1
 have hB := Blk.new (w := w) (cs := #[.int .i64 O, .int .i64 E, .int .i64 M]) (T := 30) rfl
 have hbel0 : Below w.heap.size w (w.alloc (.cells #[.int .i64 O, .int .i64 E, .int .i64 M] 30)) := by (exact grownA)
 have HS := Lib.hid hs
 have HF := Lib.hid hf
 have hlx : lnB (O * E) x = true := by simp [lnB]; omega
 have hly : lnB (O * E) y = true := by simp [lnB]; omega
 have HLX := Lib.hid hlx
 have HLY := Lib.hid hly
 obtain ⟨n, hn⟩ : ∃ n, cs.length = n := ⟨_, rfl⟩
 rw [hn] at hm1 hn1 hc1 ⊢
 have HN := Lib.hid hn
 obtain ⟨t1, t2, t3, _, _, _, tlt⟩ := hB.three
 clear hn hl1 hs hf hx hy hlx hly
 go_enter Try.func124, Try.ntmps124
 go_wp2_with fail
 refine (hasLine_any _ _ _ _ _ HS.out).mono ?_
 rintro e w1 ⟨rfl, hb1⟩
 have hbel1 : Below w.heap.size w w1 := by (exact grownA)
 have hB1 := hB.below hb1 (by simp)
 rw [HLX.out]
 clear hB hb1 t1 t2 t3 tlt hbel0
 obtain ⟨t1, t2, t3, _, _, _, tlt⟩ := hB1.three
 go_wp2_with fail
 refine (hasLine_any _ _ _ _ _ HS.out).mono ?_
 rintro e w2 ⟨rfl, hb2⟩
 have hbel2 : Below w.heap.size w w2 := by (exact grownA)
 rw [HLY.out]
 clear hB1 hb2 t1 t2 t3 tlt hbel1
 go_wp2_with fail
 go_loopw [23] (fun i wr => ∃ k : Nat, k ≤ n ∧ i = .int .i64 k ∧ Below w.heap.size w wr) (fun i _ => n - (intOf i).toNat)
 case atStart => exact ⟨0, by omega, rfl, hbel2⟩
 case round =>
  obtain ⟨k, hk, rfl, hbel⟩ := hrel
  have hz := hbel.size
  by_cases hkn : k < n
  ·
   rcases hc1 with hc1 | ⟨b, off, rfl, hb, hc1⟩
   ·
    omega
   obtain ⟨c, hc⟩ : ∃ c, cs[k]? = some c := ⟨_, List.getElem?_eq_getElem (by rw [HN.out]; omega)⟩
   obtain ⟨k1, k2, k3⟩ := cl_get (cl_below hbel hb hc1) hc hkn
   have hfr := HF.out c (List.mem_of_getElem? hc)
   obtain ⟨u, v, t⟩ := c
   simp only at k1 k2 k3 hfr
   have hq1 : ((u : Int) == x) = false := by simpa using hfr.1
   have hq2 : ((v : Int) == y) = false := by simpa using hfr.2
   clear hc hc1 hfr
   go_wp2_with fail
   go_roundw
   case rel => exact ⟨k + 1, by omega, by go_num, by (exact grownA)⟩
   case measure => simp [intOf]; omega
  ·
   obtain rfl : k = n := by omega
   go_wp2
   go_returns
   exact ⟨rfl, hbel⟩

end Go.Proofs.Ytedadhoneebfnaa

/- Contracts of MiddleFree (program). -/
namespace Go.Proofs.Ytedadhoneebfnaa
open Go.RowKit

def ivs (zs : List Int) : List Value := zs.map (Value.int .i64)
theorem ivs_len (zs : List Int) : (ivs zs).length = zs.length := by simp [ivs]
theorem ivs_at (zs : List Int) (j : Nat) (z : Int) (h : zs[j]? = some z) : (ivs zs)[j]? = some (.int .i64 z) := by simp [ivs, h]
theorem ivs_snoc (zs : List Int) (z : Int) : ivs zs ++ [.int .i64 z] = ivs (zs ++ [z]) := by simp [ivs]
theorem infoI8 : (Try.prog.info? 3).map (fun i => (i.zero, i.size, i.bytes)) = some (some (.int .i64 0), 1, 8) := by kernel_rfl
/-- Numbers made anew. -/
def IvOut (zs : List Int) (w : World) (e : Ending) (w' : World) : Prop := ∃ v, e = .returned v ∧ w'.ownsRow w.heap.size 3 1 v zs.length (ivs zs) ∧ Below w.heap.size w w'
theorem new1 (w : World) (T : TypeId) (x0 : Value) (b : Nat) (hb : b = w.heap.size) : ∀ (j : Nat) (u : Value), [x0][j]? = some u → (w.alloc (.cells #[x0] T)).cell? ((⟨b, 0, none⟩ : Addr).add j) = some u := by
 subst hb
 intro j u hu
 match j with
 | 0 => simp at hu; subst hu; rw [Addr.add_spot, World.cell?_alloc_at _ _ _ _ rfl]; rfl
 | j + 1 => simp at hu
theorem one1 (z : Int) : ∀ u ∈ [Value.int .i64 z], u.oneCell' = true := by intro u hu; simp at hu; subst hu; rfl
def freeTo (E M : Int) (cs : List Cl) (x y : Int) (k : Nat) : List Int := ((mids M).take k).filter fun m => !usedB E cs false (x / E) m && !usedB E cs true (y / E) m
theorem freeTo_zero (E M : Int) (cs : List Cl) (x y : Int) : freeTo E M cs x y 0 = [] := by simp [freeTo]
theorem freeTo_all (E : Int) (m : Nat) (cs : List Cl) (x y : Int) : freeTo E m cs x y m = freeL E m cs x y := by
 unfold freeTo freeL
 rw [List.take_of_length_le (by rw [mids_len]; simp)]
theorem freeTo_len (E M : Int) (cs : List Cl) (x y : Int) (k : Nat) : (freeTo E M cs x y k).length ≤ k := by
 unfold freeTo
 exact Nat.le_trans (List.length_filter_le _ _) (by rw [List.length_take]; omega)
theorem freeTo_yes {E : Int} {m : Nat} {cs : List Cl} {x y : Int} {k : Nat} (hk : k < m) (h1 : usedB E cs false (x / E) k = false) (h2 : usedB E cs true (y / E) k = false) : freeTo E m cs x y (k + 1) = freeTo E m cs x y k ++ [(k : Int)] := by
 unfold freeTo
 rw [mids_take _ _ (by omega), List.filter_append]
 simp [h1, h2]
theorem freeTo_no {E : Int} {m : Nat} {cs : List Cl} {x y : Int} {k : Nat} (hk : k < m) (h : usedB E cs false (x / E) k = true ∨ usedB E cs true (y / E) k = true) : freeTo E m cs x y (k + 1) = freeTo E m cs x y k := by
 unfold freeTo
 rw [mids_take _ _ (by omega), List.filter_append]
 rcases h with h | h <;> simp [h]

set_option maxRecDepth 100000 in
set_option maxHeartbeats 2000000 in
theorem iMiddleFree_any (O E : Int) (m : Nat) (v : Value) (cs : List Cl) (x y : Int) (w : World) (hok : CallsOk O E m cs) (hv : Rds w v cs.length 3 (ccells cs)) (hx : 0 ≤ x ∧ x < O * E) (hy : 0 ≤ y ∧ y < O * E) (hf : freeB cs x y) :
  Calls Try.prog 125 #[.agg #[.int .i64 O, .int .i64 E, .int .i64 m], v, .int .i64 x, .int .i64 y] w (IvOut (freeL E m cs x y) w) := by
 obtain ⟨i0, hi, hz0, hz1, hz2⟩ := info_parts infoI8
 have hm5 := hok.sh.m
 have he := hok.sh.e
 have HOK := Lib.hid hok
 have HX := Lib.hid hx
 have HY := Lib.hid hy
 have HF := Lib.hid hf
 have hOE := lines_le hok.sh
 have hB := Blk.new (w := w) (cs := #[.int .i64 O, .int .i64 E, .int .i64 (m : Nat)]) (T := 30) rfl
 have hbel0 : Below w.heap.size w (w.alloc (.cells #[.int .i64 O, .int .i64 E, .int .i64 (m : Nat)] 30)) := by (exact grownA)
 have HV := Lib.hid hv
 obtain ⟨_, _, a, ca, rfl, _⟩ := hv
 have HCB := Lib.hid ((callsB_iff O E m cs).2 hok)
 have hE0 : (E == 0) = false := by simp; omega
 have hE1 : ¬ E = 0 := by omega
 obtain ⟨dx, hdx⟩ : ∃ d, x / E = d := ⟨_, rfl⟩
 obtain ⟨dy, hdy⟩ : ∃ d, y / E = d := ⟨_, rfl⟩
 have hw1 : IntKind.i64.wrap (x / E) = x / E := wrap_quo (by omega) (L := O * E) (by omega) hOE (by omega)
 have hw2 : Int.tdiv x E = x / E := Int.tdiv_eq_ediv_of_nonneg (by omega)
 have hw3 : IntKind.i64.wrap (y / E) = y / E := wrap_quo (by omega) (L := O * E) (by omega) hOE (by omega)
 have hw4 : Int.tdiv y E = y / E := Int.tdiv_eq_ediv_of_nonneg (by omega)
 rw [hdx] at hw1 hw2
 rw [hdy] at hw3 hw4
 have HDX := Lib.hid hdx
 have HDY := Lib.hid hdy
 obtain ⟨t1, t2, t3, _, _, _, tlt⟩ := hB.three
 have hx0 := hx.1
 have hy0 := hy.1
 clear hok hf hdx hdy hx hy
 go_enter Try.func125, Try.ntmps125
 go_wp2_with fail
 refine (iCallsValid_any _ _ _ _ _ _ (HV.out.below hbel0)).mono ?_
 rintro e w1 ⟨rfl, hb1⟩
 have hbel1 : Below w.heap.size w w1 := by (exact grownA)
 have hB1 := hB.below hb1 (by simp)
 rw [HCB.out]
 clear hB hb1 t1 t2 t3 tlt hbel0
 obtain ⟨t1, t2, t3, _, _, _, tlt⟩ := hB1.three
 go_wp2_with fail
 refine (linesFree_any _ _ _ _ _ _ _ _ HOK.out.sh (HV.out.below hbel1) HX.out HY.out HF.out).mono ?_
 rintro e w2 ⟨rfl, hb2⟩
 have hbel2 : Below w.heap.size w w2 := by (exact grownA)
 have hB2 := hB1.belowAll hb2
 clear hB1 hb2 t1 t2 t3 tlt hbel1
 obtain ⟨t1, t2, t3, _, _, _, tlt⟩ := hB2.three
 go_wp2_with fail
 refine wp_region_held_drew (S := fun w' => w'.cell? ⟨w.heap.size, 0, none⟩ = some (.int .i64 O) ∧ w'.cell? ⟨w.heap.size, 1, none⟩ = some (.int .i64 E) ∧ w'.cell? ⟨w.heap.size, 2, none⟩ = some (.int .i64 (m : Nat))) (by kernel_rfl) (by (try dsimp only); (exact keepA)) (fun hHeld => ?_)
 refine take_y 0 25 (v := ?_) rfl ?_ ?_; rotate_left; focus (intro w hSw; (try dsimp only at hSw); go_simp; (try rw [if_neg (by omega)]); (try with_reducible rfl))
 try simp only [Act.put, zp1, zp2, zp3]
 refine take_y 1 26 (v := ?_) rfl ?_ ?_; rotate_left; focus (intro w hSw; (try dsimp only at hSw); go_simp; (try rw [if_neg (by omega)]); (try with_reducible rfl))
 try simp only [Act.put, zp1, zp2, zp3]
 refine take_y 2 27 (v := ?_) rfl ?_ ?_; rotate_left; focus (intro w hSw; (try dsimp only at hSw); go_simp; (try rw [if_neg (by omega)]); (try with_reducible rfl))
 try simp only [Act.put, zp1, zp2, zp3]
 refine take_y 3 28 (v := ?_) rfl ?_ ?_; rotate_left; focus (intro w hSw; (try dsimp only at hSw); go_simp; (try rw [if_neg (by omega)]); (try with_reducible rfl))
 try simp only [Act.put, zp1, zp2, zp3]
 refine take_y 4 29 (v := ?_) rfl ?_ ?_; rotate_left; focus (intro w hSw; (try dsimp only at hSw); go_simp; (try rw [if_neg (by omega)]); (try with_reducible rfl))
 try simp only [Act.put, zp1, zp2, zp3]
 refine take_y 5 30 (v := ?_) rfl ?_ ?_; rotate_left; focus (intro w hSw; (try dsimp only at hSw); go_simp; (try rw [if_neg (by omega)]); (try with_reducible rfl))
 try simp only [Act.put, zp1, zp2, zp3]
 refine wpAnyH_ready (rs := [6]) (by kernel_rfl) (by simp) ?_
 refine AllReadyH.cons rfl (fun K hK => ?_) AllReadyH.nil
 go_simp
 refine (middlesFrom_any _ _ _ _ _ _ _ HOK.out ((HV.out.below hbel2).drewN 1)).mono ?_
 rintro e w3 ⟨g1, rfl, hg1, ho1, hb3⟩
 refine hK.out _ _ againA (fun hHeld2 => ?_); clear hHeld hK K; have hHeld := hHeld2; clear hHeld2; (try simp only [Act.put, zp1, zp2, zp3])
 have hbel3 : Below w.heap.size w w3 := (hbel2.drew).trans (Below.mono hb3 hbel2.size)
 have hB3 := hB2.drew.belowAll hb3
 have hz3 := hb3.size
 simp at hg1 hz3
 refine take_y 7 9 (v := ?_) rfl ?_ ?_; rotate_left; focus (intro w hSw; (try dsimp only at hSw); go_simp; (try rw [if_neg (by omega)]); (try with_reducible rfl))
 try simp only [Act.put, zp1, zp2, zp3]
 refine wpAnyH_done (by kernel_rfl) ?_ _
 clear hHeld hB2 t1 t2 t3 tlt
 obtain ⟨t1, t2, t3, _, _, _, tlt⟩ := hB3.three
 go_wp2_with fail
 refine wp_region_held_drew (S := fun w' => w'.cell? ⟨w.heap.size, 0, none⟩ = some (.int .i64 O) ∧ w'.cell? ⟨w.heap.size, 1, none⟩ = some (.int .i64 E) ∧ w'.cell? ⟨w.heap.size, 2, none⟩ = some (.int .i64 (m : Nat))) (by kernel_rfl) (by (try dsimp only); (exact keepA)) (fun hHeld => ?_)
 refine take_y 0 32 (v := ?_) rfl ?_ ?_; rotate_left; focus (intro w hSw; (try dsimp only at hSw); go_simp; (try rw [if_neg (by omega)]); (try with_reducible rfl))
 try simp only [Act.put, zp1, zp2, zp3]
 refine take_y 1 33 (v := ?_) rfl ?_ ?_; rotate_left; focus (intro w hSw; (try dsimp only at hSw); go_simp; (try rw [if_neg (by omega)]); (try with_reducible rfl))
 try simp only [Act.put, zp1, zp2, zp3]
 refine take_y 2 34 (v := ?_) rfl ?_ ?_; rotate_left; focus (intro w hSw; (try dsimp only at hSw); go_simp; (try rw [if_neg (by omega)]); (try with_reducible rfl))
 try simp only [Act.put, zp1, zp2, zp3]
 refine take_y 3 35 (v := ?_) rfl ?_ ?_; rotate_left; focus (intro w hSw; (try dsimp only at hSw); go_simp; (try rw [if_neg (by omega)]); (try with_reducible rfl))
 try simp only [Act.put, zp1, zp2, zp3]
 refine take_y 4 36 (v := ?_) rfl ?_ ?_; rotate_left; focus (intro w hSw; (try dsimp only at hSw); go_simp; (try rw [if_neg (by omega)]); (try with_reducible rfl))
 try simp only [Act.put, zp1, zp2, zp3]
 refine take_y 5 37 (v := ?_) rfl ?_ ?_; rotate_left; focus (intro w hSw; (try dsimp only at hSw); go_simp; (try rw [if_neg (by omega)]); (try with_reducible rfl))
 try simp only [Act.put, zp1, zp2, zp3]
 refine wpAnyH_ready (rs := [6]) (by kernel_rfl) (by simp) ?_
 refine AllReadyH.cons rfl (fun K hK => ?_) AllReadyH.nil
 go_simp
 refine (middlesTo_any _ _ _ _ _ _ _ HOK.out ((HV.out.below hbel3).drewN 1)).mono ?_
 rintro e w4 ⟨g2, rfl, hg2, ho2, hb4⟩
 refine hK.out _ _ againA (fun hHeld2 => ?_); clear hHeld hK K; have hHeld := hHeld2; clear hHeld2; (try simp only [Act.put, zp1, zp2, zp3])
 have hbel4 : Below w.heap.size w w4 := (hbel3.drew).trans (Below.mono hb4 hbel3.size)
 have hB4 := hB3.drew.belowAll hb4
 have hz4 := hb4.size
 simp at hg2 hz4
 have ho1' := (Own.drew ho1).below hb4 ho1.lt
 have hlt1 := ho1'.lt
 refine take_y 7 10 (v := ?_) rfl ?_ ?_; rotate_left; focus (intro w hSw; (try dsimp only at hSw); go_simp; (try rw [if_neg (by omega)]); (try with_reducible rfl))
 try simp only [Act.put, zp1, zp2, zp3]
 refine wpAnyH_done (by kernel_rfl) ?_ _
 clear hHeld hB3 t1 t2 t3 tlt ho1
 obtain ⟨t1, t2, t3, _, _, _, tlt⟩ := hB4.three
 have hzw := hbel2.size
 have hg1' : w.heap.size ≤ g1 := by omega
 have hg2' : w.heap.size ≤ g2 := by omega
 rw [← HDX.out] at ho1'
 rw [← HDY.out] at ho2
 have HB4 := Lib.hid hb4
 clear hw1 hw2 hw3 hw4 hb3 hb4 hbel2 hbel3
 go_wp2_with fail
 go_loopw [11, 41] (fun v i wr => ∃ k : Nat, k ≤ m ∧ i = .int .i64 k ∧ wr.ownsRow w4.heap.size 3 1 v (freeTo E m cs x y k).length (ivs (freeTo E m cs x y k)) ∧ Below w4.heap.size w4 wr) (fun _ i _ => m - (intOf i).toNat)
 case atStart => exact ⟨0, by omega, rfl, by rw [freeTo_zero]; exact World.ownsRow_nil _ _ _ _, Below.refl _ _⟩
 case round =>
  obtain ⟨k, hk, rfl, hown, hbel⟩ := hrel
  by_cases hkn : k < m
  ·
   have hO1 := ho1'.below hbel hlt1
   have hO2 := ho2.below hbel ho2.lt
   have q1 := hO1.cell k (by omega)
   rw [bcells_at _ hkn] at q1
   have q2 := hO2.cell k (by omega)
   rw [bcells_at _ hkn] at q2
   have l1 := hO1.lt
   have l2 := hO2.lt
   have hlen := freeTo_len E m cs x y k
   have hz := hbel.size
   have i1 : (0 : Int) ≤ (k : Int) := by omega
   have i2 : (k : Int) < (m : Int) := by omega
   obtain ⟨b1, hb1⟩ : ∃ b, usedB E cs false (x / E) (k : Nat) = b := ⟨_, rfl⟩
   obtain ⟨b2, hb2⟩ : ∃ b, usedB E cs true (y / E) (k : Nat) = b := ⟨_, rfl⟩
   rw [hb1] at q1
   rw [hb2] at q2
   have HB1 := Lib.hid hb1
   have HB2 := Lib.hid hb2
   clear hb1 hb2
   cases b1
   ·
    cases b2
    ·
     have HST := Lib.hid (freeTo_yes hkn HB1.out HB2.out)
     go_wp2_with (at_builtin; refine wpList_append_own _ rfl _ _ 54 rfl w4.heap.size 3 i0 _ 1 8 Try.underlying54 hi hz0 hz1 hz2 rfl (by decide) _ _ _ rfl (hown.alloc _) ⟨wr.heap.size, 0, none⟩ 1 1 [.int .i64 (k : Nat)] rfl rfl (new1 _ _ _ _ (by first | rfl | simp)) (one1 _) (by unfold maxLen; omega) (by omega) (by simp; omega) ?_; intro v' w5 hown' hgrow _)
     have hbel5 : Below w4.heap.size w4 w5 := Below.grown (by (exact grownA)) hgrow (by simp; omega) (own_ge hown)
     clear hgrow q1 q2
     go_roundw
     case rel => exact ⟨k + 1, by omega, by go_num, by rw [HST.out, List.length_append, ← ivs_snoc]; exact hown', hbel5⟩
     case measure => simp [intOf]; omega
    ·
     have HST := Lib.hid (freeTo_no (x := x) hkn (.inr HB2.out))
     go_wp2_with fail
     go_roundw
     case rel => exact ⟨k + 1, by omega, by go_num, by rw [HST.out]; exact hown, hbel⟩
     case measure => simp [intOf]; omega
   ·
    have HST := Lib.hid (freeTo_no (y := y) hkn (.inl HB1.out))
    go_wp2_with fail
    go_roundw
    case rel => exact ⟨k + 1, by omega, by go_num, by rw [HST.out]; exact hown, hbel⟩
    case measure => simp [intOf]; omega
  ·
   obtain rfl : k = m := by omega
   have HF := Lib.hid (freeTo_all E k cs x y)
   go_wp2
   go_returns
   refine ⟨_, rfl, ?_, hbel4.trans (Below.mono hbel (by have := hbel4.size; omega))⟩
   rw [← HF.out]
   exact owns_base (by have := hbel4.size; omega) hown

end Go.Proofs.Ytedadhoneebfnaa
