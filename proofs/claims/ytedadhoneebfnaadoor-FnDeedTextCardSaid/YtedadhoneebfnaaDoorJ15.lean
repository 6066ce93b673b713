/- Joined texts: Dv, Du, Av. -/
import Derived.Test.YtedadhoneebfnaaDoorXe
import Derived.Test.YtedadhoneebfnaaDoorDy
import Derived.Test.YtedadhoneebfnaaDoorJ13
import Derived.Test.YtedadhoneebfnaaDoorRz
import Derived.Test.YtedadhoneebfnaaDoorAlive
set_option linter.unusedSimpArgs false
set_option linter.unusedVariables false
/- The draws of a deed and of deeds that have texts. -/
namespace Go.Proofs.YtedadhoneebfnaaDoor
open Go.RowKit

/-- A deed that was drawn. -/
def DedPost (w : World) (e : Ending) (w' : World) : Prop := ∃ (k l : Int) (s : ByteArray), e = .returned (.agg #[.int .i64 k, .int .i64 l, .string s]) ∧ s.size ≤ 12 ∧ Below w.heap.size w w'
def threes : Array Value := #[.string ⟨#[52]⟩, .string ⟨#[48, 48]⟩, .string ⟨#[120]⟩]
theorem threes_at (k : Int) (h0 : 0 ≤ k) (h1 : k < 3) : ∃ x : ByteArray, threes[k.toNat]? = some (.string x) ∧ x.size ≤ 2 := by
 have : k = 0 ∨ k = 1 ∨ k = 2 := by omega
 rcases this with rfl | rfl | rfl <;> exact ⟨_, rfl, by decide⟩

set_option maxRecDepth 100000 in
set_option maxHeartbeats 4000000 in
theorem DrawDeedText_any (a : Option Addr) (len cap : Nat) (zs : List Int) (w : World) (h : Code w a len cap zs) :
  Calls Tryd.prog 26 #[.slice a len cap] w (DedPost w) := by
 have hZ := Blk.new (w := w) (cs := #[.int .i64 0, .int .i64 0, .string ⟨#[]⟩]) (T := 26) rfl
 have hb0 : Below w.heap.size w (w.alloc (.cells #[.int .i64 0, .int .i64 0, .string ⟨#[]⟩] 26)) := by (exact grownA)
 go_enter Tryd.func26, Tryd.ntmps26
 go_wp2_with fail
 refine (open_any _ _ _ _ _ (h.below hb0)).mono ?_
 rintro e w1 ⟨rb, rfl, hrb, hr, hb1⟩
 have hZ1 := hZ.belowAll hb1
 have hB1 := hb0.trans (Below.mono hb1 hb0.size)
 simp only [World.size_alloc] at hrb
 have hrw := hr.lt
 have hz1 := hB1.size
 clear hZ hb0 hb1 h
 go_wp2_with fail
 refine (l20Exchange_any rb 0 _ _ hr (by omega) (by omega)).mono ?_
 rintro e w2 ⟨O, E, M, vp, vc, ps, cs, q, rfl, ho, hl, hc, hs, -, hq, hrd, hg⟩
 obtain ⟨ap, cp, ac, cc, rfl, rfl⟩ := agg_parts ho
 have hZ2 := hZ1.gb hg (by omega)
 have hB2 := below_gb hg hz1 (by omega) hB1
 have hz2 := hg.size
 clear hr hg hZ1 hB1
 go_wp2_with fail
 refine (l20ExDeed_any rb q O E M _ _ ps _ hrd (by omega) (Rds.ofOwns ho.plan) ⟨_, _, _, rfl⟩ hl hs (fun a n' c h e => by have h1 := own_ge ho.plan a.block (by rw [h]; rfl); cases e; omega)).mono ?_
 rintro e w3 ⟨k, l, s, q3, rfl, hs8, hqa, hqb, hr3, hg3⟩
 have hZ3 := (hZ2.gb hg3 (by omega)).alloc (.cells #[.int .i64 k, .int .i64 l, .string s] 26)
 have hB3 := below_gb hg3 (by omega) (by omega) hB2
 have hz3 := hg3.size
 have hD3 := Blk.new (w := w3) (cs := #[.int .i64 k, .int .i64 l, .string s]) (T := 26) (b := w3.heap.size) rfl
 have hB4 := hB3.alloc hB3.size (.cells #[.int .i64 k, .int .i64 l, .string s] 26)
 have hr4 := hr3.alloc (o := .cells #[.int .i64 k, .int .i64 l, .string s] 26)
 have hdlt : rb < w3.heap.size := hr3.lt
 clear hrd hg3 hZ2 hB2 hB3 ho hr3 hs
 go_wp2_with fail
 refine (odd_any rb q3 _ _ hr4 (by omega) (by omega)).mono ?_
 rintro e w5 ⟨b, q5, rfl, -, hqc, hqd, hr5, hg5⟩
 have hZ5 := hZ3.gb hg5 (by omega)
 have hD5 := hD3.gb hg5 (by omega)
 have hB5 := below_gb hg5 hB4.size (by omega) hB4
 have hz5 := hg5.size
 simp only [World.size_alloc] at hz5
 clear hr4 hg5 hZ3 hD3 hB4
 have hdne : ¬ (w3.heap.size = w.heap.size) := by omega
 have hdne2 : ¬ (w.heap.size = w3.heap.size) := by omega
 cases b
 ·
  clear hr5
  obtain ⟨d0, d1, d2, -, -, -, dlt⟩ := hD5.three
  obtain ⟨p0, p1, p2, f0, f1, f2, plt⟩ := hZ5.three
  go_wp2
  obtain ⟨z0, z1, z2, -⟩ := (((hZ5.set (i := 0) (u := .int .i64 k) rfl).set (i := 1) (u := .int .i64 l) rfl).set (i := 2) (u := .string (s)) rfl).three
  refine bodyPost_ret (v := .agg #[.int .i64 k, .int .i64 l, .string (s)]) (by simp [results, Tryd.results26, go_sem, z0, z1, z2]) rfl ?_
  exact ⟨k, l, s, rfl, by omega, ((hB5.setCell (Nat.le_refl _) _).setCell (Nat.le_refl _) _).setCell (Nat.le_refl _) _⟩
 ·
  have tok1 : True := trivial
  go_upto_region 4 with fail
  go_cut [] (fun wc => ∃ t : ByteArray, t.size ≤ 12 ∧ Blk wc w3.heap.size #[.int .i64 k, .int .i64 l, .string t] 26 ∧ Blk wc w.heap.size #[.int .i64 0, .int .i64 0, .string ⟨#[]⟩] 26 ∧ Below w.heap.size w wc)
  case first =>
   obtain ⟨d0, d1, d2, g0, g1, g2, dlt⟩ := hD5.three
   go_wp2_with fail
   go_region_with (first
    | (go_at_call 48; have _t := tok1; refine (pick_any rb q5 _ _ ?hh (by omega) (by omega)).mono ?_; (case hh => first | exact hr5.drew | exact hr5.alloc.drew | exact hr5.drew.alloc); rintro e w6 ⟨y, rfl, hy0, hy1, hr6, hg6⟩; clear tok1; have hy : y < 3 := (by omega); have hz6 := hg6.size; (try simp only [World.size_alloc, World.size_drew] at hz6); have hD6 : Blk w6 w3.heap.size #[.int .i64 k, .int .i64 l, .string s] 26 := Blk.gb hg6 (by omega) (by first | exact hD5.drew | exact hD5.drew.alloc _); have hZ6 : Blk w6 w.heap.size #[.int .i64 0, .int .i64 0, .string ⟨#[]⟩] 26 := Blk.gb hg6 (by omega) (by first | exact hZ5.drew | exact hZ5.drew.alloc _); have hB6 : Below w.heap.size w w6 := below_gb hg6 (by first | exact hB5.size | (have := hB5.size; simp; omega)) (by omega) (by first | exact hB5.drew | exact hB5.drew.alloc hB5.size _); obtain ⟨x, hx, hxs⟩ := threes_at y hy0 hy; (first | (have hS6 : Blk w6 w5.heap.size threes 9 := Blk.gb hg6 (by omega) (Blk.new rfl)) | (have hS6 : Blk (w6.alloc (.cells threes 9)) w6.heap.size threes 9 := Blk.new rfl)); have hcell6 := (hS6.at y.toNat).trans hx; have hslt := hS6.lt; obtain ⟨D0, D1, D2, G0, G1, G2, Dlt⟩ := hD6.three; clear hg6 hy1 hS6 hx; unfold threes at hcell6))
   all_goals
    have hsx : (s ++ x).size ≤ 12 := by rw [ByteArray.size_append]; omega
    clear hr5 hr6 hcell6 hD5 hZ5 hB5
    go_wp2_with fail
    go_meet
    first
     | exact ⟨s ++ x, hsx, hD6.set (i := 2) (u := .string (s ++ x)) rfl, hZ6.other (by show w.heap.size ≠ w3.heap.size; omega), hB6.setCell (by show _ ≤ w3.heap.size; omega) _⟩
     | exact ⟨s ++ x, hsx, (hD6.alloc _).set (i := 2) (u := .string (s ++ x)) rfl, (hZ6.alloc _).other (by show w.heap.size ≠ w3.heap.size; omega), (hB6.alloc hB6.size _).setCell (by show _ ≤ w3.heap.size; omega) _⟩
     | exact ⟨s ++ x, hsx, (hD6.set (i := 2) (u := .string (s ++ x)) rfl).alloc _, (hZ6.other (by show w.heap.size ≠ w3.heap.size; omega)).alloc _, (hB6.setCell (by show _ ≤ w3.heap.size; omega) _).alloc (by have := hB6.size; simp; omega) _⟩
  case rest =>
  clear hr5 hZ5 hD5 hB5
  obtain ⟨t, ht, hD5, hZ5, hB5⟩ := hcut
  obtain ⟨d0, d1, d2, -, -, -, dlt⟩ := hD5.three
  obtain ⟨p0, p1, p2, f0, f1, f2, plt⟩ := hZ5.three
  go_wp2
  obtain ⟨z0, z1, z2, -⟩ := (((hZ5.set (i := 0) (u := .int .i64 k) rfl).set (i := 1) (u := .int .i64 l) rfl).set (i := 2) (u := .string (t)) rfl).three
  refine bodyPost_ret (v := .agg #[.int .i64 k, .int .i64 l, .string (t)]) (by simp [results, Tryd.results26, go_sem, z0, z1, z2]) rfl ?_
  exact ⟨k, l, t, rfl, ht, ((hB5.setCell (Nat.le_refl _) _).setCell (Nat.le_refl _) _).setCell (Nat.le_refl _) _⟩

end Go.Proofs.YtedadhoneebfnaaDoor

/- The draw of a text: l20Spoil, DrawReadDeed. -/
namespace Go.Proofs.YtedadhoneebfnaaDoor
open Go.RowKit

def sixes : Array Value := #[.string ⟨#[]⟩, .string ⟨#[48]⟩, .string ⟨#[32]⟩, .string ⟨#[10]⟩, .string ⟨#[51]⟩, .string ⟨#[100, 114, 111, 112]⟩]
theorem sixes_at (k : Int) (h0 : 0 ≤ k) (h1 : k < 6) : ∃ x : ByteArray, sixes[k.toNat]? = some (.string x) ∧ x.size ≤ 4 := by
 have : k = 0 ∨ k = 1 ∨ k = 2 ∨ k = 3 ∨ k = 4 ∨ k = 5 := by omega
 rcases this with rfl | rfl | rfl | rfl | rfl | rfl <;> exact ⟨_, rfl, by decide⟩
/-- What l20Spoil leaves. -/
def SpoilPost (rb p : Nat) (s : ByteArray) (w : World) (e : Ending) (w' : World) : Prop :=
 ∃ (t : ByteArray) (q : Nat), e = .returned (.string t) ∧ t.size ≤ 2 * s.size + 4 ∧ p ≤ q ∧ q ≤ p + 2 ∧ Rdr w' rb q ∧ w.grownBy w' (some rb)

set_option maxRecDepth 100000 in
set_option maxHeartbeats 4000000 in
theorem l20Spoil_any (rb p : Nat) (s : ByteArray) (w : World) (h : Rdr w rb p) (hp : p ≤ 1000000) (hs : s.size ≤ 1000000) :
  Calls Tryd.prog 50 #[.pointer (some ⟨rb, 0, none⟩), .string s] w (SpoilPost rb p s w) := by
 by_cases h0 : s.size = 0
 ·
  go_enter Tryd.func50, Tryd.ntmps50
  go_wp2
  go_returns
  exact ⟨⟨#[10]⟩, p, rfl, by show 1 ≤ _; omega, by omega, by omega, h, World.grownBy.refl _ _⟩
 ·
  go_enter Tryd.func50, Tryd.ntmps50
  go_wp2_with fail
  refine (pick_any rb p _ _ h (by omega) (by omega)).mono ?_
  rintro e w1 ⟨y, rfl, hya, hyb, hr1, hg1⟩
  obtain ⟨k, rfl⟩ := Int.eq_ofNat_of_zero_le hya
  have hk : k < s.size := by omega
  have hx1 : (s.extract 0 k).size ≤ s.size := by rw [ByteArray.size_extract]; omega
  have hx2 : (s.extract (k + 1) s.size).size ≤ s.size := by rw [ByteArray.size_extract]; omega
  have hrlt := hr1.lt
  have i1 : (0 : Int) ≤ (k : Int) := by omega
  have i2 : (k : Int) ≤ (s.size : Int) := by omega
  have i3 : (0 : Int) ≤ (k : Int) + 1 := by omega
  have i4 : (k : Int) + 1 ≤ (s.size : Int) := by omega
  have i5 : k + 1 ≤ s.size := hk
  have i6 : (k : Int) < (s.size : Int) := by omega
  have i7 : k ≤ s.size := by omega
  have i8 : IntKind.i64.wrap ((k : Int) + 1) = (k : Int) + 1 := IntWalk.i64_in _ (by omega)
  have i9 : ((k : Int) + 1).toNat = k + 1 := by omega
  clear h hya hyb
  have tok1 : True := trivial
  go_wp2_with fail
  go_region_with (first
   | (go_at_call 48; have _t := tok1; refine (pick_any rb (p + 1) _ _ ?hh (by omega) (by omega)).mono ?_; (case hh => first | exact hr1.drew | exact hr1.alloc.drew | exact hr1.drew.alloc); rintro e w6 ⟨y, rfl, hy0, hy1, hr6, hg6⟩; clear tok1; have hy : y < 6 := (by omega); have hz6 := hg6.size; (try simp only [World.size_alloc, World.size_drew] at hz6); have hgg : w.grownBy w6 (some rb) := (by first | exact gb_trans (gb_drew hg1) hg6 | exact gb_trans (gb_alloc (gb_drew hg1)) hg6); obtain ⟨x, hx, hxs⟩ := sixes_at y hy0 hy; (first | (have hS6 : Blk w6 w1.heap.size sixes 9 := Blk.gb hg6 (by omega) (Blk.new rfl)) | (have hS6 : Blk (w6.alloc (.cells sixes 9)) w6.heap.size sixes 9 := Blk.new rfl)); have hcell6 := (hS6.at y.toNat).trans hx; have hslt := hS6.lt; clear hg6 hy1 hS6 hx; unfold sixes at hcell6))
  all_goals
   have hx3 : (s.extract 0 k ++ x).size ≤ s.size + 4 := by rw [ByteArray.size_append]; omega
   have hx4 : ((s.extract 0 k ++ x) ++ s.extract (k + 1) s.size).size ≤ 2 * s.size + 4 := by rw [ByteArray.size_append]; omega
   go_wp2
   go_returns
   first
    | exact ⟨_, p + 2, rfl, hx4, by omega, by omega, hr6, hgg⟩
    | exact ⟨_, p + 2, rfl, hx4, by omega, by omega, hr6.alloc, gb_alloc hgg⟩

/-- A text that was drawn. -/
def TxtPost (w : World) (e : Ending) (w' : World) : Prop := ∃ s : ByteArray, e = .returned (.string s) ∧ s.size ≤ 100 ∧ Below w.heap.size w w'

set_option maxRecDepth 100000 in
set_option maxHeartbeats 4000000 in
theorem DrawReadDeed_any (a : Option Addr) (len cap : Nat) (zs : List Int) (w : World) (h : Code w a len cap zs) :
  Calls Tryd.prog 28 #[.slice a len cap] w (TxtPost w) := by
 go_enter Tryd.func28, Tryd.ntmps28
 go_wp2_with fail
 refine (open_any _ _ _ _ _ h).mono ?_
 rintro e w1 ⟨rb, rfl, hrb, hr, hb1⟩
 have hrw := hr.lt
 have hz1 := hb1.size
 clear h
 go_wp2_with fail
 refine (l20Exchange_any rb 0 _ _ hr (by omega) (by omega)).mono ?_
 rintro e w2 ⟨O, E, M, vp, vc, ps, cs, q, rfl, ho, hl, hc, hs, -, hq, hrd, hg⟩
 obtain ⟨ap, cp, ac, cc, rfl, rfl⟩ := agg_parts ho
 have hB2 := below_gb hg hz1 hrb hb1
 have hz2 := hg.size
 clear hr hg hb1
 go_wp2_with fail
 refine (l20ExDeed_any rb q O E M _ _ ps _ hrd (by omega) (Rds.ofOwns ho.plan) ⟨_, _, _, rfl⟩ hl hs (fun a n' c h e => by have h1 := own_ge ho.plan a.block (by rw [h]; rfl); cases e; omega)).mono ?_
 rintro e w3 ⟨k, l, s, q3, rfl, hs8, hqa, hqb, hr3, hg3⟩
 have hB3 := below_gb hg3 (by omega) hrb hB2
 have hz3 := hg3.size
 have hsm : s.size ≤ maxLen := by unfold maxLen; omega
 clear hrd hg3 hB2 ho hs
 go_wp2_with fail
 refine (sDeedText_any k l s _ hsm).mono ?_
 rintro e w4 ⟨rfl, hc4⟩
 have hB4 := hB3.trans (Below.mono hc4 hB3.size)
 have hr4 := hr3.below hc4 hr3.lt
 obtain ⟨t, ht⟩ : ∃ t, dtxt k l s = t := ⟨_, rfl⟩
 have hts := dtxt_size k l s
 rw [ht] at hts ⊢
 clear ht hB3 hr3 hc4
 have hz4 := hB4.size
 go_wp2_with fail
 refine (pick_any rb q3 _ _ hr4 (by omega) (by omega)).mono ?_
 rintro e w5 ⟨y, rfl, hya, hyb, hr5, hg5⟩
 have hB5 := below_gb hg5 hz4 hrb hB4
 have hz5 := hB5.size
 clear hr4 hg5 hB4
 by_cases hy : y = 0
 ·
  subst hy
  go_wp2_with fail
  refine (l20Spoil_any rb (q3 + 1) t _ hr5 (by omega) (by omega)).mono ?_
  rintro e w6 ⟨u, q6, rfl, hu, hqc, hqd, hr6, hg6⟩
  have hB6 := below_gb hg6 hz5 hrb hB5
  clear hr5 hr6 hg6 hB5
  go_wp2
  go_returns
  exact ⟨u, rfl, by omega, hB6⟩
 ·
  have hyb0 : (y == 0) = false := by simpa using hy
  clear hy hr5
  go_wp2
  go_returns
  exact ⟨t, rfl, by omega, hB5⟩

end Go.Proofs.YtedadhoneebfnaaDoor

/- The walks of the laws of DeedText and ReadDeed (printed by gen_av.py). -/
namespace Go.Proofs.YtedadhoneebfnaaDoor
open Go.RowKit

set_option maxRecDepth 100000 in
set_option maxHeartbeats 4000000 in
theorem wDeedText (a : Option Addr) (len cap : Nat) (zs : List Int) (w : World) (h0 : IsRow .u8 w a len cap zs) :
  Calls Tryd.prog 7 #[.slice a len cap] w fun e w' => e = .returned (.bool true) ∧ Below w.heap.size w w' := by
 have h := h0.code
 have hm := h.bd
 by_cases hbig : len > 1048576
 ·
  go_enter Tryd.func7, Tryd.ntmps7
  go_wp2
  go_returns
  exact ⟨rfl, Below.refl _ _⟩
 go_enter Tryd.func7, Tryd.ntmps7
 go_wp2_with fail
 refine (DrawDeedText_any _ _ _ _ _ h).mono ?_
 rintro e w1 ⟨k, l, s, rfl, hs12, hb1⟩
 clear h h0 hbig hm
 have hsm : s.size ≤ maxLen := by unfold maxLen; omega
 have HSM := Lib.hid hsm
 have hD := Blk.new (w := w1) (cs := #[.int .i64 k, .int .i64 l, .string s]) (T := 26) (b := w1.heap.size) rfl
 have hbel := hb1.alloc hb1.size (.cells #[.int .i64 k, .int .i64 l, .string s] 26)
 clear hsm hb1
 obtain ⟨t, ht⟩ : ∃ t, dtxt k l s = t := ⟨_, rfl⟩
 have HT := Lib.hid ht
 have hts := dtxt_size k l s
 rw [ht] at hts
 clear ht
 obtain ⟨dq0, dq1, dq2, -, -, -, dqlt⟩ := hD.three
 go_wp2_with fail
 refine (iDeedText_any k l s _ HSM.out).mono ?_
 rintro e w2 ⟨rfl, hc⟩
 rw [HT.out]
 clear dq0 dq1 dq2 dqlt
 have hD_ := hD.belowAll hc
 clear hD
 have hD := hD_
 clear hD_
 have hbel_ := hbel.trans (Below.mono hc hbel.size)
 clear hbel hc
 have hbel := hbel_
 clear hbel_
 obtain ⟨dq0, dq1, dq2, -, -, -, dqlt⟩ := hD.three
 go_wp2_with fail
 refine (sDeedText_any k l s _ HSM.out).mono ?_
 rintro e w3 ⟨rfl, hc⟩
 rw [HT.out]
 clear dq0 dq1 dq2 dqlt
 have hD_ := hD.belowAll hc
 clear hD
 have hD := hD_
 clear hD_
 have hbel_ := hbel.trans (Below.mono hc hbel.size)
 clear hbel hc
 have hbel := hbel_
 clear hbel_
 have htt := str_eq (rfl : t = t)
 by_cases ht0 : t.size = 0
 ·
  have hte := empty_of ht0
  subst hte
  clear hD
  go_wp2_with fail
  refine (alive_any _).mono ?_
  rintro e w9 ⟨rfl, hc⟩
  have hbel_ := hbel.trans (Below.mono hc hbel.size)
  clear hc
  go_wp2
  go_returns
  exact ⟨rfl, hbel_⟩
 obtain ⟨hs1, hs2⟩ := some_of ht0
 have hRD : rdeed t = ((k, l, s), true) := by
  rw [← HT.out] at ht0 ⊢
  exact rdeed_dt (d := (k, l, s)) ht0
 have HRD := Lib.hid hRD
 have htm : t.size ≤ maxLen := by unfold maxLen; omega
 clear hRD ht0
 obtain ⟨dq0, dq1, dq2, -, -, -, dqlt⟩ := hD.three
 go_wp2_with fail
 refine (iReadDeed_any t _ htm).mono ?_
 intro e w4 hq
 unfold RdPost at hq
 rw [HRD.out] at hq
 obtain ⟨rfl, hc⟩ := hq
 clear dq0 dq1 dq2 dqlt
 have hD_ := hD.belowAll hc
 clear hD
 have hD := hD_
 clear hD_
 have hbel_ := hbel.trans (Below.mono hc hbel.size)
 clear hbel hc
 have hbel := hbel_
 clear hbel_
 have hX := Blk.new (w := w4) (cs := #[.int .i64 k, .int .i64 l, .string s]) (T := 26) (b := w4.heap.size) rfl
 have hF := hD.alloc (.cells #[.int .i64 k, .int .i64 l, .string s] 26)
 have hbel2 := hbel.alloc hbel.size (.cells #[.int .i64 k, .int .i64 l, .string s] 26)
 have hss := str_eq (rfl : s = s)
 clear hD hbel
 obtain ⟨xq0, xq1, xq2, -, -, -, xqlt⟩ := hX.three
 obtain ⟨fq0, fq1, fq2, -, -, -, fqlt⟩ := hF.three
 go_wp2
 go_returns
 exact ⟨rfl, hbel2⟩

set_option maxRecDepth 100000 in
set_option maxHeartbeats 4000000 in
theorem wReadDeed (a : Option Addr) (len cap : Nat) (zs : List Int) (w : World) (h0 : IsRow .u8 w a len cap zs) :
  Calls Tryd.prog 8 #[.slice a len cap] w fun e w' => e = .returned (.bool true) ∧ Below w.heap.size w w' := by
 have h := h0.code
 have hm := h.bd
 by_cases hbig : len > 1048576
 ·
  go_enter Tryd.func8, Tryd.ntmps8
  go_wp2
  go_returns
  exact ⟨rfl, Below.refl _ _⟩
 go_enter Tryd.func8, Tryd.ntmps8
 go_wp2_with fail
 refine (DrawReadDeed_any _ _ _ _ _ h).mono ?_
 rintro e w1 ⟨s, rfl, hs100, hbel⟩
 clear h h0 hbig hm
 have hsm : s.size ≤ maxLen := by unfold maxLen; omega
 have HSM := Lib.hid hsm
 clear hsm
 obtain ⟨⟨⟨k, l, t⟩, b⟩, hr⟩ : ∃ r, rdeed s = r := ⟨_, rfl⟩
 have HR := Lib.hid hr
 clear hr
 go_wp2_with fail
 refine (iReadDeed_any s _ HSM.out).mono ?_
 intro e w2 hq
 unfold RdPost at hq
 rw [HR.out] at hq
 obtain ⟨rfl, hc⟩ := hq
 have hX := Blk.new (w := w2) (cs := #[.int .i64 k, .int .i64 l, .string t]) (T := 26) (b := w2.heap.size) rfl
 have hb2 := hbel.trans (Below.mono hc hbel.size)
 have hb3 := hb2.alloc hb2.size (.cells #[.int .i64 k, .int .i64 l, .string t] 26)
 clear hbel hc hb2
 go_wp2_with fail
 refine (sReadDeed_any s _ (by omega)).mono ?_
 intro e w3 hq
 unfold RdPost at hq
 rw [HR.out] at hq
 obtain ⟨rfl, hc⟩ := hq
 have hX2 := (hX.belowAll hc).alloc (.cells #[.int .i64 k, .int .i64 l, .string t] 26)
 have hY := Blk.new (w := w3) (cs := #[.int .i64 k, .int .i64 l, .string t]) (T := 26) (b := w3.heap.size) rfl
 have hb4 := hb3.trans (Below.mono hc hb3.size)
 have hb5 := hb4.alloc hb4.size (.cells #[.int .i64 k, .int .i64 l, .string t] 26)
 clear hX hc hb3 hb4
 have htt := str_eq (rfl : t = t)
 obtain ⟨xq0, xq1, xq2, -, -, -, xqlt⟩ := hX2.three
 obtain ⟨yq0, yq1, yq2, -, -, -, yqlt⟩ := hY.three
 have hbel := hb5
 clear hb5
 cases b
 ·
  have hz := rdeed_false HR.out
  simp only [Prod.mk.injEq] at hz
  obtain ⟨rfl, rfl, rfl⟩ := hz
  clear hX2 hY
  go_wp2_with fail
  refine (alive_any _).mono ?_
  rintro e w9 ⟨rfl, hc⟩
  have hbel_ := hbel.trans (Below.mono hc hbel.size)
  clear hc
  go_wp2
  go_returns
  exact ⟨rfl, hbel_⟩
 obtain ⟨ht, h0⟩ := rdeed_true HR.out
 have htl : t.size ≤ s.size := by
  have h1 : (dt (k, l, t)).size ≠ 0 := by rw [ht]; exact h0
  obtain ⟨n, hn, hl, h2⟩ := dt_is h1
  rw [ht] at h2
  have h3 := tl_size t
  have h4 := tl_size s
  rcases h2 with ⟨_, h5, _⟩ | ⟨_, _, h5⟩ | ⟨_, _, h5⟩
  ·
   simp only at h5
   rw [h5] at h3
   simp at h3
   omega
  ·
   have := congrArg List.length h5
   simp only [List.length_append, List.length_cons] at this
   omega
  ·
   have := congrArg List.length h5
   simp only [List.length_append, List.length_cons] at this
   omega
 have HTS : Hid (t.size ≤ maxLen) := by unfold Hid maxLen; omega
 have HDT : Hid (dtxt k l t = s) := ht
 have hsp := rdeed_sp HR.out
 obtain ⟨⟨⟨k2, l2, t2⟩, b2⟩, hr2⟩ : ∃ r, rdeed (s ++ (⟨#[32]⟩ : ByteArray)) = r := ⟨_, rfl⟩
 rw [hr2] at hsp
 simp only at hsp
 subst hsp
 have HR2 := Lib.hid hr2
 have HS2 : Hid ((s ++ (⟨#[32]⟩ : ByteArray)).size ≤ maxLen) := by
  unfold Hid maxLen
  rw [ByteArray.size_append]
  have : (⟨#[32]⟩ : ByteArray).size = 1 := rfl
  omega
 clear hr2 ht h0 htl
 go_wp2_with fail
 refine (iReadDeed_any (s ++ (⟨#[32]⟩ : ByteArray)) _ HS2.out).mono ?_
 intro e w4 hq
 unfold RdPost at hq
 rw [HR2.out] at hq
 obtain ⟨rfl, hc⟩ := hq
 have hX3 := (hX2.belowAll hc).alloc (.cells #[.int .i64 k2, .int .i64 l2, .string t2] 26)
 have hb4 := hbel.trans (Below.mono hc hbel.size)
 have hb5 := hb4.alloc hb4.size (.cells #[.int .i64 k2, .int .i64 l2, .string t2] 26)
 clear hX2 hY hc hb4 hbel xq0 xq1 xq2 xqlt yq0 yq1 yq2 yqlt
 obtain ⟨xq0, xq1, xq2, -, -, -, xqlt⟩ := hX3.three
 go_wp2_with fail
 refine (iDeedText_any k l t _ HTS.out).mono ?_
 rintro e w5 ⟨rfl, hc⟩
 rw [HDT.out]
 have hss := str_eq (rfl : s = s)
 have hb6 := hb5.trans (Below.mono hc hb5.size)
 clear hX3 hc hb5 xq0 xq1 xq2 xqlt
 go_wp2
 go_returns
 exact ⟨rfl, hb6⟩

end Go.Proofs.YtedadhoneebfnaaDoor
