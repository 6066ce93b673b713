/- The draws of a plan and a text: DrawDialOne, DrawDialAll. -/
import Derived.Test.YtcacedcbboidoaaDrNum
set_option linter.unusedSimpArgs false
set_option linter.unusedVariables false
namespace Go.Proofs.Ytcacedcbboidoaa
open Go.RowKit

/-- A plan and a text that were drawn. -/
def PlanTxt (w : World) (e : Ending) (w' : World) : Prop :=
  ∃ (v : Value) (ps : List ByteArray) (s : ByteArray), e = .returned (.tuple #[v, .string s]) ∧ w'.ownsRow w.heap.size 9 1 v ps.length (strs ps) ∧ ps.length ≤ 12 ∧ StSmall ps ∧ s.size ≤ 100 ∧ Below w.heap.size w w'

def fours : Array Value := #[.string ⟨#[]⟩, .string ⟨#[]⟩, .string ⟨#[]⟩, .string ⟨#[53]⟩]
theorem fours_at (k : Int) (h0 : 0 ≤ k) (h1 : k < 4) : ∃ x : ByteArray, fours[k.toNat]? = some (.string x) ∧ x.size ≤ 1 := by
  have : k = 0 ∨ k = 1 ∨ k = 2 ∨ k = 3 := by omega
  rcases this with rfl | rfl | rfl | rfl <;> exact ⟨_, rfl, by decide⟩

theorem own_kept {w0 w1 w2 : World} {base n : Nat} {E : TypeId} {size : Nat} {v : Value} {xs : List Value} {rb : Nat} (hg : w1.grownBy w2 (some rb)) (h : w0.ownsRow base E size v n xs) (hh : w1.heap = w0.heap) (hne : v.ownBlock = none ∨ v.ownBlock ≠ some rb) : w2.ownsRow base E size v n xs := by
  have h1 : w1.ownsRow base E size v n xs := by
    refine ⟨h.1, ?_⟩
    rcases h.2 with h2 | ⟨g, cap, cur, hv, hg', hb, r⟩
    · exact .inl h2
    · exact .inr ⟨g, cap, cur, hv, hg', by rw [hh]; exact hb, r⟩
  exact h1.kept hg hne

set_option maxRecDepth 100000 in
set_option maxHeartbeats 2000000 in
theorem DrawDialOne_any (a : Option Addr) (len cap : Nat) (zs : List Int) (w : World) (h : Code w a len cap zs) :
    Calls Try.prog 49 #[.slice a len cap] w (PlanTxt w) := by
  go_enter Try.func49, Try.ntmps49
  go_wp2_with fail
  refine (open_any _ _ _ _ _ h).mono ?_
  rintro e w1 ⟨rb, rfl, hrb, hr, hb⟩
  have hz1 := hb.size
  go_wp2_with fail
  refine (l20Numbers_any rb 0 _ _ hr (by omega) (by omega)).mono ?_
  rintro e w2 ⟨v, ps, q2, rfl, ho, hl, hsm, -, hq2, hr2, hg2⟩
  have hbel2 : Below w.heap.size w w2 := below_gb hg2 hz1 hrb hb
  have hz2 := hbel2.size
  have hrlt := hr.lt
  have NE : v.ownBlock = none ∨ v.ownBlock ≠ some rb := by
    cases hv : v.ownBlock with
    | none => exact .inl rfl
    | some k => exact .inr (by have := own_ge ho k hv; simp; omega)
  have HSM := Lib.hid hsm
  obtain ⟨n, hn⟩ : ∃ n, ps.length = n := ⟨_, rfl⟩
  have HN := Lib.hid hn
  rw [hn] at ho hl
  have ho2 := owns_base hz1 ho
  have hshape : ∃ va vc, v = .slice va n vc := by obtain ⟨va, vc, h, _⟩ := (Rds.ofOwns ho).open1; exact ⟨va, vc, h⟩
  have HNE := Lib.hid NE
  clear hr hb hg2 hsm hn ho NE
  have tok1 : True := trivial
  have tok2 : True := trivial
  go_upto_region 3 with fail
  go_cut [17] (fun t17 wc => ∃ (b : Bool) (q : Nat), t17 = .bool b ∧ (b = true → 0 < n) ∧ q2 ≤ q ∧ q ≤ q2 + 1 ∧ wc.ownsRow w.heap.size 9 1 v n (strs ps) ∧ Rdr wc rb q ∧ Below w.heap.size w wc)
  case first =>
    obtain ⟨va, vc, rfl⟩ := hshape
    by_cases hn0 : n = 0
    · subst hn0
      go_wp2_with fail
      go_meet
      exact ⟨false, q2, by simp, fun h => absurd h (by simp), by omega, by omega, ho2, hr2, hbel2⟩
    · have hpos : 0 < n := by omega
      clear hn0
      go_wp2_with fail
      refine (pick_any rb q2 _ _ hr2 (by omega) (by omega)).mono ?_
      rintro e w3 ⟨y, rfl, hy0, hy1, hr3, hgb3⟩
      have ho3 := own_kept hgb3 ho2 rfl HNE.out
      have hbel3 : Below w.heap.size w w3 := below_gb hgb3 hz2 hrb hbel2
      go_wp2_with fail
      go_meet
      exact ⟨_, q2 + 1, rfl, fun _ => hpos, by omega, by omega, ho3, hr3, hbel3⟩
  case rest =>
    clear hr2 ho2 hbel2 hz2
    obtain ⟨b, q, rfl, hbn, hqa, hqb, ho2, hr2, hbel2⟩ := hcut
    obtain ⟨va, vc, rfl⟩ := hshape
    generalize wc = w2 at *
    have hz2 := hbel2.size
    have hrlt2 := hr2.lt
    cases b
    · clear hbn
      have hr2d : Rdr w2.drew rb q := hr2.drew
      have hod : w2.drew.ownsRow w.heap.size 9 1 (.slice va n vc) n (strs ps) := ho2
      go_wp2_with fail
      go_region_with (first
        | (go_at_call 89; have _t := tok1; refine (l20Digits_any rb q _ _ ?hh (by omega) (by omega) (by omega)).mono ?_; (case hh => first | exact hr2.drew | exact hr2.alloc.drew); rintro e w3 ⟨s3, q3, rfl, hs3, -, hq3a, hq3b, hr3, hgb3⟩; clear tok1; have hz3 := hgb3.size; simp only [World.size_drew, World.size_alloc] at hz3; have hbel3 : Below w.heap.size w w3 := below_gb hgb3 (by first | omega | (simp; omega)) hrb (by (repeat' (first | (with_reducible exact Below.refl _ _) | (with_reducible assumption) | (with_reducible refine Below.drew ?_) | (with_reducible refine below_drewN ?_ _) | (with_reducible refine Below.alloc ?_ ?_ _) | (with_reducible refine Below.setCell ?_ ?_ _) | (refine Below.trans ?_ (Below.mono (by assumption) (by first | omega | (with_reducible exact Below.size (by assumption)) | (simp; done) | (simp; omega)))) | (with_reducible exact Nat.le_refl _) | omega | (with_reducible exact Below.size (by assumption)) | (simp only [World.size_alloc, World.size_setCell, World.size_drew]; omega) | (simp; done) | (simp; omega)))); have ho3 : w3.ownsRow w.heap.size 9 1 (.slice va n vc) n (strs ps) := (by first | exact own_kept hgb3 ho2 rfl HNE.out | exact own_kept hgb3 (ho2.alloc (.cells fours 9)) rfl HNE.out); (try (have hB3 : Blk w3 w2.heap.size fours 9 := Blk.gb hgb3 (by omega) (Blk.drew (Blk.new rfl)))); clear hgb3)
        | (go_at_call 90; have _t := tok2; refine (pick_any rb q3 _ _ ?hh (by omega) (by omega)).mono ?_; (case hh => first | exact hr3 | exact hr3.alloc); rintro e w4 ⟨y, rfl, hy0, hy1, hr4, hgb4⟩; clear tok2; have hy : y < 4 := (by omega); have hz4 := hgb4.size; (try simp only [World.size_alloc] at hz4); have hbel4 : Below w.heap.size w w4 := below_gb hgb4 (by first | omega | (simp; omega)) hrb (by (repeat' (first | (with_reducible exact Below.refl _ _) | (with_reducible assumption) | (with_reducible refine Below.drew ?_) | (with_reducible refine below_drewN ?_ _) | (with_reducible refine Below.alloc ?_ ?_ _) | (with_reducible refine Below.setCell ?_ ?_ _) | (refine Below.trans ?_ (Below.mono (by assumption) (by first | omega | (with_reducible exact Below.size (by assumption)) | (simp; done) | (simp; omega)))) | (with_reducible exact Nat.le_refl _) | omega | (with_reducible exact Below.size (by assumption)) | (simp only [World.size_alloc, World.size_setCell, World.size_drew]; omega) | (simp; done) | (simp; omega)))); obtain ⟨x, hx, hxs⟩ := fours_at y hy0 hy; have ho4 : w4.ownsRow w.heap.size 9 1 (.slice va n vc) n (strs ps) := (by first | exact own_kept hgb4 ho3 rfl HNE.out | exact own_kept hgb4 (ho3.alloc (.cells fours 9)) rfl HNE.out); (first | (have hB4 : Blk w4 w2.heap.size fours 9 := Blk.gb hgb4 (by omega) hB3) | (have hB4 : Blk w4 w3.heap.size fours 9 := Blk.gb hgb4 (by omega) (Blk.new rfl)) | (have hB4 : Blk (w4.alloc (.cells fours 9)) w4.heap.size fours 9 := Blk.new rfl)); have hcell4 := (hB4.at y.toNat).trans hx; have hblt := hB4.lt; clear hgb4 hy1 hB4 hx; unfold fours at hcell4))
      all_goals
        have hsx : (s3 ++ x).size ≤ 100 := by rw [ByteArray.size_append]; omega
        have HO4 := Lib.hid ho4
        clear hr2 hr3 hr4 hcell4 hod ho2 ho3 ho4
        go_wp2
        go_returns
        first
          | exact ⟨_, ps, s3 ++ x, rfl, by rw [HN.out]; exact HO4.out, by rw [HN.out]; exact hl, HSM.out, hsx, hbel4⟩
          | exact ⟨_, ps, s3 ++ x, rfl, by rw [HN.out]; exact HO4.out.alloc _, by rw [HN.out]; exact hl, HSM.out, hsx, by (repeat' (first | (with_reducible exact Below.refl _ _) | (with_reducible assumption) | (with_reducible refine Below.drew ?_) | (with_reducible refine below_drewN ?_ _) | (with_reducible refine Below.alloc ?_ ?_ _) | (with_reducible refine Below.setCell ?_ ?_ _) | (refine Below.trans ?_ (Below.mono (by assumption) (by first | omega | (with_reducible exact Below.size (by assumption)) | (simp; done) | (simp; omega)))) | (with_reducible exact Nat.le_refl _) | omega | (with_reducible exact Below.size (by assumption)) | (simp only [World.size_alloc, World.size_setCell, World.size_drew]; omega) | (simp; done) | (simp; omega)))⟩
    · have hpos := hbn rfl
      clear hbn
      obtain ⟨g, c, hgv, hg, hO⟩ := own_head ho2 hpos
      cases hgv
      have hgr : g ≠ rb := by
        rcases HNE.out with h | h
        · simp [Value.ownBlock] at h
        · intro e; apply h; simp [Value.ownBlock, e]
      have hcaps := hO.caps
      go_wp2_with fail
      go_region_with (first
        | (go_at_call 90; have _t := tok1; refine (pick_any rb q _ _ hr2.drew (by omega) (by omega)).mono ?_; rintro e w3 ⟨y, rfl, hy0, hy1, hr3, hgb3⟩; clear tok1; have hy : y < n := (by omega); have hz3 := hgb3.size; simp only [World.size_drew] at hz3; have hbel3 : Below w.heap.size w w3 := below_gb hgb3 (by first | omega | (simp; omega)) hrb (by (repeat' (first | (with_reducible exact Below.refl _ _) | (with_reducible assumption) | (with_reducible refine Below.drew ?_) | (with_reducible refine below_drewN ?_ _) | (with_reducible refine Below.alloc ?_ ?_ _) | (with_reducible refine Below.setCell ?_ ?_ _) | (refine Below.trans ?_ (Below.mono (by assumption) (by first | omega | (with_reducible exact Below.size (by assumption)) | (simp; done) | (simp; omega)))) | (with_reducible exact Nat.le_refl _) | omega | (with_reducible exact Below.size (by assumption)) | (simp only [World.size_alloc, World.size_setCell, World.size_drew]; omega) | (simp; done) | (simp; omega)))); have hO3 := Own.gb hgb3 hgr (Own.drew hO); obtain ⟨x, hx⟩ : ∃ x, ps[y.toNat]? = some x := ⟨_, List.getElem?_eq_getElem (by rw [HN.out]; omega)⟩; have hxs := HSM.out x (List.mem_of_getElem? hx); have hcell3 := (hO3.cell y.toNat (by omega)).trans (strs_at ps _ x hx); have HXX := Lib.hid hx; clear hx hgb3 hy1)
        | (go_at_call 89; have _t := tok2; refine (l20Digits_any rb (q + 1) _ _ hr3 (by omega) (by omega) (by omega)).mono ?_; rintro e w4 ⟨s4, q4, rfl, hs4, -, hq4a, hq4b, hr4, hgb4⟩; clear tok2; have hz4 := hgb4.size; have hbel4 : Below w.heap.size w w4 := below_gb hgb4 (by omega) hrb hbel3; have hO4 := Own.gb hgb4 hgr hO3; have hcell4 := (hO4.cell y.toNat (by omega)).trans (strs_at ps _ x HXX.out); clear hgb4))
      all_goals
        have hsx : (x ++ s4).size ≤ 100 := by rw [ByteArray.size_append]; omega
        clear hr2 hr3 hr4 hcell3 hcell4 ho2 hO3
        go_wp2
        go_returns
        exact ⟨_, ps, x ++ s4, rfl, by rw [HN.out]; exact hO4.back hg, by rw [HN.out]; exact hl, HSM.out, hsx, hbel4⟩

set_option maxRecDepth 100000 in
set_option maxHeartbeats 2000000 in
theorem DrawDialAll_any (a : Option Addr) (len cap : Nat) (zs : List Int) (w : World) (h : Code w a len cap zs) :
    Calls Try.prog 65 #[.slice a len cap] w (PlanTxt w) := by
  go_enter Try.func65, Try.ntmps65
  go_wp2_with fail
  refine (open_any _ _ _ _ _ h).mono ?_
  rintro e w1 ⟨rb, rfl, hrb, hr, hb⟩
  have hz1 := hb.size
  go_wp2_with fail
  refine (l20Numbers_any rb 0 _ _ hr (by omega) (by omega)).mono ?_
  rintro e w2 ⟨v, ps, q2, rfl, ho, hl, hsm, -, hq2, hr2, hg2⟩
  have hbel2 : Below w.heap.size w w2 := below_gb hg2 hz1 hrb hb
  have hz2 := hbel2.size
  have hrlt := hr.lt
  have NE : v.ownBlock = none ∨ v.ownBlock ≠ some rb := by
    cases hv : v.ownBlock with
    | none => exact .inl rfl
    | some k => exact .inr (by have := own_ge ho k hv; simp; omega)
  have HSM := Lib.hid hsm
  obtain ⟨n, hn⟩ : ∃ n, ps.length = n := ⟨_, rfl⟩
  have HN := Lib.hid hn
  rw [hn] at ho hl
  have ho2 := owns_base hz1 ho
  obtain ⟨va, vc, rfl, _, _, _, _⟩ := (Rds.ofOwns ho).open1
  have HNE := Lib.hid NE
  clear hr hb hg2 hsm hn ho NE
  go_wp2_with fail
  refine (pick_any rb q2 _ _ hr2 (by omega) (by omega)).mono ?_
  rintro e w3 ⟨x, rfl, hx0, hx1, hr3, hgb3⟩
  have hx : x ≤ 5 := by omega
  have ho3 := own_kept hgb3 ho2 rfl HNE.out
  have hbel3 : Below w.heap.size w w3 := below_gb hgb3 hz2 hrb hbel2
  clear hx1 hgb3 ho2 hr2
  go_wp2_with fail
  go_loopw [6, 7] (fun sv kv wr => ∃ (j q : Nat) (s : ByteArray), sv = .string s ∧ kv = .int .i64 j ∧ j ≤ 5 ∧ s.size + 8 * j ≤ 40 ∧ q + j ≤ q2 + 1 + 5 ∧ q2 ≤ q ∧ wr.ownsRow w.heap.size 9 1 (.slice va n vc) n (strs ps) ∧ Rdr wr rb q ∧ Below w.heap.size w wr) (fun _ kv _ => (intOf kv).toNat)
  case atStart => exact ⟨x.toNat, q2 + 1, ⟨#[]⟩, rfl, by go_num, by omega, by have : (⟨#[]⟩ : ByteArray).size = 0 := rfl; omega, by omega, by omega, ho3, hr3, hbel3⟩
  case round =>
    clear ho3 hr3 hbel3
    obtain ⟨j, q, s, rfl, rfl, hj, hs, hqa, hqb, ho, hr, hbel⟩ := hrel
    have hz := hbel.size
    by_cases hgo : 0 < j ∧ 0 < n
    · obtain ⟨hj0, hn0⟩ := hgo
      obtain ⟨g, c, hgv, hg, hO⟩ := own_head ho hn0
      cases hgv
      have hgr : g ≠ rb := by
        rcases HNE.out with h | h
        · simp [Value.ownBlock] at h
        · intro e; apply h; simp [Value.ownBlock, e]
      go_wp2_with fail
      refine (pick_any rb q _ _ hr (by omega) (by omega)).mono ?_
      rintro e w4 ⟨y, rfl, hy0, hy1, hr4, hgb4⟩
      have hy : y < n := by omega
      have hO4 := Own.gb hgb4 hgr hO
      obtain ⟨z, hzz⟩ : ∃ z, ps[y.toNat]? = some z := ⟨_, List.getElem?_eq_getElem (by rw [HN.out]; omega)⟩
      have hzs := HSM.out z (List.mem_of_getElem? hzz)
      have hcell4 := (hO4.cell y.toNat (by omega)).trans (strs_at ps _ z hzz)
      have hbel4 : Below w.heap.size w w4 := below_gb hgb4 hz hrb hbel
      have hcaps := hO4.caps
      clear hzz hgb4 hy1 ho hO hr
      go_wp2_with fail
      go_roundw
      case rel => exact ⟨j - 1, q + 1, s ++ z, rfl, by go_num, by omega, by rw [ByteArray.size_append]; omega, by omega, by omega, hO4.back hg, hr4, hbel4⟩
      case measure => simp [intOf]; omega
    · have hstop : j = 0 ∨ (n = 0 ∧ 0 < j) := by omega
      have fin : ∀ (s2 : ByteArray) (w' : World), s2.size ≤ 100 → w'.ownsRow w.heap.size 9 1 (.slice va n vc) n (strs ps) → Below w.heap.size w w' → PlanTxt w (.returned (.tuple #[.slice va n vc, .string s2])) w' := fun s2 w' h1 h2 h3 => ⟨_, ps, s2, rfl, by rw [HN.out]; exact h2, by rw [HN.out]; exact hl, HSM.out, h1, h3⟩
      have FIN := Lib.hid fin
      clear fin hgo
      have hrlt2 := hr.lt
      rcases hstop with rfl | ⟨rfl, hjpos⟩
      all_goals
        go_wp2_with fail
        refine (pick_any rb q _ _ hr (by omega) (by omega)).mono ?_
        rintro e w4 ⟨y, rfl, hy0, hy1, hr4, hgb4⟩
        have ho4 := own_kept hgb4 ho rfl HNE.out
        have hbel4 : Below w.heap.size w w4 := below_gb hgb4 hz hrb hbel
        have hz4 := hbel4.size
        clear hgb4 hy1 ho hr
        by_cases hyz : y = 0
        · subst hyz
          go_wp2_with fail
          refine (l20Digits_any rb (q + 1) _ _ hr4 (by omega) (by omega) (by omega)).mono ?_
          rintro e w5 ⟨s5, q5, rfl, hs5, -, hq5a, hq5b, hr5, hgb5⟩
          have ho5 := own_kept hgb5 ho4 rfl HNE.out
          have hbel5 : Below w.heap.size w w5 := below_gb hgb5 hz4 hrb hbel4
          have HO5 := Lib.hid ho5
          clear hgb5 ho4 hr4 ho5
          go_wp2
          go_returns
          exact FIN.out _ _ (by rw [ByteArray.size_append]; omega) HO5.out hbel5
        · have hyb : (y == 0) = false := by simpa using hyz
          have HO4 := Lib.hid ho4
          clear hyz ho4 hr4
          go_wp2
          go_returns
          exact FIN.out _ _ (by omega) HO4.out hbel4

end Go.Proofs.Ytcacedcbboidoaa
