/- The walk of the law of RoutesValid. -/
import Derived.Test.YtcacedcbboidoaaDrTab
import Derived.Test.YtcacedcbboidoaaAlive
import Derived.Test.YtcacedcbboidoaaStep
import Derived.Deep.RegionHeld3
set_option linter.unusedSimpArgs false
set_option linter.unusedVariables false
namespace Go.Proofs.Ytcacedcbboidoaa
open Go.RowKit

theorem RtLen.drop {rs : List Rt} (h : RtLen rs) (m : Nat) : RtLen (rs.drop m) := fun k r hr => h (m + k) r (by rw [List.getElem?_drop] at hr; exact hr)
theorem rcells_drop (rs : List Rt) : ∀ m, rcells (rs.drop m) = (rcells rs).drop (m * 2) := by
  induction rs with
  | nil => intro m; simp [rcells]
  | cons r rs ih =>
    intro m
    cases m with
    | zero => simp
    | succ m =>
      rw [show (m + 1) * 2 = m * 2 + 2 by omega]
      simpa [rcells, List.flatMap_cons] using ih m
theorem routesB_nil : routesB [] = true := (routesB_iff []).2 ⟨by simp, RtOk.zero []⟩
theorem routesB_tail {rs : List Rt} (h : routesB rs = true) : routesB (rs.drop 1) = true := by
  rw [routesB_iff] at h ⊢
  cases rs with
  | nil => exact h
  | cons r rs =>
    refine ⟨by have := h.1; simp at this ⊢; omega, fun j s hj hs => ?_, fun i j s t hij hj hs ht => ?_⟩
    · exact h.at (j + 1) s (by simpa using hs)
    · exact h.2.2 (i + 1) (j + 1) s t (by omega) (by simp at hj ⊢; omega) (by simpa using hs) (by simpa using ht)
theorem routesB_twice {rs : List Rt} {r : Rt} (hr : rs[0]? = some r) : routesB (rs ++ [r]) = false := by
  have hl : 0 < rs.length := (List.getElem?_eq_some_iff.1 hr).1
  exact not_ok_pair (i := 0) (j := rs.length) hl (by rw [List.getElem?_append_left hl]; exact hr) (by simp) rfl

set_option maxRecDepth 100000 in
set_option maxHeartbeats 2000000 in
theorem wRoutesValid (a : Option Addr) (len cap : Nat) (cs : List Int) (w : World) (h0 : IsRow .u8 w a len cap cs) :
    Calls Try.prog 4 #[.slice a len cap] w fun e w' => e = .returned (.bool true) ∧ Below w.heap.size w w' := by
  have h := h0.code
  have hm := h.bd
  obtain ⟨i0, hi, hz0, hz1, hz2⟩ := info_parts infoR
  by_cases hbig : len > 1048576
  · go_enter Try.func4, Try.ntmps4
    go_wp2
    go_returns
    exact ⟨rfl, Below.refl _ _⟩
  · go_enter Try.func4, Try.ntmps4
    go_wp2_with fail
    refine (DrawRoutesValid_any _ _ _ _ _ h).mono ?_
    rintro e w1 ⟨g, n, c, rs, rfl, hn, hg, hO, hl, hsm, hb1⟩
    rw [← hn] at hl
    have hr1 : Rds w1 (.slice (some ⟨g, 0, none⟩) n c) rs.length 2 (rcells rs) := by rw [← hn]; exact Rds.ofOwn hO
    have HR := Lib.hid hr1
    have HN := Lib.hid hn
    have HSM := Lib.hid hsm
    clear hr1 hn hsm
    go_wp2_with fail
    refine (iRoutesValid_any _ rs _ HR.out HSM.out.len).mono ?_
    rintro e w2 ⟨rfl, hb2⟩
    have HR2 := Lib.hid (HR.out.below hb2)
    have hO2 := hO.below hb2 hO.lt
    go_wp2_with fail
    refine (sRoutesValid_any _ rs _ HR2.out HSM.out.len).mono ?_
    rintro e w3 ⟨rfl, q3, rfl⟩
    obtain ⟨o, ho⟩ : ∃ o, routesB rs = o := ⟨_, rfl⟩
    have HO := Lib.hid ho
    rw [ho]
    have hbel2 : Below w.heap.size w (w2.drewN q3) := by (repeat' (first | (with_reducible exact Below.refl _ _) | (with_reducible assumption) | (with_reducible refine Below.drew ?_) | (with_reducible refine below_drewN ?_ _) | (with_reducible refine Below.alloc ?_ ?_ _) | (with_reducible refine Below.setCell ?_ ?_ _) | (refine Below.trans ?_ (Below.mono (by assumption) (by first | omega | (with_reducible exact Below.size (by assumption)) | (simp; done) | (simp; omega)))) | (with_reducible exact Nat.le_refl _) | omega | (with_reducible exact Below.size (by assumption)) | (simp only [World.size_alloc, World.size_setCell, World.size_drew]; omega) | (simp; done) | (simp; omega)))
    have hO3 : Own (w2.drewN q3) g n c 32 2 (rcells rs) := hO2.drewN
    have hgw : g < (w2.drewN q3).heap.size := hO3.lt
    clear ho hO hO2 hb1 hb2
    have hcaps := hO3.caps
    have hz2' := hbel2.size
    generalize w2.drewN q3 = w4 at *
    clear HR HR2
    cases o
    · have hne : (false != false) = false := rfl
      go_wp2_with fail
      refine (iRoutesValid_any _ [] _ ⟨rfl, by simp, _, _, rfl, Nat.le_refl _, .inl rfl⟩ (fun k r h => by simp at h)).mono ?_
      rintro e w5 ⟨rfl, hb5⟩
      rw [routesB_nil]
      go_wp2_with fail
      refine (alive_any _).mono ?_
      rintro e w6 ⟨rfl, hb6⟩
      have hbel5 : Below w.heap.size w w5 := by (repeat' (first | (with_reducible exact Below.refl _ _) | (with_reducible assumption) | (with_reducible refine Below.drew ?_) | (with_reducible refine below_drewN ?_ _) | (with_reducible refine Below.alloc ?_ ?_ _) | (with_reducible refine Below.setCell ?_ ?_ _) | (refine Below.trans ?_ (Below.mono (by assumption) (by first | omega | (with_reducible exact Below.size (by assumption)) | (simp; done) | (simp; omega)))) | (with_reducible exact Nat.le_refl _) | omega | (with_reducible exact Below.size (by assumption)) | (simp only [World.size_alloc, World.size_setCell, World.size_drew]; omega) | (simp; done) | (simp; omega)))
      go_wp2
      go_returns
      exact ⟨rfl, by (repeat' (first | (with_reducible exact Below.refl _ _) | (with_reducible assumption) | (with_reducible refine Below.drew ?_) | (with_reducible refine below_drewN ?_ _) | (with_reducible refine Below.alloc ?_ ?_ _) | (with_reducible refine Below.setCell ?_ ?_ _) | (refine Below.trans ?_ (Below.mono (by assumption) (by first | omega | (with_reducible exact Below.size (by assumption)) | (simp; done) | (simp; omega)))) | (with_reducible exact Nat.le_refl _) | omega | (with_reducible exact Below.size (by assumption)) | (simp only [World.size_alloc, World.size_setCell, World.size_drew]; omega) | (simp; done) | (simp; omega)))⟩
    · by_cases hn0 : n = 0
      · subst hn0
        go_wp2_with fail
        refine (iRoutesValid_any _ [] _ ⟨rfl, by simp, _, _, rfl, Nat.le_refl _, .inl rfl⟩ (fun k r h => by simp at h)).mono ?_
        rintro e w5 ⟨rfl, hb5⟩
        rw [routesB_nil]
        go_wp2_with fail
        refine (alive_any _).mono ?_
        rintro e w6 ⟨rfl, hb6⟩
        have hbel5 : Below w.heap.size w w5 := by (repeat' (first | (with_reducible exact Below.refl _ _) | (with_reducible assumption) | (with_reducible refine Below.drew ?_) | (with_reducible refine below_drewN ?_ _) | (with_reducible refine Below.alloc ?_ ?_ _) | (with_reducible refine Below.setCell ?_ ?_ _) | (refine Below.trans ?_ (Below.mono (by assumption) (by first | omega | (with_reducible exact Below.size (by assumption)) | (simp; done) | (simp; omega)))) | (with_reducible exact Nat.le_refl _) | omega | (with_reducible exact Below.size (by assumption)) | (simp only [World.size_alloc, World.size_setCell, World.size_drew]; omega) | (simp; done) | (simp; omega)))
        go_wp2
        go_returns
        exact ⟨rfl, by (repeat' (first | (with_reducible exact Below.refl _ _) | (with_reducible assumption) | (with_reducible refine Below.drew ?_) | (with_reducible refine below_drewN ?_ _) | (with_reducible refine Below.alloc ?_ ?_ _) | (with_reducible refine Below.setCell ?_ ?_ _) | (refine Below.trans ?_ (Below.mono (by assumption) (by first | omega | (with_reducible exact Below.size (by assumption)) | (simp; done) | (simp; omega)))) | (with_reducible exact Nat.le_refl _) | omega | (with_reducible exact Below.size (by assumption)) | (simp only [World.size_alloc, World.size_setCell, World.size_drew]; omega) | (simp; done) | (simp; omega)))⟩
      · have hne0 : ((n : Int) == 0) = false := by simp; omega
        have hn1 : (1 : Int) ≤ (n : Int) := by omega
        have hn2 : (n : Int) ≤ (c : Int) := by omega
        have hn3 : (0 : Int) < (n : Int) := by omega
        have hn4 : 0 < n := by omega
        clear hn0
        obtain ⟨r, hr⟩ : ∃ r, rs[0]? = some r := ⟨_, List.getElem?_eq_getElem (by rw [← HN.out]; omega)⟩
        obtain ⟨g1, g2⟩ := rcells_at rs 0 r hr
        have c1 : w4.cell? ⟨g, 0, none⟩ = some (.string r.1) := by rw [hO3.cell 0 (by omega)]; exact g1
        have c2 : w4.cell? ⟨g, 1, none⟩ = some (.int .i64 r.2) := by rw [hO3.cell 1 (by omega)]; exact g2
        have HB1 := Lib.hid (routesB_tail HO.out)
        have HB2 := Lib.hid (routesB_twice hr)
        have HRM := Lib.hid (List.mem_of_getElem? hr)
        clear g1 g2 hr
        go_wp2_with fail
        have hR1 : Rds w4.drew (.slice (if c = 1 then some ⟨g, 0, none⟩ else some ⟨g, 2, none⟩) (n - 1) (c - 1)) (rs.drop 1).length 2 (rcells (rs.drop 1)) := by
          have := (Rds.ofOwn hO3).drop (m := 1) (cap' := c - 1) (a' := if c = 1 then some ⟨g, 0, none⟩ else some ⟨g, 2, none⟩) (by omega) (by omega) (by intro _; rw [if_neg (by omega)])
          rw [List.length_drop, ← HN.out]
          rw [show rcells (rs.drop 1) = (rcells rs).drop (1 * 2) from rcells_drop rs 1]
          exact this.drewN 1
        obtain ⟨A, hA⟩ : ∃ A, (if c = 1 then some (⟨g, 0, none⟩ : Addr) else some ⟨g, 2, none⟩) = A := ⟨_, rfl⟩
        rw [hA] at hR1
        have HR1 := Lib.hid hR1
        clear hR1
        have tok1 : True := trivial
        have tok2 : True := trivial
        have tok3 : True := trivial
        go_region_held3 (fun w' => w'.cell? ⟨g, 0, none⟩ = some (.string r.1) ∧ w'.cell? ⟨g, 1, none⟩ = some (.int .i64 r.2))
          ((repeat' (first | (with_reducible assumption) | (with_reducible apply And.intro) | (with_reducible apply keep_drew) | (with_reducible apply keep_below (by assumption)) | (refine keep_gb hgrow7 (by first | (simp [Value.ownBlock]; done) | (simp [Value.ownBlock]; omega)) ?_) | (refine keep_gb hgrow6 (by first | (simp [Value.ownBlock]; done) | (simp [Value.ownBlock]; omega)) ?_) | (with_reducible apply keep_alloc))))
          (first
            | (go_at_call 25; have _t := tok1; refine (iRoutesValid_any _ (rs.drop 1) _ HR1.out (HSM.out.len.drop 1)).mono ?_; rintro e w5 ⟨rfl, hb5⟩; rw [HB1.out]; clear tok1; have hz5 := hb5.size; simp only [World.size_drew] at hz5; have HC5 : Hid (∀ j u, (rcells rs)[j]? = some u → w5.cell? ⟨g, j, none⟩ = some u) := (fun j u hu => (hb5.cell (p := ⟨g, j, none⟩) hgw).trans ((hO3.cell j (by have := (List.getElem?_eq_some_iff.1 hu).1; rw [rcells_len] at this; have := HN.out; omega)).trans hu)))
            | (have _t := tok2; refine step_append_held (by rfl) _ _ _ (by rfl) w5.heap.size 32 i0 _ 2 24 Try.underlying28 hi hz0 hz1 hz2 rfl (by omega) (.slice (some ⟨_, 0, none⟩) 0 0) 0 [] (by rfl) (by first | exact World.ownsRow_lit _ #[] 0 (by simp) (by unfold maxLen; omega) rfl | exact (World.ownsRow_lit _ #[] 0 (by simp) (by unfold maxLen; omega) rfl).alloc _ | (have h6 := World.ownsRow_lit (base := w5.heap.size) (e := 32) (size := 2) (w5.alloc (.cells #[.string r.1, .int .i64 r.2] 32)) #[] 0 (by simp) (by unfold maxLen; omega) rfl; rw [World.size_alloc] at h6; exact h6)) ⟨g, 0, none⟩ n _ (rcells rs) (by rfl) (by rw [rcells_len, HN.out]) (by intro j u hu; rw [Addr.add_spot, Nat.zero_add]; (repeat' (with_reducible apply keep_alloc)); exact HC5.out j u hu) (rcells_one rs) hn4 (by unfold maxLen; omega) (by omega) (by first | (simp; done) | (simp; omega)) _ (by rfl) ?_; intro g6 cap6 w6 hown6 hgrow6 hat6 hlt6; clear tok2; have hown6r := hown6; simp only [Nat.zero_add, List.nil_append] at hown6; have hg6 := (Own.of hown6).2)
            | (go_at_call 25; refine (iRoutesValid_any _ (rs ++ [r]) _ (by rw [List.length_append, ← HN.out]; exact Rds.ofOwns hown7) (HSM.out.snoc (HSM.out r HRM.out).1 (HSM.out r HRM.out).2.1 (HSM.out r HRM.out).2.2).len).mono ?_; rintro e w8 ⟨rfl, hb8⟩; rw [HB2.out])
            | (have _t := tok3; refine step_append_held (by rfl) _ _ _ (by rfl) w5.heap.size 32 i0 _ 2 24 Try.underlying28 hi hz0 hz1 hz2 rfl (by omega) (.slice (some ⟨g6, 0, none⟩) n cap6) n _ (by rfl) (by first | exact hown6 | exact hown6.alloc _) ⟨_, 0, none⟩ 1 _ [.string r.1, .int .i64 r.2] (by rfl) rfl (by intro j u hu; rw [Addr.add_spot, Nat.zero_add]; (repeat' (first | (refine keep_new (by first | rfl | (simp; done) | (simp; omega)) (by simpa using hu)) | (with_reducible apply keep_alloc) | (refine keep_gb hgrow6 (by first | (simp [Value.ownBlock]; done) | (simp [Value.ownBlock]; omega)) ?_)))) (by intro u hu; simp at hu; rcases hu with rfl | rfl <;> rfl) (by omega) (by unfold maxLen; omega) (by omega) (by have := hgrow6.size; simp at this; first | omega | (simp; omega)) _ (by rfl) ?_; intro g7 cap7 w7 hown7 hgrow7 hat7 hlt7; clear tok3; rw [show ([.string r.1, .int .i64 r.2] : List Value) = [.string r.1, .int .i64 r.2] from rfl, rcells_snoc] at hown7)
            | (have _t := tok3; refine step_append_held (by rfl) _ _ _ (by rfl) w5.heap.size 32 i0 _ 2 24 Try.underlying28 hi hz0 hz1 hz2 rfl (by omega) (.slice (some ⟨g6, 0, none⟩) (0 + n) cap6) (0 + n) _ (by rfl) hown6r ⟨_, 0, none⟩ 1 _ [.string r.1, .int .i64 r.2] (by rfl) rfl (by intro j u hu; rw [Addr.add_spot, Nat.zero_add]; (repeat' (first | (refine keep_new (by first | rfl | (simp; done) | (simp; omega)) (by simpa using hu)) | (with_reducible apply keep_alloc) | (refine keep_gb hgrow6 (by first | (simp [Value.ownBlock]; done) | (simp [Value.ownBlock]; omega)) ?_)))) (by intro u hu; simp at hu; rcases hu with rfl | rfl <;> rfl) (by omega) (by unfold maxLen; omega) (by omega) (by have := hgrow6.size; simp at this; first | omega | (simp; omega)) _ (by rfl) ?_; intro g7 cap7 w7 hown7 hgrow7 hat7 hlt7; clear tok3; simp only [Nat.zero_add, List.nil_append] at hown7; rw [show ([.string r.1, .int .i64 r.2] : List Value) = [.string r.1, .int .i64 r.2] from rfl, rcells_snoc] at hown7))
        all_goals
          have B5 : Below w.heap.size w w5 := by (repeat' (first | (with_reducible exact Below.refl _ _) | (with_reducible assumption) | (with_reducible refine Below.drew ?_) | (with_reducible refine below_drewN ?_ _) | (with_reducible refine Below.alloc ?_ ?_ _) | (with_reducible refine Below.setCell ?_ ?_ _) | (refine Below.trans ?_ (Below.mono (by assumption) (by first | omega | (with_reducible exact Below.size (by assumption)) | (simp; done) | (simp; omega)))) | (with_reducible exact Nat.le_refl _) | omega | (with_reducible exact Below.size (by assumption)) | (simp only [World.size_alloc, World.size_setCell, World.size_drew]; omega) | (simp; done) | (simp; omega)))
          have B6 : Below w.heap.size w w6 := by
            refine Below.grown ?_ hgrow6 ?_ ?_
            · (repeat' (first | (with_reducible exact Below.refl _ _) | (with_reducible assumption) | (with_reducible refine Below.drew ?_) | (with_reducible refine below_drewN ?_ _) | (with_reducible refine Below.alloc ?_ ?_ _) | (with_reducible refine Below.setCell ?_ ?_ _) | (refine Below.trans ?_ (Below.mono (by assumption) (by first | omega | (with_reducible exact Below.size (by assumption)) | (simp; done) | (simp; omega)))) | (with_reducible exact Nat.le_refl _) | omega | (with_reducible exact Below.size (by assumption)) | (simp only [World.size_alloc, World.size_setCell, World.size_drew]; omega) | (simp; done) | (simp; omega)))
            · first | omega | (simp; done) | (simp; omega)
            · intro k hk; simp [Value.ownBlock] at hk; omega
          have hz6 := B6.size
          have B7 : Below w.heap.size w w7 := by
            refine Below.grown ?_ hgrow7 ?_ ?_
            · (repeat' (first | (with_reducible exact Below.refl _ _) | (with_reducible assumption) | (with_reducible refine Below.drew ?_) | (with_reducible refine below_drewN ?_ _) | (with_reducible refine Below.alloc ?_ ?_ _) | (with_reducible refine Below.setCell ?_ ?_ _) | (refine Below.trans ?_ (Below.mono (by assumption) (by first | omega | (with_reducible exact Below.size (by assumption)) | (simp; done) | (simp; omega)))) | (with_reducible exact Nat.le_refl _) | omega | (with_reducible exact Below.size (by assumption)) | (simp only [World.size_alloc, World.size_setCell, World.size_drew]; omega) | (simp; done) | (simp; omega)))
            · first | omega | (simp; done) | (simp; omega)
            · intro k hk; simp [Value.ownBlock] at hk; omega
          have hz7 := B7.size
          have B8 : Below w.heap.size w w8 := by (repeat' (first | (with_reducible exact Below.refl _ _) | (with_reducible assumption) | (with_reducible refine Below.drew ?_) | (with_reducible refine below_drewN ?_ _) | (with_reducible refine Below.alloc ?_ ?_ _) | (with_reducible refine Below.setCell ?_ ?_ _) | (refine Below.trans ?_ (Below.mono (by assumption) (by first | omega | (with_reducible exact Below.size (by assumption)) | (simp; done) | (simp; omega)))) | (with_reducible exact Nat.le_refl _) | omega | (with_reducible exact Below.size (by assumption)) | (simp only [World.size_alloc, World.size_setCell, World.size_drew]; omega) | (simp; done) | (simp; omega)))
          clear B5 B6 B7 hb5 hb8 hgrow6 hgrow7 hown6 hown7
          go_wp2
          go_returns
          exact ⟨rfl, B8⟩

end Go.Proofs.Ytcacedcbboidoaa
