/- The text of a journal (plain), and the contract of the reference's JournalText. -/
import Derived.Test.YtedadhoneebfnaaDoorDz
set_option linter.unusedSimpArgs false
set_option linter.unusedVariables false
namespace Go.Proofs.YtedadhoneebfnaaDoor
open Go.RowKit

theorem dtxt_size (k l : Int) (s : ByteArray) : (dtxt k l s).size ≤ 13 := by
  have h2 := two_size l.toNat
  unfold dtxt
  split
  · show 0 ≤ 13; omega
  · split
    · split
      · rw [ByteArray.size_append]; show 5 + (two l.toNat).size ≤ 13; omega
      · show 0 ≤ 13; omega
    · split
      · show 0 ≤ 13; omega
      · rename_i hn
        have h3 : s.size ≤ 3 := by
          have : numD s = true := by simpa using hn
          simp [numD] at this
          omega
        split
        · simp only [ByteArray.size_append]; show 5 + (two l.toNat).size + 1 + s.size ≤ 13; omega
        · split
          · simp only [ByteArray.size_append]; show 7 + (two l.toNat).size + 1 + s.size ≤ 13; omega
          · show 0 ≤ 13; omega

/-- The text of one deed of a list. -/
def dt (d : Ded) : ByteArray := dtxt d.1 d.2.1 d.2.2
theorem dt_size (d : Ded) : (dt d).size ≤ 13 := dtxt_size _ _ _
/-- The lines joined. -/
def jcat (zs : List Ded) : ByteArray := zs.foldl (fun a d => a ++ dt d ++ ⟨#[10]⟩) ⟨#[]⟩
/-- Does each deed have a text? -/
def jok (zs : List Ded) : Bool := zs.all fun d => decide ((dt d).size ≠ 0)
def jtxt (zs : List Ded) : ByteArray := if jok zs then jcat zs else ⟨#[]⟩
theorem jcat_snoc (zs : List Ded) (d : Ded) : jcat (zs ++ [d]) = jcat zs ++ dt d ++ ⟨#[10]⟩ := by simp [jcat]
theorem jok_snoc (zs : List Ded) (d : Ded) : jok (zs ++ [d]) = (jok zs && decide ((dt d).size ≠ 0)) := by simp [jok]
theorem jcat_size (zs : List Ded) : (jcat zs).size ≤ 14 * zs.length := by
  have h : ∀ (zs : List Ded) (a : ByteArray), (zs.foldl (fun a d => a ++ dt d ++ ⟨#[10]⟩) a).size ≤ a.size + 14 * zs.length := by
    intro zs
    induction zs with
    | nil => intro a; simp
    | cons z zs ih =>
      intro a
      have h1 := ih (a ++ dt z ++ ⟨#[10]⟩)
      have h2 := dt_size z
      have h3 : (a ++ dt z ++ (⟨#[10]⟩ : ByteArray)).size = a.size + (dt z).size + 1 := by simp only [ByteArray.size_append]; rfl
      simp only [List.foldl_cons, List.length_cons]
      omega
  have := h zs ⟨#[]⟩
  have h0 : (⟨#[]⟩ : ByteArray).size = 0 := rfl
  unfold jcat
  omega
theorem take_snoc {zs : List Ded} {k : Nat} {d : Ded} (h : zs[k]? = some d) : zs.take (k + 1) = zs.take k ++ [d] := by
  rw [List.take_add_one, h]; rfl
theorem jok_no {zs : List Ded} {k : Nat} {d : Ded} (h : zs[k]? = some d) (h0 : (dt d).size = 0) : jok zs = false := by
  have hm : d ∈ zs := List.mem_of_getElem? h
  cases hb : jok zs with
  | false => rfl
  | true =>
    have := List.all_eq_true.1 hb d hm
    simp [h0] at this

set_option maxRecDepth 100000 in
set_option maxHeartbeats 2000000 in
theorem sJournalText_any (v : Value) (zs : List Ded) (w : World) (hv : Rds w v zs.length 3 (dcells zs)) (hl : zs.length ≤ 1048576) (hs : ∀ d ∈ zs, d.2.2.size ≤ maxLen) :
    Calls Tryd.prog 15 #[v] w fun e w' => e = .returned (.string (jtxt zs)) ∧ Below w.heap.size w w' := by
  obtain ⟨hl1, hm1, a, ca, rfl, hn1, hc1⟩ := hv
  unfold maxLen at hm1
  obtain ⟨n, hn⟩ : ∃ n, zs.length = n := ⟨_, rfl⟩
  rw [hn] at hm1 hn1 hc1 hl ⊢
  have HN := Lib.hid hn
  have HS := Lib.hid hs
  clear hn hl1 hs
  go_enter Tryd.func15, Tryd.ntmps15
  go_wp2_with fail
  go_loopw [3, 4] (fun t i wr => ∃ k : Nat, k ≤ n ∧ i = .int .i64 k ∧ t = .string (jcat (zs.take k)) ∧ Hid (jok (zs.take k) = true) ∧ Below w.heap.size w wr) (fun _ i _ => n - (intOf i).toNat)
  case atStart => exact ⟨0, by omega, rfl, rfl, rfl, Below.refl _ _⟩
  case round =>
    obtain ⟨k, hk, rfl, rfl, hok, hbel⟩ := hrel
    by_cases hkn : k < n
    · rcases hc1 with hc1 | ⟨b1, o1, rfl, hb1, hc1⟩
      · omega
      obtain ⟨z, hz⟩ : ∃ z, zs[k]? = some z := ⟨_, List.getElem?_eq_getElem (by rw [HN.out]; omega)⟩
      obtain ⟨g1, g2, g3⟩ := dcells_at zs k z hz
      have c1 : wr.cell? ⟨b1, o1 + k * 3, none⟩ = some (.int .i64 z.1) := by rw [hbel.cell (p := ⟨b1, o1 + k * 3, none⟩) hb1, hc1 _ (by omega), g1]
      have c2 : wr.cell? ⟨b1, o1 + k * 3 + 1, none⟩ = some (.int .i64 z.2.1) := by rw [Nat.add_assoc, hbel.cell (p := ⟨b1, o1 + (k * 3 + 1), none⟩) hb1, hc1 _ (by omega), g2]
      have c3 : wr.cell? ⟨b1, o1 + k * 3 + 2, none⟩ = some (.string z.2.2) := by rw [Nat.add_assoc, hbel.cell (p := ⟨b1, o1 + (k * 3 + 2), none⟩) hb1, hc1 _ (by omega), g3]
      have hzs := HS.out z (List.mem_of_getElem? hz)
      have HZ := Lib.hid hz
      have HC : Hid (∀ W : World, Below w.heap.size w W → W.cell? ⟨b1, o1 + k * 3, none⟩ = some (.int .i64 z.1) ∧ W.cell? ⟨b1, o1 + k * 3 + 1, none⟩ = some (.int .i64 z.2.1) ∧ W.cell? ⟨b1, o1 + k * 3 + 2, none⟩ = some (.string z.2.2)) := fun W hW => ⟨by rw [hW.cell (p := ⟨b1, o1 + k * 3, none⟩) hb1, hc1 _ (by omega), g1], by rw [Nat.add_assoc, hW.cell (p := ⟨b1, o1 + (k * 3 + 1), none⟩) hb1, hc1 _ (by omega), g2], by rw [Nat.add_assoc, hW.cell (p := ⟨b1, o1 + (k * 3 + 2), none⟩) hb1, hc1 _ (by omega), g3]⟩
      have hjs : (jcat (zs.take k)).size ≤ 14 * k := by have := jcat_size (zs.take k); rw [List.length_take] at this; omega
      clear hz hc1 g1 g2 g3
      go_wp2_with fail
      refine (sDeedText_any z.1 z.2.1 z.2.2 _ hzs).mono ?_
      rintro e w1 ⟨rfl, hb⟩
      have hbel1 : Below w.heap.size w w1 := by (repeat' (first | (with_reducible exact Below.refl _ _) | (with_reducible assumption) | (with_reducible refine Below.drew ?_) | (with_reducible refine below_drewN ?_ _) | (with_reducible refine Below.alloc ?_ ?_ _) | (with_reducible refine Below.setCell ?_ ?_ _) | (refine Below.trans ?_ (Below.mono (by assumption) (by first | omega | (with_reducible exact Below.size (by assumption)) | (simp; done) | (simp; omega)))) | (with_reducible exact Nat.le_refl _) | omega | (with_reducible exact Below.size (by assumption)) | (simp only [World.size_alloc, World.size_setCell, World.size_drew]; omega) | (simp; done) | (simp; omega)))
      obtain ⟨c1, c2, c3⟩ := HC.out w1 hbel1
      obtain ⟨T, hT⟩ : ∃ T, dt z = T := ⟨_, rfl⟩
      rw [show dtxt z.1 z.2.1 z.2.2 = T from hT]
      by_cases h0 : T.size = 0
      · have HNO := Lib.hid (jok_no HZ.out (by rw [hT]; exact h0))
        have HT := Lib.hid hT
        obtain rfl : T = ⟨#[]⟩ := empty_of h0
        clear h0 hT
        go_wp2
        go_returns
        exact ⟨by unfold jtxt; rw [HNO.out]; rfl, hbel1⟩
      · obtain ⟨q1, q2⟩ := some_of h0
        have HT := Lib.hid hT
        have H0 := Lib.hid h0
        have hts : T.size ≤ 13 := by rw [← hT]; exact dt_size z
        clear h0 hT hb hbel c1 c2 c3
        obtain ⟨c1, c2, c3⟩ := HC.out w1 hbel1
        go_wp2_with fail
        refine (sDeedText_any z.1 z.2.1 z.2.2 _ hzs).mono ?_
        rintro e w2 ⟨rfl, hb⟩
        have hbel2 : Below w.heap.size w w2 := by (repeat' (first | (with_reducible exact Below.refl _ _) | (with_reducible assumption) | (with_reducible refine Below.drew ?_) | (with_reducible refine below_drewN ?_ _) | (with_reducible refine Below.alloc ?_ ?_ _) | (with_reducible refine Below.setCell ?_ ?_ _) | (refine Below.trans ?_ (Below.mono (by assumption) (by first | omega | (with_reducible exact Below.size (by assumption)) | (simp; done) | (simp; omega)))) | (with_reducible exact Nat.le_refl _) | omega | (with_reducible exact Below.size (by assumption)) | (simp only [World.size_alloc, World.size_setCell, World.size_drew]; omega) | (simp; done) | (simp; omega)))
        rw [show dtxt z.1 z.2.1 z.2.2 = T from HT.out]
        go_wp2_with fail
        go_roundw
        case rel => exact ⟨k + 1, by omega, by go_num, by rw [take_snoc HZ.out, jcat_snoc, HT.out], by unfold Hid; rw [take_snoc HZ.out, jok_snoc, hok.out, HT.out]; simp [H0.out], by (repeat' (first | (with_reducible exact Below.refl _ _) | (with_reducible assumption) | (with_reducible refine Below.drew ?_) | (with_reducible refine below_drewN ?_ _) | (with_reducible refine Below.alloc ?_ ?_ _) | (with_reducible refine Below.setCell ?_ ?_ _) | (refine Below.trans ?_ (Below.mono (by assumption) (by first | omega | (with_reducible exact Below.size (by assumption)) | (simp; done) | (simp; omega)))) | (with_reducible exact Nat.le_refl _) | omega | (with_reducible exact Below.size (by assumption)) | (simp only [World.size_alloc, World.size_setCell, World.size_drew]; omega) | (simp; done) | (simp; omega)))⟩
        case measure => simp [intOf]; omega
    · obtain rfl : k = n := by omega
      have HA : Hid (zs.take k = zs) := List.take_of_length_le (by rw [HN.out]; omega)
      rw [HA.out] at hok ⊢
      go_wp2
      go_returns
      exact ⟨by unfold jtxt; rw [hok.out]; rfl, hbel⟩

end Go.Proofs.YtedadhoneebfnaaDoor
