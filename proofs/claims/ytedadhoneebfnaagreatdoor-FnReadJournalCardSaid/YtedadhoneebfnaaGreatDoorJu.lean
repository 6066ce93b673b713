/- Contract of the program's JournalText. -/
import Derived.Test.YtedadhoneebfnaaGreatDoorJ2
import Derived.Test.YtedadhoneebfnaaGreatDoorBu
import Derived.Test.YtedadhoneebfnaaGreatDoorSb
set_option linter.unusedSimpArgs false
set_option linter.unusedVariables false
namespace Go.Proofs.YtedadhoneebfnaaGreatDoor
open Go.RowKit

theorem isB_below {T e : TypeId} {B b : Nat} {bs : List Value} {w w' : World} (hb : Below w.heap.size w w') (h : Lib.IsBuilder T e B b bs w) : Lib.IsBuilder T e B b bs w' := by
 have one : ∀ p, Lib.BuilderAt T e B b p bs w → Lib.BuilderAt T e B b p bs w' := by
  rintro p ⟨hB, v, hbk, hown, hne⟩
  have hlt : b < w.heap.size := by
   rcases Nat.lt_or_ge b w.heap.size with h' | h'
   ·
    exact h'
   ·
    simp [Array.getElem?_eq_none h'] at hbk
  exact ⟨hB, v, by rw [hb.block b hlt]; exact hbk, owns_below hb hown, hne⟩
 rcases h with h | h
 ·
  exact .inl (one _ h)
 ·
  exact .inr (one _ h)
theorem jcat_cells (zs : List Ded) (d : Ded) : Lib.byteCells (jcat (zs ++ [d])).data.toList = (Lib.byteCells (jcat zs).data.toList ++ Lib.strCells (dt d)) ++ [.int .u8 10] := by
 rw [jcat_snoc, Lib.strCells_eq]
 have : ((jcat zs ++ dt d ++ (⟨#[10]⟩ : ByteArray)).data.toList) = ((jcat zs).data.toList ++ (dt d).data.toList) ++ [10] := by simp [ByteArray.data_append]
 rw [this, Lib.byteCells_append, Lib.byteCells_append]
 rfl

set_option maxRecDepth 100000 in
set_option maxHeartbeats 2000000 in
theorem iJournalText_any (v : Value) (zs : List Ded) (w : World) (hv : Rds w v zs.length 3 (dcells zs)) (hl : zs.length ≤ 1048576) (hs : ∀ d ∈ zs, d.2.2.size ≤ maxLen) :
  Calls Tryz.prog 29 #[v] w fun e w' => e = .returned (.string (jtxt zs)) ∧ Below w.heap.size w w' := by
 obtain ⟨hl1, hm1, a, ca, rfl, hn1, hc1⟩ := hv
 unfold maxLen at hm1
 obtain ⟨n, hn⟩ : ∃ n, zs.length = n := ⟨_, rfl⟩
 rw [hn] at hm1 hn1 hc1 hl ⊢
 have HN := Lib.hid hn
 have HS := Lib.hid hs
 clear hn hl1 hs
 go_enter Tryz.func29, Tryz.ntmps29
 go_wp2_with fail
 go_loopw [9] (fun i wr => ∃ k : Nat, k ≤ n ∧ i = .int .i64 k ∧ Lib.IsBuilder 98 5 w.heap.size w.heap.size (Lib.byteCells (jcat (zs.take k)).data.toList) wr ∧ Hid (jok (zs.take k) = true) ∧ Below w.heap.size w wr) (fun i _ => n - (intOf i).toNat)
 case atStart => exact ⟨0, by omega, rfl, Lib.fresh_isBuilder _ _ _, rfl, by (exact grownA)⟩
 case round =>
  obtain ⟨k, hk, rfl, hI, hok, hbel⟩ := hrel
  have hzr := hbel.size
  by_cases hkn : k < n
  ·
   rcases hc1 with hc1 | ⟨b1, o1, rfl, hb1, hc1⟩
   ·
    omega
   obtain ⟨z, hz⟩ : ∃ z, zs[k]? = some z := ⟨_, List.getElem?_eq_getElem (by rw [HN.out]; omega)⟩
   obtain ⟨g1, g2, g3⟩ := dcells_at zs k z hz
   have c1 : wr.cell? ⟨b1, o1 + k * 3, none⟩ = some (.int .i64 z.1) := by rw [hbel.cell (p := ⟨b1, o1 + k * 3, none⟩) hb1, hc1 _ (by omega), g1]
   have c2 : wr.cell? ⟨b1, o1 + k * 3 + 1, none⟩ = some (.int .i64 z.2.1) := by rw [Nat.add_assoc, hbel.cell (p := ⟨b1, o1 + (k * 3 + 1), none⟩) hb1, hc1 _ (by omega), g2]
   have c3 : wr.cell? ⟨b1, o1 + k * 3 + 2, none⟩ = some (.string z.2.2) := by rw [Nat.add_assoc, hbel.cell (p := ⟨b1, o1 + (k * 3 + 2), none⟩) hb1, hc1 _ (by omega), g3]
   have hzs := HS.out z (List.mem_of_getElem? hz)
   have HZ := Lib.hid hz
   have hjs : (jcat (zs.take k)).size ≤ 14 * k := by have := jcat_size (zs.take k); rw [List.length_take] at this; omega
   clear hz hc1 g1 g2 g3
   go_wp2_with fail
   refine (iDeedText_any z.1 z.2.1 z.2.2 _ hzs).mono ?_
   rintro e w1 ⟨rfl, hb⟩
   have hbr : Below wr.heap.size wr w1 := by (exact grownA)
   have hbel1 : Below w.heap.size w w1 := hbel.trans (Below.mono hbr hbel.size)
   have hI1 := isB_below hbr hI
   obtain ⟨T, hT⟩ : ∃ T, dt z = T := ⟨_, rfl⟩
   rw [show dtxt z.1 z.2.1 z.2.2 = T from hT]
   clear hb hbr hI c1 c2 c3 hzr
   have hz1 := hbel1.size
   by_cases h0 : T.size = 0
   ·
    have HNO := Lib.hid (jok_no HZ.out (by rw [hT]; exact h0))
    have HT := Lib.hid hT
    obtain rfl : T = ⟨#[]⟩ := empty_of h0
    clear h0 hT
    go_wp2
    go_returns
    exact ⟨by unfold jtxt; rw [HNO.out]; rfl, hbel1⟩
   ·
    obtain ⟨q1, q2⟩ := some_of h0
    have HT := Lib.hid hT
    have H0 := Lib.hid h0
    have hts : T.size ≤ 13 := by rw [← hT]; exact dt_size z
    clear h0 hT
    have hbl : (Lib.byteCells (jcat (zs.take k)).data.toList).length ≤ 14 * k := by rw [Lib.byteCells_length]; simpa using hjs
    have HBL := Lib.hid hbl
    clear hbl
    go_wp2_with fail
    refine (writeString_any w.heap.size w.heap.size _ T w1 hI1 (by have := HBL.out; omega) hz1).mono ?_
    rintro e w2 ⟨rfl, hI2, hb2⟩
    have hbel2 : Below w.heap.size w w2 := hbel1.trans hb2
    have hz2 := hbel2.size
    clear hI1 hb2
    go_wp2_with fail
    refine (writeByte_any w.heap.size w.heap.size _ 10 w2 (.inr hI2) (by rw [List.length_append, Lib.strCells_length]; have := HBL.out; omega) hz2).mono ?_
    rintro e w3 ⟨rfl, hI3, hb3⟩
    have hbel3 : Below w.heap.size w w3 := hbel2.trans hb3
    clear hI2 hb3
    go_wp2_with fail
    go_roundw
    case rel => exact ⟨k + 1, by omega, by go_num, by rw [take_snoc HZ.out, jcat_cells, HT.out]; exact .inr hI3, by unfold Hid; rw [take_snoc HZ.out, jok_snoc, hok.out, HT.out]; simp [H0.out], by (exact grownA)⟩
    case measure => simp [intOf]; omega
  ·
   obtain rfl : k = n := by omega
   have HA : Hid (zs.take k = zs) := List.take_of_length_le (by rw [HN.out]; omega)
   rw [HA.out] at hok hI
   go_wp2_with fail
   refine (Tryz.Builder_String_any w.heap.size w.heap.size _ wr hI hbel.size).mono ?_
   rintro e w2 ⟨rfl, hb2⟩
   have hbel2 : Below w.heap.size w w2 := hbel.trans hb2
   go_wp2
   go_returns
   exact ⟨by unfold jtxt; rw [hok.out]; simp, hbel2⟩

end Go.Proofs.YtedadhoneebfnaaGreatDoor
