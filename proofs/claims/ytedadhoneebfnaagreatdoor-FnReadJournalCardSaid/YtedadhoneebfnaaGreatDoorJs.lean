/- Contract of ReadJournal (reference). -/
import Derived.Test.YtedadhoneebfnaaGreatDoorJi
import Derived.Test.YtedadhoneebfnaaGreatDoorRz
set_option linter.unusedSimpArgs false
set_option linter.unusedVariables false
namespace Go.Proofs.YtedadhoneebfnaaGreatDoor
open Go.RowKit

/-- Where the loop over the bytes stands: f bytes are read, and behind them there is no newline up to k. -/
structure JsAt (l : List UInt8) (k f : Nat) (ds : List Ded) : Prop where
 at' : JAt l f ds
 le : f ≤ k
 no : (10 : UInt8) ∉ (l.take k).drop f
theorem take_drop_snoc {l : List UInt8} {k f : Nat} {x : UInt8} (hx : l[k]? = some x) (hf : f ≤ k) : (l.take (k + 1)).drop f = (l.take k).drop f ++ [x] := by
 obtain ⟨hk, rfl⟩ := List.getElem?_eq_some_iff.1 hx
 rw [List.take_succ_eq_append_getElem hk, List.drop_append_of_le_length (by simp; omega)]
theorem drop_at {l : List UInt8} {k f : Nat} {x : UInt8} (hx : l[k]? = some x) (hf : f ≤ k) : l.drop f = (l.take k).drop f ++ x :: l.drop (k + 1) := by
 obtain ⟨hk, rfl⟩ := List.getElem?_eq_some_iff.1 hx
 conv => lhs; rw [← List.take_append_drop k l, List.drop_append_of_le_length (by simp; omega), List.drop_eq_getElem_cons hk]
theorem JsAt.next {l : List UInt8} {k f : Nat} {ds : List Ded} {x : UInt8} (h : JsAt l k f ds) (hx : l[k]? = some x) (hn : x ≠ 10) : JsAt l (k + 1) f ds := by
 refine ⟨h.at', by have := h.le; omega, ?_⟩
 rw [take_drop_snoc hx h.le]
 intro hm
 rcases List.mem_append.1 hm with hm | hm
 ·
  exact h.no hm
 ·
  simp at hm; exact hn hm.symm
theorem JsAt.line {l : List UInt8} {k f : Nat} {ds : List Ded} (h : JsAt l k f ds) (hx : l[k]? = some 10) : (10 : UInt8) ∈ l.drop f ∧ bef 10 (l.drop f) = (l.take k).drop f := by
 have := cut_is (drop_at hx h.le) h.no
 exact ⟨this.1, this.2.1⟩
theorem JsAt.yes {l : List UInt8} {k f : Nat} {ds : List Ded} {d : Ded} (h : JsAt l k f ds) (hx : l[k]? = some 10) (hd : rdeed (ba ((l.take k).drop f)) = (d, true)) : JsAt l (k + 1) (k + 1) (ds ++ [d]) := by
 obtain ⟨h1, h2⟩ := h.line hx
 have h3 := h.at'.step h1 (by rw [h2]; exact hd)
 have hk := (List.getElem?_eq_some_iff.1 hx).1
 have hl : ((l.take k).drop f).length = k - f := by rw [List.length_drop, List.length_take]; omega
 have hle := h.le
 rw [h2, hl, show f + (k - f + 1) = k + 1 by omega] at h3
 refine ⟨h3, Nat.le_refl _, ?_⟩
 rw [List.drop_eq_nil_of_le (by rw [List.length_take]; omega)]
 simp
theorem JsAt.bad {l : List UInt8} {k f : Nat} {ds : List Ded} {d : Ded} (h : JsAt l k f ds) (hx : l[k]? = some 10) (hd : rdeed (ba ((l.take k).drop f)) = (d, false)) : jL l = (ds, f) := by
 obtain ⟨h1, h2⟩ := h.line hx
 refine h.at'.fin ?_
 rw [h2, hd]
 rintro ⟨_, e⟩
 cases e
theorem JsAt.fin {l : List UInt8} {f : Nat} {ds : List Ded} (h : JsAt l l.length f ds) : jL l = (ds, f) := by
 have h1 := h.no
 rw [List.take_length] at h1
 exact h.at'.fin (fun e => h1 e.1)

set_option maxRecDepth 100000 in
set_option maxHeartbeats 2000000 in
theorem sReadJournal_any (s : ByteArray) (w : World) (hs : s.size ≤ 1100000) :
  Calls Tryz.prog 22 #[.string s] w (JrPost s w) := by
 obtain ⟨i0, hi, hz0, hz1, hz2⟩ := info_parts infoDj
 have HZ := Lib.hid (tl_size s)
 go_enter Tryz.func22, Tryz.ntmps22
 go_wp2_with fail
 go_loopw [4, 5, 6] (fun v fr i wr => ∃ (k f : Nat) (ds : List Ded), i = .int .i64 k ∧ fr = .int .i64 f ∧ k ≤ s.size ∧ f ≤ k ∧ Hid (JsAt (tl s) k f ds) ∧ wr.ownsRow w.heap.size 55 3 v ds.length (dcells ds) ∧ Below w.heap.size w wr) (fun _ _ i _ => s.size - (intOf i).toNat)
 case atStart => exact ⟨0, 0, [], rfl, rfl, Nat.zero_le _, Nat.zero_le _, ⟨JAt.start _, Nat.le_refl _, by simp⟩, (by have := World.ownsRow_lit (base := w.heap.size) (e := 55) (size := 3) w #[] 0 (Nat.le_refl _) (by unfold maxLen; omega) rfl; simpa [dcells] using this), by (exact grownA)⟩
 case round =>
  obtain ⟨k, f, ds, rfl, rfl, hk, hfk, HJ, hown, hbel⟩ := hrel
  have hz := hbel.size
  have hfew := HJ.out.at'.few
  by_cases hkn : k < s.size
  ·
   have hc := tl_at s k hkn
   by_cases hcc : s[k] = 10
   ·
    have hcb : (((s[k].toNat : Nat) : Int) == 10) = true := by rw [hcc]; rfl
    have hx10 : (tl s)[k]? = some 10 := by rw [hc, hcc]
    have HX := Lib.hid hx10
    have HM := Lib.hid (cut_mid s f k)
    obtain ⟨u, hu⟩ : ∃ u, s.extract f k = u := ⟨_, rfl⟩
    have HU := Lib.hid hu
    have hus : u.size ≤ 1100000 := by rw [← hu, ByteArray.size_extract]; omega
    have HUS := Lib.hid hus
    clear hc hcc hx10 hu hus
    go_wp2_with fail
    rw [HU.out]
    refine (sReadDeed_any u _ HUS.out).mono ?_
    rintro e w2 ⟨rfl, hb2⟩
    have hown2 := owns_below hb2 hown
    have hbel2 : Below w.heap.size w w2 := hbel.trans (Below.mono hb2 hbel.size)
    have hz2' := hbel2.size
    obtain ⟨⟨⟨dk, dl, dn⟩, ok⟩, hr⟩ : ∃ z, rdeed u = z := ⟨_, rfl⟩
    have HRD := Lib.hid hr
    rw [hr]
    clear hr hb2 hown
    cases ok
    ·
     have HF := Lib.hid (HJ.out.bad HX.out (by rw [← HM.out, HU.out]; exact HRD.out))
     go_wp2
     go_returns
     exact ⟨_, by rw [HF.out]; rfl, by rw [HF.out]; exact owns_below (by (exact grownA)) hown2, by (exact grownA)⟩
    ·
     have HST := Lib.hid (HJ.out.yes HX.out (d := (dk, dl, dn)) (by rw [← HM.out, HU.out]; exact HRD.out))
     go_wp2_with (at_builtin; refine wpList_append_own _ rfl _ _ 44 rfl w.heap.size 55 i0 _ 3 32 Tryz.underlying44 hi hz0 hz1 hz2 rfl (by decide) _ _ _ rfl ((hown2.alloc _).alloc _) ⟨w2.heap.size + 1, 0, none⟩ 1 1 [.int .i64 dk, .int .i64 dl, .string dn] rfl rfl (news3j _ _ _ _ _ _ (by simp)) (oneDj _ _ _) (by unfold maxLen; omega) (by omega) (by simp; omega) ?_; intro v' w3 hown' hgrow _)
     have hbel3 : Below w.heap.size w w3 := Below.grown (by (exact grownA)) hgrow (by have := hbel2.size; simp; omega) (own_ge hown2)
     clear hgrow
     go_wp2_with fail
     go_roundw
     case rel =>
      refine ⟨k + 1, k + 1, ds ++ [(dk, dl, dn)], by go_num, by go_num, by omega, by omega, HST.out, ?_, hbel3⟩
      rw [dcells_app, List.length_append]
      exact hown'
     case measure => simp [intOf]; omega
   ·
    have hcb : (((s[k].toNat : Nat) : Int) == 10) = false := by
     simp only [beq_eq_false_iff_ne, ne_eq]
     exact fun e => hcc (UInt8.toNat_inj.1 (by simp; omega))
    have HST := Lib.hid (HJ.out.next hc hcc)
    clear hc hcc
    go_wp2_with fail
    go_roundw
    case rel => exact ⟨k + 1, f, ds, by go_num, rfl, by omega, by omega, HST.out, hown, hbel⟩
    case measure => simp [intOf]; omega
  ·
   obtain rfl : k = s.size := by omega
   have hd := HJ.out
   rw [← HZ.out] at hd
   have HF := Lib.hid hd.fin
   clear hd
   go_wp2
   go_returns
   exact ⟨_, by rw [HF.out]; rfl, by rw [HF.out]; exact hown, hbel⟩

end Go.Proofs.YtedadhoneebfnaaGreatDoor
