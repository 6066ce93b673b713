/- Contract of l1Cut (reference). -/
import Derived.Test.YtedadhoneebfnaaDoorRn
import Derived.Test.YtedadhoneebfnaaDoorStr
set_option linter.unusedSimpArgs false
set_option linter.unusedVariables false
namespace Go.Proofs.YtedadhoneebfnaaDoor
open Go.RowKit

def bas (ls : List (List UInt8)) : List ByteArray := ls.map ba
theorem bas_len (ls : List (List UInt8)) : (bas ls).length = ls.length := by simp [bas]
theorem bas_snoc (ls : List (List UInt8)) (l : List UInt8) : bas (ls ++ [l]) = bas ls ++ [ba l] := by simp [bas]
theorem strs_snocD (ps : List ByteArray) (s : ByteArray) : strs ps ++ [.string s] = strs (ps ++ [s]) := by simp [strs]
theorem infoSD : (Tryd.prog.info? 9).map (fun i => (i.zero, i.size, i.bytes)) = some (some (.string ByteArray.empty), 1, 16) := by kernel_rfl
theorem newS (w : World) (T : TypeId) (x0 : Value) (b : Nat) (hb : b = w.heap.size) : ∀ (j : Nat) (u : Value), [x0][j]? = some u → (w.alloc (.cells #[x0] T)).cell? ((⟨b, 0, none⟩ : Addr).add j) = some u := by
  subst hb
  intro j u hu
  match j with
  | 0 => simp at hu; subst hu; rw [Addr.add_spot, World.cell?_alloc_at _ _ _ _ rfl]; rfl
  | j + 1 => simp at hu
theorem oneS (s : ByteArray) : ∀ u ∈ [Value.string s], u.oneCell' = true := by intro u hu; simp at hu; subst hu; rfl
theorem split_count (c : UInt8) (l cur : List UInt8) : (splitL c l cur).length ≤ 1 + l.length := by
  rw [(split_head c l cur).2]; have := List.count_le_length (a := c) (l := l); omega
theorem cut_mid (s : ByteArray) (f k : Nat) : s.extract f k = ba (((tl s).take k).drop f) := by
  apply bytes_ext; simp [ba, tl, ByteArray.data_extract, List.drop_take]
theorem cut_end (s : ByteArray) (f : Nat) : s.extract f s.size = ba (((tl s).take s.size).drop f) := cut_mid s f s.size
/-- The pieces made anew. -/
def CtPost (c : UInt8) (s : ByteArray) (w : World) (e : Ending) (w' : World) : Prop := ∃ v, e = .returned v ∧ w'.ownsRow w.heap.size 9 1 v (splitL c (tl s) []).length (strs (bas (splitL c (tl s) []))) ∧ Below w.heap.size w w'
/-- Where the loop stands. -/
def CtAt (c : UInt8) (l : List UInt8) (k f : Nat) (out : List (List UInt8)) : Prop := f ≤ k ∧ out ++ splitL c (l.drop k) ((l.take k).drop f) = splitL c l []
theorem CtAt.start (c : UInt8) (l : List UInt8) : CtAt c l 0 0 [] := ⟨Nat.le_refl _, by simp⟩
theorem CtAt.len {c : UInt8} {l : List UInt8} {k f : Nat} {out : List (List UInt8)} (h : CtAt c l k f out) : out.length ≤ l.length + 1 := by
  have h1 := congrArg List.length h.2
  have h2 := split_count c l []
  rw [List.length_append] at h1
  omega
theorem CtAt.yes {c : UInt8} {l : List UInt8} {k f : Nat} {out : List (List UInt8)} (h : CtAt c l k f out) (hx : l[k]? = some c) : CtAt c l (k + 1) (k + 1) (out ++ [(l.take k).drop f]) := by
  refine ⟨Nat.le_refl _, ?_⟩
  rw [← h.2, split_step hx h.1, if_pos rfl]; simp
theorem CtAt.no {c x : UInt8} {l : List UInt8} {k f : Nat} {out : List (List UInt8)} (h : CtAt c l k f out) (hx : l[k]? = some x) (hn : x ≠ c) : CtAt c l (k + 1) f out := by
  refine ⟨by have := h.1; omega, ?_⟩
  rw [← h.2, split_step hx h.1, if_neg hn]
theorem CtAt.done {c : UInt8} {l : List UInt8} {f : Nat} {out : List (List UInt8)} (h : CtAt c l l.length f out) : out ++ [(l.take l.length).drop f] = splitL c l [] := by
  rw [← h.2, List.drop_length]; rfl

set_option maxRecDepth 100000 in
set_option maxHeartbeats 2000000 in
theorem l1Cut_any (s : ByteArray) (c : UInt8) (w : World) (hs : s.size ≤ 2000000) :
    Calls Tryd.prog 39 #[.string s, .int .u8 (c.toNat : Nat)] w (CtPost c s w) := by
  obtain ⟨i0, hi, hz0, hz1, hz2⟩ := info_parts infoSD
  have HZ := Lib.hid (tl_size s)
  go_enter Tryd.func39, Tryd.ntmps39
  go_wp2_with fail
  go_loopw [5, 6, 7] (fun v fr i wr => ∃ (k f : Nat) (out : List (List UInt8)), k ≤ s.size ∧ f ≤ k ∧ i = .int .i64 k ∧ fr = .int .i64 f ∧ Hid (CtAt c (tl s) k f out) ∧ wr.ownsRow w.heap.size 9 1 v out.length (strs (bas out)) ∧ Below w.heap.size w wr) (fun _ _ i _ => s.size - (intOf i).toNat)
  case atStart => exact ⟨0, 0, [], by omega, by omega, rfl, rfl, CtAt.start _ _, (by have := World.ownsRow_lit (base := w.heap.size) (e := 9) (size := 1) w #[] 0 (Nat.le_refl _) (by unfold maxLen; omega) rfl; simpa [strs, bas] using this), by (repeat' (first | (with_reducible exact Below.refl _ _) | (with_reducible assumption) | (with_reducible refine Below.drew ?_) | (with_reducible refine below_drewN ?_ _) | (with_reducible refine Below.alloc ?_ ?_ _) | (with_reducible refine Below.setCell ?_ ?_ _) | (refine Below.trans ?_ (Below.mono (by assumption) (by first | omega | (with_reducible exact Below.size (by assumption)) | (simp; done) | (simp; omega)))) | (with_reducible exact Nat.le_refl _) | omega | (with_reducible exact Below.size (by assumption)) | (simp only [World.size_alloc, World.size_setCell, World.size_drew]; omega) | (simp; done) | (simp; omega)))⟩
  case round =>
    obtain ⟨k, f, out, hk, hfk, rfl, rfl, hat, hown, hbel⟩ := hrel
    have hz := hbel.size
    have hol := hat.out.len
    rw [HZ.out] at hol
    by_cases hkn : k < s.size
    · have hc := tl_at s k hkn
      by_cases hcc : s[k] = c
      · have hcb : (((s[k].toNat : Nat) : Int) == ((c.toNat : Nat) : Int)) = true := by rw [hcc]; simp
        have HST := Lib.hid (hat.out.yes (by rw [hc, hcc]))
        have HX := Lib.hid (cut_mid s f k)
        clear hc hcc
        go_wp2_with (at_builtin; refine wpList_append_own _ rfl _ _ 50 rfl w.heap.size 9 i0 _ 1 16 Tryd.underlying50 hi hz0 hz1 hz2 rfl (by decide) _ _ _ rfl (hown.alloc _) ⟨wr.heap.size, 0, none⟩ 1 1 [.string (s.extract f k)] rfl rfl (newS _ _ _ _ (by first | rfl | simp)) (oneS _) (by unfold maxLen; omega) (by omega) (by simp; omega) ?_; intro v' w5 hown' hgrow _)
        have hbel5 : Below w.heap.size w w5 := Below.grown (by (repeat' (first | (with_reducible exact Below.refl _ _) | (with_reducible assumption) | (with_reducible refine Below.drew ?_) | (with_reducible refine below_drewN ?_ _) | (with_reducible refine Below.alloc ?_ ?_ _) | (with_reducible refine Below.setCell ?_ ?_ _) | (refine Below.trans ?_ (Below.mono (by assumption) (by first | omega | (with_reducible exact Below.size (by assumption)) | (simp; done) | (simp; omega)))) | (with_reducible exact Nat.le_refl _) | omega | (with_reducible exact Below.size (by assumption)) | (simp only [World.size_alloc, World.size_setCell, World.size_drew]; omega) | (simp; done) | (simp; omega)))) hgrow (by simp; omega) (own_ge hown)
        clear hgrow
        go_wp2_with fail
        go_roundw
        case rel => exact ⟨k + 1, k + 1, _, by omega, by omega, by go_num, by go_num, HST.out, by rw [List.length_append, bas_snoc, ← strs_snocD, ← HX.out]; exact hown', hbel5⟩
        case measure => simp [intOf]; omega
      · have hcb : (((s[k].toNat : Nat) : Int) == ((c.toNat : Nat) : Int)) = false := by
          simp only [beq_eq_false_iff_ne, ne_eq]
          exact fun e => hcc (UInt8.toNat_inj.1 (by omega))
        have HST := Lib.hid (hat.out.no hc hcc)
        clear hc hcc
        go_wp2_with fail
        go_roundw
        case rel => exact ⟨k + 1, f, _, by omega, by omega, by go_num, rfl, HST.out, hown, hbel⟩
        case measure => simp [intOf]; omega
    · obtain rfl : k = s.size := by omega
      have hd := hat.out
      rw [← HZ.out] at hd
      have hdd := hd.done
      rw [HZ.out] at hdd
      have HD := Lib.hid hdd
      have HX := Lib.hid (cut_end s f)
      clear hd hdd
      go_wp2_with (at_builtin; refine wpList_append_own _ rfl _ _ 50 rfl w.heap.size 9 i0 _ 1 16 Tryd.underlying50 hi hz0 hz1 hz2 rfl (by decide) _ _ _ rfl (hown.alloc _) ⟨wr.heap.size, 0, none⟩ 1 1 [.string (s.extract f s.size)] rfl rfl (newS _ _ _ _ (by first | rfl | simp)) (oneS _) (by unfold maxLen; omega) (by omega) (by simp; omega) ?_; intro v' w5 hown' hgrow _)
      have hbel5 : Below w.heap.size w w5 := Below.grown (by (repeat' (first | (with_reducible exact Below.refl _ _) | (with_reducible assumption) | (with_reducible refine Below.drew ?_) | (with_reducible refine below_drewN ?_ _) | (with_reducible refine Below.alloc ?_ ?_ _) | (with_reducible refine Below.setCell ?_ ?_ _) | (refine Below.trans ?_ (Below.mono (by assumption) (by first | omega | (with_reducible exact Below.size (by assumption)) | (simp; done) | (simp; omega)))) | (with_reducible exact Nat.le_refl _) | omega | (with_reducible exact Below.size (by assumption)) | (simp only [World.size_alloc, World.size_setCell, World.size_drew]; omega) | (simp; done) | (simp; omega)))) hgrow (by simp; omega) (own_ge hown)
      clear hgrow
      go_wp2
      go_returns
      refine ⟨_, rfl, ?_, hbel5⟩
      rw [← HD.out, List.length_append, bas_snoc, ← strs_snocD, ← HX.out]
      exact hown'

end Go.Proofs.YtedadhoneebfnaaDoor
