/- Joined texts: DrDig, ClP, Cc, Dd, Ex, ExP, Shp. -/
import Derived.Test.YtedadhoneebfnaaDoorJ1
import Derived.Test.YtedadhoneebfnaaDoorJ2
import Derived.Test.YtedadhoneebfnaaDoorLib
import Derived.Test.YtedadhoneebfnaaDoorRows
import Derived.Handy
set_option linter.unusedSimpArgs false
set_option linter.unusedVariables false
/- The draw of digits: l20Digits. -/
namespace Go.Proofs.YtedadhoneebfnaaDoor
open Go.RowKit

/-- What l20Digits leaves. -/
def DigPost (rb p : Nat) (most : Int) (w : World) (e : Ending) (w' : World) : Prop :=
 ∃ (s : ByteArray) (q : Nat), e = .returned (.string s) ∧ (s.size : Int) ≤ most ∧ digsB s = true ∧ p ≤ q ∧ q ≤ p + 10 ∧ Rdr w' rb q ∧ w.grownBy w' (some rb)

set_option maxHeartbeats 1000000 in
theorem l20Digits_any (rb p : Nat) (most : Int) (w : World) (h : Rdr w rb p) (hp : p ≤ 500000000) (h0 : 0 ≤ most) (h6 : most ≤ 8) :
  Calls Tryd.prog 55 #[.pointer (some ⟨rb, 0, none⟩), .int .i64 most] w (DigPost rb p most w) := by
 go_enter Tryd.func55, Tryd.ntmps55
 go_wp2_with fail
 refine (pick_any rb p _ _ h (by omega) (by omega)).mono ?_
 rintro e w1 ⟨x, rfl, hx0, hx1, hr1, hg1⟩
 have hx : x ≤ most := by omega
 clear hx1
 go_wp2_with fail
 go_loopw [5, 6] (fun s k wr => ∃ (j q : Nat) (st : ByteArray), k = .int .i64 j ∧ s = .string st ∧ (j : Int) + st.size ≤ most ∧ q + j ≤ p + 1 + 8 ∧ p ≤ q ∧ Hid (digsB st = true) ∧ Rdr wr rb q ∧ w.grownBy wr (some rb)) (fun _ k _ => (intOf k).toNat)
 case atStart => exact ⟨x.toNat, p + 1, ⟨#[]⟩, by go_num, rfl, by have : (⟨#[]⟩ : ByteArray).size = 0 := rfl; omega, by omega, by omega, rfl, hr1, hg1⟩
 case round =>
  obtain ⟨j, q, st, rfl, rfl, hj, hq1, hq2, hst, hr, hg⟩ := hrel
  by_cases hj0 : 0 < j
  ·
   have hrlt := hr.lt
   go_wp2_with fail
   refine (pick_any rb q _ _ hr.alloc (by omega) (by omega)).mono ?_
   rintro e w2 ⟨y, rfl, hy0, hy1, hr2, hg2⟩
   have hy : y < 4 := by omega
   have hC := Blk.gb hg2 (b := wr.heap.size) (by omega) (Blk.new rfl)
   have hcell := hC.at y.toNat
   obtain ⟨c, hc, hcd⟩ : ∃ c : UInt8, w2.cell? ⟨wr.heap.size, y.toNat, none⟩ = some (.string ⟨#[c]⟩) ∧ digB c = true := by
    have : y = 0 ∨ y = 1 ∨ y = 2 ∨ y = 3 := by omega
    rcases this with rfl | rfl | rfl | rfl
    ·
     exact ⟨48, hcell, by decide⟩
    ·
     exact ⟨49, hcell, by decide⟩
    ·
     exact ⟨50, hcell, by decide⟩
    ·
     exact ⟨51, hcell, by decide⟩
   have hg2' : w.grownBy w2 (some rb) := gb_trans (gb_alloc hg) hg2
   have HCD := Lib.hid hcd
   clear hcell hC hy1 hg2 hcd
   go_wp2
   go_roundw
   case rel =>
    have e1 : (st ++ (⟨#[c]⟩ : ByteArray)).size = st.size + 1 := by rw [ByteArray.size_append]; rfl
    refine ⟨j - 1, q + 1, st ++ ⟨#[c]⟩, by go_num, rfl, by omega, by omega, by omega, ?_, hr2, hg2'⟩
    have e2 : (st ++ (⟨#[c]⟩ : ByteArray)).data.toList = st.data.toList ++ [c] := by simp [ByteArray.data_append]
    unfold Hid digsB
    rw [e2, List.all_append, Bool.and_eq_true]
    exact ⟨hst.out, by simp [HCD.out]⟩
   case measure => simp [intOf]; omega
  ·
   obtain rfl : j = 0 := by omega
   go_wp2
   go_returns
   exact ⟨st, q, rfl, by omega, hst.out, by omega, by omega, hr, hg⟩

end Go.Proofs.YtedadhoneebfnaaDoor

/- The calls of a network of three stages: moving them (Clos). Plain lists and numbers; no program in sight. -/
namespace Go.Proofs.YtedadhoneebfnaaDoor

/-! The chain of calls that are moved: plain, over places 0 .. n-1. 'sw true k' is the outer switch to which the call k goes, 'sw false k' that from which. -/
section
variable (n : Nat) (via : Nat → Int) (sw : Bool → Nat → Int) (a b : Int)
def nextK (s : Bool) (outer want : Int) (ch : List Nat) : Option Nat :=
 (List.range n).find? fun k => (!ch.contains k && decide (sw s k = outer)) && decide (via k = want)
def chainK : Nat → Bool → Int → Int → List Nat → List Nat
 | 0, _, _, _, ch => ch
 | f + 1, s, outer, want, ch =>
  match nextK n via sw s outer want ch with
  | none => ch
  | some k => chainK f (!s) (sw (!s) k) (a + b - want) (ch ++ [k])
end
variable {n : Nat} {via : Nat → Int} {sw : Bool → Nat → Int} {a b : Int}
theorem nextK_some {s : Bool} {outer want : Int} {ch : List Nat} {k : Nat} (h : nextK n via sw s outer want ch = some k) : k < n ∧ k ∉ ch ∧ sw s k = outer ∧ via k = want := by
 have h1 := List.find?_some h
 have h2 := List.mem_of_find?_eq_some h
 simp at h1 h2
 exact ⟨h2, h1.1.1, h1.1.2, h1.2⟩
theorem nextK_none {s : Bool} {outer want : Int} {ch : List Nat} (h : nextK n via sw s outer want ch = none) : ∀ k, k < n → sw s k = outer → via k = want → k ∈ ch := by
 intro k hk h1 h2
 unfold nextK at h
 rw [List.find?_eq_none] at h
 have := h k (by simpa using hk)
 simp [h1, h2] at this
 exact this
/-- No two calls at one switch go through the same middle switch. -/
def Uniq (n : Nat) (via : Nat → Int) (sw : Bool → Nat → Int) : Prop := ∀ s j k, j < n → k < n → sw s j = sw s k → via j = via k → j = k
structure Inv (n : Nat) (via : Nat → Int) (sw : Bool → Nat → Int) (a b I O : Int) (s : Bool) (outer want : Int) (ch : List Nat) : Prop where
 nd : ch.Nodup
 col : ∀ k ∈ ch, k < n ∧ (via k = a ∨ via k = b)
 nb : ∀ k ∈ ch, ∀ t, (∀ j, j < n → sw t j = sw t k → via j = a + b - via k → j ∈ ch) ∨ (t = s ∧ sw t k = outer ∧ a + b - via k = want)
 prev : ∀ j, j < n → sw s j = outer → via j = a + b - want → j ∈ ch
 inI : ∀ k ∈ ch, sw false k = I → via k ≠ b
 st : (s = true ∧ want = a) ∨ (s = false ∧ want = b ∧ outer ≠ I)
 fst : (∀ j, j < n → sw true j = O → via j = a → j ∈ ch) ∨ (s = true ∧ outer = O ∧ want = a)
theorem Inv.step {I O : Int} (hU : Uniq n via sw) (hI : ∀ j, j < n → sw false j = I → via j ≠ a) {s : Bool} {outer want : Int} {ch : List Nat} (h : Inv n via sw a b I O s outer want ch) {k : Nat} (hk : nextK n via sw s outer want ch = some k) : Inv n via sw a b I O (!s) (sw (!s) k) (a + b - want) (ch ++ [k]) := by
 obtain ⟨h1, h2, h3, h4⟩ := nextK_some hk
 have hab : want = a ∨ want = b := by rcases h.st with h | h <;> simp [h]
 refine ⟨?_, ?_, ?_, ?_, ?_, ?_, ?_⟩
 ·
  rw [List.nodup_append]
  refine ⟨h.nd, by simp, ?_⟩
  intro x hx y hy
  simp at hy; subst hy
  intro e; subst e; exact h2 hx
 ·
  intro j hj
  rcases List.mem_append.1 hj with hj | hj
  ·
   exact h.col j hj
  ·
   simp at hj; subst hj; exact ⟨h1, by rw [h4]; exact hab⟩
 ·
  intro j hj t
  rcases List.mem_append.1 hj with hj | hj
  ·
   rcases h.nb j hj t with h5 | ⟨h5, h6, h7⟩
   ·
    exact .inl fun i hi e1 e2 => List.mem_append.2 (.inl (h5 i hi e1 e2))
   ·
    refine .inl fun i hi e1 e2 => List.mem_append.2 (.inr ?_)
    have : i = k := hU s i k hi h1 (by rw [h3, ← h6, ← h5]; exact e1) (by rw [h4, e2, h7])
    simp [this]
  ·
   simp at hj; subst hj
   by_cases ht : t = s
   ·
    subst ht
    refine .inl fun i hi e1 e2 => List.mem_append.2 (.inl (h.prev i hi (by rw [e1, h3]) (by rw [e2, h4])))
   ·
    have ht' : t = !s := by cases t <;> cases s <;> simp_all
    subst ht'
    exact .inr ⟨rfl, rfl, by rw [h4]⟩
 ·
  intro j hj e1 e2
  have : j = k := hU (!s) j k hj h1 e1 (by rw [h4]; omega)
  simp [this]
 ·
  intro j hj e
  rcases List.mem_append.1 hj with hj | hj
  ·
   exact h.inI j hj e
  ·
   simp at hj; subst hj
   rcases h.st with ⟨hs, hw⟩ | ⟨hs, hw, ho⟩
   ·
    exact absurd (by rw [h4, hw]) (hI _ h1 e)
   ·
    subst hs; exact absurd (by rw [← h3, e]) ho
 ·
  rcases h.st with ⟨hs, hw⟩ | ⟨hs, hw, ho⟩
  ·
   subst hs
   exact .inr ⟨rfl, by omega, fun e => hI k h1 e (by rw [h4, hw])⟩
  ·
   subst hs
   exact .inl ⟨rfl, by omega⟩
 ·
  rcases h.fst with h5 | ⟨h5, h6, h7⟩
  ·
   exact .inl fun j hj e1 e2 => List.mem_append.2 (.inl (h5 j hj e1 e2))
  ·
   refine .inl fun j hj e1 e2 => List.mem_append.2 (.inr ?_)
   have : j = k := hU true j k hj h1 (by rw [e1, ← h5, h3, h6]; ) (by rw [e2, h4, h7])
   simp [this]
/-- What the whole chain is. -/
structure Whole (n : Nat) (via : Nat → Int) (sw : Bool → Nat → Int) (a b I O : Int) (ch : List Nat) : Prop where
 nd : ch.Nodup
 col : ∀ k ∈ ch, k < n ∧ (via k = a ∨ via k = b)
 nb : ∀ k ∈ ch, ∀ t j, j < n → sw t j = sw t k → via j = a + b - via k → j ∈ ch
 inI : ∀ k ∈ ch, sw false k = I → via k ≠ b
 fst : ∀ j, j < n → sw true j = O → via j = a → j ∈ ch
theorem nodup_len : ∀ {n : Nat} {ch : List Nat}, ch.Nodup → (∀ k ∈ ch, k < n) → ch.length ≤ n := by
 intro n
 induction n with
 | zero =>
  intro ch _ hl
  cases ch with
  | nil => simp
  | cons x xs => exact absurd (hl x (by simp)) (by omega)
 | succ n ih =>
  intro ch h hl
  have h1 : (ch.erase n).length ≤ n := ih (h.erase n) (fun k hk => by
   have h2 := (List.Nodup.mem_erase_iff h).1 hk
   have := hl k h2.2
   have := h2.1
   omega)
  rw [List.length_erase] at h1
  split at h1 <;> omega
theorem chainK_whole {I O : Int} (hU : Uniq n via sw) (hI : ∀ j, j < n → sw false j = I → via j ≠ a) : ∀ (f : Nat) (s : Bool) (outer want : Int) (ch : List Nat), n < f + ch.length → Inv n via sw a b I O s outer want ch → Whole n via sw a b I O (chainK n via sw a b f s outer want ch) := by
 intro f
 induction f with
 | zero =>
  intro s outer want ch hf h
  have := nodup_len h.nd (fun k hk => (h.col k hk).1)
  omega
 | succ f ih =>
  intro s outer want ch hf h
  simp only [chainK]
  cases hk : nextK n via sw s outer want ch with
  | none =>
   have hn := nextK_none hk
   refine ⟨h.nd, h.col, fun k hk t j hj e1 e2 => ?_, h.inI, fun j hj e1 e2 => ?_⟩
   ·
    rcases h.nb k hk t with h5 | ⟨h5, h6, h7⟩
    ·
     exact h5 j hj e1 e2
    ·
     exact hn j hj (by rw [← h6, ← h5]; exact e1) (by rw [e2, h7])
   ·
    rcases h.fst with h5 | ⟨h5, h6, h7⟩
    ·
     exact h5 j hj e1 e2
    ·
     exact hn j hj (by rw [h5, e1, h6]) (by rw [e2, h7])
  | some k => exact ih _ _ _ _ (by simp; omega) (h.step hU hI hk)
theorem chainK_first {I O : Int} (hO : ∀ j, j < n → sw true j = O → via j ≠ b) : Inv n via sw a b I O true O a [] :=
 ⟨List.nodup_nil, fun k hk => by simp at hk, fun k hk => by simp at hk, fun j hj e1 e2 => absurd (by omega) (hO j hj e1), fun k hk => by simp at hk, .inl ⟨rfl, rfl⟩, .inr ⟨rfl, rfl, rfl⟩⟩
/-- The middle switches after the moves. -/
def flipK (via : Nat → Int) (a b : Int) (ch : List Nat) (k : Nat) : Int := if k ∈ ch then a + b - via k else via k
theorem Whole.uniq {I O : Int} (hU : Uniq n via sw) {ch : List Nat} (h : Whole n via sw a b I O ch) : Uniq n (flipK via a b ch) sw := by
 intro s j k hj hk hs hv
 unfold flipK at hv
 by_cases h1 : j ∈ ch <;> by_cases h2 : k ∈ ch
 ·
  rw [if_pos h1, if_pos h2] at hv; exact hU s j k hj hk hs (by omega)
 ·
  rw [if_pos h1, if_neg h2] at hv; exact absurd (h.nb j h1 s k hk hs.symm hv.symm) h2
 ·
  rw [if_neg h1, if_pos h2] at hv; exact absurd (h.nb k h2 s j hj hs hv) h1
 ·
  rw [if_neg h1, if_neg h2] at hv; exact hU s j k hj hk hs hv
theorem Whole.fromI {I O : Int} (hI : ∀ j, j < n → sw false j = I → via j ≠ a) {ch : List Nat} (h : Whole n via sw a b I O ch) : ∀ j, j < n → sw false j = I → flipK via a b ch j ≠ a := by
 intro j hj e
 unfold flipK
 by_cases h1 : j ∈ ch
 ·
  rcases (h.col j h1).2 with h2 | h2
  ·
   exact absurd h2 (hI j hj e)
  ·
   exact absurd h2 (h.inI j h1 e)
 ·
  rw [if_neg h1]; exact hI j hj e
theorem Whole.toO {I O : Int} (hab : a ≠ b) (hO : ∀ j, j < n → sw true j = O → via j ≠ b) {ch : List Nat} (h : Whole n via sw a b I O ch) : ∀ j, j < n → sw true j = O → flipK via a b ch j ≠ a := by
 intro j hj e
 unfold flipK
 by_cases h1 : j ∈ ch
 ·
  rw [if_pos h1]
  rcases (h.col j h1).2 with h2 | h2
  ·
   omega
  ·
   exact absurd h2 (hO j hj e)
 ·
  rw [if_neg h1]; intro h2; exact h1 (h.fst j hj e h2)

/-! Lists of calls: input, output, middle switch. -/
abbrev Cl := Int × Int × Int
def swC (E : Int) (s : Bool) (c : Cl) : Int := if s then c.2.1 / E else c.1 / E
def swL (E : Int) (cs : List Cl) (s : Bool) (k : Nat) : Int := match cs[k]? with
 | some c => swC E s c
 | none => 0
def viaL (cs : List Cl) (k : Nat) : Int := match cs[k]? with
 | some c => c.2.2
 | none => 0
theorem swL_at {E : Int} {cs : List Cl} {s : Bool} {k : Nat} {c : Cl} (h : cs[k]? = some c) : swL E cs s k = swC E s c := by simp [swL, h]
theorem viaL_at {cs : List Cl} {k : Nat} {c : Cl} (h : cs[k]? = some c) : viaL cs k = c.2.2 := by simp [viaL, h]
structure ShapeOk (O E M : Int) : Prop where
 o : 1 ≤ O ∧ O ≤ 4
 e : 1 ≤ E ∧ E ≤ 3
 m : 1 ≤ M ∧ M ≤ 5
structure CallsOk (O E M : Int) (cs : List Cl) : Prop where
 sh : ShapeOk O E M
 at' : ∀ (k : Nat) (c : Cl), cs[k]? = some c → (0 ≤ c.1 ∧ c.1 < O * E) ∧ (0 ≤ c.2.1 ∧ c.2.1 < O * E) ∧ 0 ≤ c.2.2 ∧ c.2.2 < M
 apart : ∀ (j k : Nat) (d c : Cl), j < k → cs[j]? = some d → cs[k]? = some c → d.1 ≠ c.1 ∧ d.2.1 ≠ c.2.1 ∧ ∀ s, swC E s d = swC E s c → d.2.2 ≠ c.2.2
theorem CallsOk.uniq {O E M : Int} {cs : List Cl} (h : CallsOk O E M cs) : Uniq cs.length (viaL cs) (swL E cs) := by
 intro s j k hj hk hs hv
 obtain ⟨d, hd⟩ : ∃ d, cs[j]? = some d := ⟨_, List.getElem?_eq_getElem hj⟩
 obtain ⟨c, hc⟩ : ∃ c, cs[k]? = some c := ⟨_, List.getElem?_eq_getElem hk⟩
 rw [swL_at hd, swL_at hc] at hs
 rw [viaL_at hd, viaL_at hc] at hv
 rcases Nat.lt_trichotomy j k with e | e | e
 ·
  exact absurd hv ((h.apart j k d c e hd hc).2.2 s hs)
 ·
  exact e
 ·
  exact absurd hv.symm ((h.apart k j c d e hc hd).2.2 s hs.symm)
/-- Whether a call at an outer switch goes through m. -/
def usedB (E : Int) (cs : List Cl) (s : Bool) (o m : Int) : Bool := cs.any fun c => decide (swC E s c = o) && decide (c.2.2 = m)
theorem usedB_iff {E : Int} {cs : List Cl} {s : Bool} {o m : Int} : usedB E cs s o m = true ↔ ∃ c ∈ cs, swC E s c = o ∧ c.2.2 = m := by simp [usedB]
def mids (M : Int) : List Int := (List.range M.toNat).map Int.ofNat
theorem mids_mem {M m : Int} (hM : 0 ≤ M) : m ∈ mids M ↔ 0 ≤ m ∧ m < M := by
 unfold mids
 rw [List.mem_map]
 constructor
 ·
  rintro ⟨a, ha, rfl⟩
  have := List.mem_range.1 ha
  have e : Int.ofNat a = (a : Int) := rfl
  omega
 ·
  intro h
  refine ⟨m.toNat, List.mem_range.2 (by omega), ?_⟩
  have e : Int.ofNat m.toNat = (m.toNat : Int) := rfl
  omega
def freeL (E M : Int) (cs : List Cl) (x y : Int) : List Int := (mids M).filter fun m => !usedB E cs false (x / E) m && !usedB E cs true (y / E) m
def firstL (E M : Int) (cs : List Cl) (s : Bool) (o : Int) : Int := ((mids M).find? fun m => !usedB E cs s o m).getD (-1)
def flipL (a b : Int) (ch : List Nat) (cs : List Cl) : List Cl := cs.mapIdx fun k c => (c.1, c.2.1, if k ∈ ch then a + b - c.2.2 else c.2.2)
def chainL (E a b : Int) (cs : List Cl) (y : Int) : List Nat := chainK cs.length (viaL cs) (swL E cs) a b (cs.length + 1) true (y / E) a []
def moveL (E M : Int) (cs : List Cl) (x y : Int) : List Cl := match freeL E M cs x y with
 | m :: _ => cs ++ [(x, y, m)]
 | [] =>
  let a := firstL E M cs false (x / E)
  let b := firstL E M cs true (y / E)
  flipL a b (chainL E a b cs y) cs ++ [(x, y, a)]
def freeB (cs : List Cl) (x y : Int) : Prop := ∀ c ∈ cs, c.1 ≠ x ∧ c.2.1 ≠ y
/-- One call more. -/
theorem CallsOk.push {O E M : Int} {cs : List Cl} (h : CallsOk O E M cs) {x y m : Int} (hx : 0 ≤ x ∧ x < O * E) (hy : 0 ≤ y ∧ y < O * E) (hm : 0 ≤ m ∧ m < M) (hf : freeB cs x y) (h1 : ∀ c ∈ cs, swC E false c = x / E → c.2.2 ≠ m) (h2 : ∀ c ∈ cs, swC E true c = y / E → c.2.2 ≠ m) : CallsOk O E M (cs ++ [(x, y, m)]) := by
 refine ⟨h.sh, fun k c hc => ?_, fun j k d c hjk hd hc => ?_⟩
 ·
  by_cases hk : k < cs.length
  ·
   rw [List.getElem?_append_left hk] at hc; exact h.at' k c hc
  ·
   rw [List.getElem?_append_right (by omega)] at hc
   have := (List.getElem?_eq_some_iff.1 hc).1
   have e : k - cs.length = 0 := by simp at this; omega
   rw [e] at hc; simp at hc; subst hc
   exact ⟨hx, hy, hm⟩
 ·
  by_cases hk : k < cs.length
  ·
   rw [List.getElem?_append_left hk] at hc
   rw [List.getElem?_append_left (by omega)] at hd
   exact h.apart j k d c hjk hd hc
  ·
   rw [List.getElem?_append_right (by omega)] at hc
   have := (List.getElem?_eq_some_iff.1 hc).1
   have e : k - cs.length = 0 := by simp at this; omega
   rw [e] at hc; simp at hc; subst hc
   have hj : j < cs.length := by simp at this; omega
   rw [List.getElem?_append_left hj] at hd
   have hmem := List.mem_of_getElem? hd
   refine ⟨(hf d hmem).1, (hf d hmem).2, fun s hs => ?_⟩
   cases s
   ·
    exact h1 d hmem (by rw [hs]; simp [swC])
   ·
    exact h2 d hmem (by rw [hs]; simp [swC])
theorem flipL_at {a b : Int} {ch : List Nat} {cs : List Cl} {k : Nat} {c : Cl} (h : cs[k]? = some c) : (flipL a b ch cs)[k]? = some (c.1, c.2.1, flipK (viaL cs) a b ch k) := by
 unfold flipL flipK
 rw [List.getElem?_mapIdx, h, viaL_at h]; rfl
theorem flipL_of {a b : Int} {ch : List Nat} {cs : List Cl} {k : Nat} {e : Cl} (h : (flipL a b ch cs)[k]? = some e) : ∃ c, cs[k]? = some c ∧ e = (c.1, c.2.1, flipK (viaL cs) a b ch k) := by
 have hl : k < cs.length := by have := (List.getElem?_eq_some_iff.1 h).1; simpa [flipL] using this
 obtain ⟨c, hc⟩ : ∃ c, cs[k]? = some c := ⟨_, List.getElem?_eq_getElem hl⟩
 rw [flipL_at hc] at h
 exact ⟨c, hc, (Option.some.inj h).symm⟩
/-- A middle switch is left at the outer switch of a line that has no call. -/
theorem some_left {O E M : Int} {cs : List Cl} (h : CallsOk O E M cs) (hEM : E ≤ M) (s : Bool) {x : Int} (hx : 0 ≤ x) (hf : ∀ c ∈ cs, (if s then c.2.1 else c.1) ≠ x) : ∃ m, 0 ≤ m ∧ m < M ∧ usedB E cs s (x / E) m = false := by
 refine Classical.byContradiction fun hno => ?_
 have hall : ∀ m : Nat, m < M.toNat → ∃ (k : Nat) (c : Cl), cs[k]? = some c ∧ swC E s c = x / E ∧ c.2.2 = m := by
  intro m hm
  have h1 : usedB E cs s (x / E) m = true := by
   cases hu : usedB E cs s (x / E) m with
   | true => rfl
   | false => exact absurd ⟨(m : Int), by omega, by omega, hu⟩ hno
  obtain ⟨c, hc, e1, e2⟩ := usedB_iff.1 h1
  obtain ⟨k, hk⟩ := List.mem_iff_getElem?.1 hc
  exact ⟨k, c, hk, e1, e2⟩
 have hE := h.sh.e
 let ln : Cl → Int := fun c => if s then c.2.1 else c.1
 have hln : ∀ c, swC E s c = ln c / E := by intro c; cases s <;> rfl
 have hdiff : ∀ (k1 k2 : Nat) (c1 c2 : Cl), cs[k1]? = some c1 → cs[k2]? = some c2 → ln c1 = ln c2 → k1 = k2 := by
  intro k1 k2 c1 c2 e1 e2 e3
  rcases Nat.lt_trichotomy k1 k2 with e | e | e
  ·
   have := h.apart k1 k2 c1 c2 e e1 e2
   cases s
   ·
    exact absurd e3 this.1
   ·
    exact absurd e3 this.2.1
  ·
   exact e
  ·
   have := h.apart k2 k1 c2 c1 e e2 e1
   cases s
   ·
    exact absurd e3.symm this.1
   ·
    exact absurd e3.symm this.2.1
 have hpos : ∀ (k : Nat) (c : Cl), cs[k]? = some c → 0 ≤ ln c := by
  intro k c hc
  have := h.at' k c hc
  cases s
  ·
   exact this.1.1
  ·
   exact this.2.1.1
 -- the lines of the calls through 0, 1, ..: as many as M, and x besides
 have hmain : ∀ n : Nat, n ≤ M.toNat → ∃ ls : List Nat, ls.length = n ∧ ls.Nodup ∧ ∀ l ∈ ls, l < E.toNat ∧ ∃ (k : Nat) (c : Cl), cs[k]? = some c ∧ swC E s c = x / E ∧ c.2.2 < n ∧ (l : Int) = ln c % E := by
  intro n
  induction n with
  | zero => intro _; exact ⟨[], rfl, List.nodup_nil, fun l hl => by simp at hl⟩
  | succ n ih =>
   intro hn
   obtain ⟨ls, h1, h2, h3⟩ := ih (by omega)
   obtain ⟨k, c, hc, e1, e2⟩ := hall n (by omega)
   have hm0 := Int.emod_nonneg (ln c) (show E ≠ 0 by omega)
   have hm1 := Int.emod_lt_of_pos (ln c) (show 0 < E by omega)
   refine ⟨(ln c % E).toNat :: ls, by simp [h1], ?_, ?_⟩
   ·
    rw [List.nodup_cons]
    refine ⟨fun hin => ?_, h2⟩
    obtain ⟨_, k2, c2, g1, g2, g3, g4⟩ := h3 _ hin
    have e3 : ln c = ln c2 := by
     have a1 := Int.mul_ediv_add_emod (ln c) E
     have a2 := Int.mul_ediv_add_emod (ln c2) E
     rw [← hln, e1] at a1
     rw [← hln, g2] at a2
     have g5 : ln c % E = ln c2 % E := by omega
     rw [← a1, ← a2, g5]
    have := hdiff k k2 c c2 hc g1 e3
    subst this
    rw [hc] at g1; cases g1
    omega
   ·
    intro l hl
    rcases List.mem_cons.1 hl with rfl | hl
    ·
     exact ⟨by omega, k, c, hc, e1, by omega, by omega⟩
    ·
     obtain ⟨g0, k2, c2, g1, g2, g3, g4⟩ := h3 l hl
     exact ⟨g0, k2, c2, g1, g2, by omega, g4⟩
 obtain ⟨ls, h1, h2, h3⟩ := hmain M.toNat (Nat.le_refl _)
 have hm0 := Int.emod_nonneg x (show E ≠ 0 by omega)
 have hm1 := Int.emod_lt_of_pos x (show 0 < E by omega)
 have h4 : ((x % E).toNat :: ls).Nodup := by
  rw [List.nodup_cons]
  refine ⟨fun hin => ?_, h2⟩
  obtain ⟨_, k2, c2, g1, g2, g3, g4⟩ := h3 _ hin
  have a1 := Int.mul_ediv_add_emod x E
  have a2 := Int.mul_ediv_add_emod (ln c2) E
  rw [← hln, g2] at a2
  have g5 : x % E = ln c2 % E := by omega
  have : ln c2 = x := by rw [← a1, ← a2, g5]
  exact hf c2 (List.mem_of_getElem? g1) this
 have h5 := nodup_len (n := E.toNat) h4 (fun k hk => by
  rcases List.mem_cons.1 hk with rfl | hk
  ·
   omega
  ·
   exact (h3 k hk).1)
 simp at h5
 omega
theorem firstL_some {O E M : Int} {cs : List Cl} (h : CallsOk O E M cs) (hEM : E ≤ M) (s : Bool) {x : Int} (hx : 0 ≤ x) (hf : ∀ c ∈ cs, (if s then c.2.1 else c.1) ≠ x) : 0 ≤ firstL E M cs s (x / E) ∧ firstL E M cs s (x / E) < M ∧ usedB E cs s (x / E) (firstL E M cs s (x / E)) = false := by
 obtain ⟨m, h1, h2, h3⟩ := some_left h hEM s hx hf
 have hM := h.sh.m
 unfold firstL
 cases hf : (mids M).find? fun m => !usedB E cs s (x / E) m with
 | none =>
  rw [List.find?_eq_none] at hf
  have := hf m ((mids_mem (by omega)).2 ⟨h1, h2⟩)
  simp [h3] at this
 | some k =>
  have g1 := List.find?_some hf
  have g2 := (mids_mem (by omega)).1 (List.mem_of_find?_eq_some hf)
  simp at g1 ⊢
  exact ⟨g2.1, g2.2, g1⟩
/-- Nobody who is free is refused. -/
theorem moveL_ok {O E M : Int} {cs : List Cl} (h : CallsOk O E M cs) (hEM : E ≤ M) {x y : Int} (hx : 0 ≤ x ∧ x < O * E) (hy : 0 ≤ y ∧ y < O * E) (hf : freeB cs x y) : CallsOk O E M (moveL E M cs x y) := by
 have hM := h.sh.m
 unfold moveL
 cases hfr : freeL E M cs x y with
 | cons m r =>
  have hm : m ∈ freeL E M cs x y := by rw [hfr]; simp
  unfold freeL at hm
  obtain ⟨m1, m2⟩ := List.mem_filter.1 hm
  simp only [Bool.and_eq_true, Bool.not_eq_true'] at m2
  have m3 := (mids_mem (by omega)).1 m1
  refine h.push hx hy m3 hf (fun c hc e e2 => ?_) (fun c hc e e2 => ?_)
  ·
   have := usedB_iff.2 ⟨c, hc, e, e2⟩
   rw [m2.1] at this; cases this
  ·
   have := usedB_iff.2 ⟨c, hc, e, e2⟩
   rw [m2.2] at this; cases this
 | nil =>
  simp only
  obtain ⟨a0, a1, a2⟩ := firstL_some h hEM false hx.1 (fun c hc => by simpa using (hf c hc).1)
  obtain ⟨b0, b1, b2⟩ := firstL_some h hEM true hy.1 (fun c hc => by simpa using (hf c hc).2)
  obtain ⟨a, ha⟩ : ∃ a, firstL E M cs false (x / E) = a := ⟨_, rfl⟩
  obtain ⟨b, hb⟩ : ∃ b, firstL E M cs true (y / E) = b := ⟨_, rfl⟩
  rw [ha] at a0 a1 a2
  rw [hb] at b0 b1 b2
  rw [ha, hb]
  have hab : a ≠ b := by
   intro e
   subst e
   have : a ∈ freeL E M cs x y := by
    unfold freeL
    rw [List.mem_filter]
    exact ⟨(mids_mem (by omega)).2 ⟨a0, a1⟩, by simp [a2, b2]⟩
   rw [hfr] at this; cases this
  have hU := h.uniq
  have hI : ∀ j, j < cs.length → swL E cs false j = x / E → viaL cs j ≠ a := by
   intro j hj e e2
   obtain ⟨c, hc⟩ : ∃ c, cs[j]? = some c := ⟨_, List.getElem?_eq_getElem hj⟩
   rw [swL_at hc] at e; rw [viaL_at hc] at e2
   have := usedB_iff.2 ⟨c, List.mem_of_getElem? hc, e, e2⟩
   rw [a2] at this; cases this
  have hO : ∀ j, j < cs.length → swL E cs true j = y / E → viaL cs j ≠ b := by
   intro j hj e e2
   obtain ⟨c, hc⟩ : ∃ c, cs[j]? = some c := ⟨_, List.getElem?_eq_getElem hj⟩
   rw [swL_at hc] at e; rw [viaL_at hc] at e2
   have := usedB_iff.2 ⟨c, List.mem_of_getElem? hc, e, e2⟩
   rw [b2] at this; cases this
  have hW : Whole cs.length (viaL cs) (swL E cs) a b (x / E) (y / E) (chainL E a b cs y) := chainK_whole hU hI _ _ _ _ _ (by simp) (chainK_first hO)
  obtain ⟨ch, hch⟩ : ∃ ch, chainL E a b cs y = ch := ⟨_, rfl⟩
  rw [hch] at hW ⊢
  have hU2 := hW.uniq hU
  have hI2 := hW.fromI hI
  have hO2 := hW.toO hab hO
  have hflip : CallsOk O E M (flipL a b ch cs) := by
   refine ⟨h.sh, fun k e he => ?_, fun j k d e hjk hd he => ?_⟩
   ·
    obtain ⟨c, hc, rfl⟩ := flipL_of he
    have h3 := h.at' k c hc
    refine ⟨h3.1, h3.2.1, ?_⟩
    show 0 ≤ flipK (viaL cs) a b ch k ∧ flipK (viaL cs) a b ch k < M
    unfold flipK
    split
    ·
     rename_i hk
     rcases (hW.col k hk).2 with e | e <;> rw [e] <;> omega
    ·
     rw [viaL_at hc]; exact h3.2.2
   ·
    obtain ⟨d', hd', rfl⟩ := flipL_of hd
    obtain ⟨c', hc', rfl⟩ := flipL_of he
    have h3 := h.apart j k d' c' hjk hd' hc'
    refine ⟨h3.1, h3.2.1, fun s hs e2 => ?_⟩
    have hs' : swL E cs s j = swL E cs s k := by rw [swL_at hd', swL_at hc']; exact hs
    have := hU2 s j k (List.getElem?_eq_some_iff.1 hd').1 (List.getElem?_eq_some_iff.1 hc').1 hs' e2
    omega
  refine hflip.push hx hy ⟨a0, a1⟩ (fun e he => ?_) (fun e he e1 => ?_) (fun e he e1 => ?_)
  ·
   obtain ⟨k, hk⟩ := List.mem_iff_getElem?.1 he
   obtain ⟨c, hc, rfl⟩ := flipL_of hk
   exact hf c (List.mem_of_getElem? hc)
  ·
   obtain ⟨k, hk⟩ := List.mem_iff_getElem?.1 he
   obtain ⟨c, hc, rfl⟩ := flipL_of hk
   exact hI2 k (List.getElem?_eq_some_iff.1 hc).1 (by rw [swL_at hc]; exact e1)
  ·
   obtain ⟨k, hk⟩ := List.mem_iff_getElem?.1 he
   obtain ⟨c, hc, rfl⟩ := flipL_of hk
   exact hO2 k (List.getElem?_eq_some_iff.1 hc).1 (by rw [swL_at hc]; exact e1)

end Go.Proofs.YtedadhoneebfnaaDoor

/- Plain facts on lists of calls: their cells, and valid calls step by step. No program in sight. -/
namespace Go.Proofs.YtedadhoneebfnaaDoor
open Go.RowKit

/-- The cells of calls. -/
def ccells (cs : List Cl) : List Value := cs.flatMap fun c => [.int .i64 c.1, .int .i64 c.2.1, .int .i64 c.2.2]
theorem ccells_at (cs : List Cl) : ∀ (k : Nat) (c : Cl), cs[k]? = some c → (ccells cs)[k * 3]? = some (.int .i64 c.1) ∧ (ccells cs)[k * 3 + 1]? = some (.int .i64 c.2.1) ∧ (ccells cs)[k * 3 + 2]? = some (.int .i64 c.2.2) := by
 induction cs with
 | nil => intro k r h; simp at h
 | cons x rs ih =>
  intro k r h
  cases k with
  | zero => simp at h; subst h; simp [ccells]
  | succ k =>
   have h' : rs[k]? = some r := by simpa using h
   have := ih k r h'
   rw [show (k + 1) * 3 = k * 3 + 3 by omega]
   simpa [ccells, List.flatMap_cons] using this
theorem ccells_app (xs ys : List Cl) : ccells (xs ++ ys) = ccells xs ++ ccells ys := by simp [ccells, List.flatMap_append]
theorem ccells_one (cs : List Cl) : ∀ u ∈ ccells cs, u.oneCell' = true := by
 intro u hu
 obtain ⟨c, _, hc⟩ := List.mem_flatMap.1 hu
 simp at hc
 rcases hc with rfl | rfl | rfl <;> rfl

def lnB (L x : Int) : Bool := decide (0 ≤ x) && decide (x < L)
def ClAt (L M : Int) (c : Cl) : Prop := (0 ≤ c.1 ∧ c.1 < L) ∧ (0 ≤ c.2.1 ∧ c.2.1 < L) ∧ 0 ≤ c.2.2 ∧ c.2.2 < M
def Apart (E : Int) (d c : Cl) : Prop := d.1 ≠ c.1 ∧ d.2.1 ≠ c.2.1 ∧ ∀ s, swC E s d = swC E s c → d.2.2 ≠ c.2.2
theorem apart_iff (E : Int) (d c : Cl) : Apart E d c ↔ d.1 ≠ c.1 ∧ d.2.1 ≠ c.2.1 ∧ ¬ (d.2.2 = c.2.2 ∧ (d.1 / E = c.1 / E ∨ d.2.1 / E = c.2.1 / E)) := by
 unfold Apart
 constructor
 ·
  rintro ⟨h1, h2, h3⟩
  refine ⟨h1, h2, fun ⟨e, h⟩ => ?_⟩
  rcases h with h | h
  ·
   exact h3 false h e
  ·
   exact h3 true h e
 ·
  rintro ⟨h1, h2, h3⟩
  refine ⟨h1, h2, fun s hs e => h3 ⟨e, ?_⟩⟩
  cases s
  ·
   exact .inl hs
  ·
   exact .inr hs
/-- The first k calls are in order. -/
def ClTo (L E M : Int) (cs : List Cl) (k : Nat) : Prop := (∀ i c, i < k → cs[i]? = some c → ClAt L M c) ∧ ∀ i j d c, i < j → j < k → cs[i]? = some d → cs[j]? = some c → Apart E d c
theorem ClTo.zero (L E M : Int) (cs : List Cl) : ClTo L E M cs 0 := ⟨fun i c h => absurd h (by omega), fun i j d c _ h => absurd h (by omega)⟩
theorem ClTo.step {L E M : Int} {cs : List Cl} {k : Nat} {c : Cl} (h : ClTo L E M cs k) (hc : cs[k]? = some c) (h1 : ClAt L M c) (h2 : ∀ i d, i < k → cs[i]? = some d → Apart E d c) : ClTo L E M cs (k + 1) := by
 refine ⟨fun i e hi he => ?_, fun i j d e hij hj hd he => ?_⟩
 ·
  by_cases hik : i = k
  ·
   subst hik; rw [hc] at he; cases he; exact h1
  ·
   exact h.1 i e (by omega) he
 ·
  by_cases hjk : j = k
  ·
   subst hjk; rw [hc] at he; cases he; exact h2 i d hij hd
  ·
   exact h.2 i j d e hij (by omega) hd he
theorem ClTo.all {O E M : Int} {cs : List Cl} (hs : ShapeOk O E M) (h : ClTo (O * E) E M cs cs.length) : CallsOk O E M cs :=
 ⟨hs, fun k c hc => h.1 k c (List.getElem?_eq_some_iff.1 hc).1 hc, fun j k d c hjk hd hc => h.2 j k d c hjk (List.getElem?_eq_some_iff.1 hc).1 hd hc⟩
def shapeB (O E M : Int) : Bool := ((decide (1 ≤ O) && decide (O ≤ 4)) && (decide (1 ≤ E) && decide (E ≤ 3))) && (decide (1 ≤ M) && decide (M ≤ 5))
theorem shapeB_iff (O E M : Int) : shapeB O E M = true ↔ ShapeOk O E M := by
 simp only [shapeB, Bool.and_eq_true, decide_eq_true_eq]
 exact ⟨fun h => ⟨h.1.1, h.1.2, h.2⟩, fun h => ⟨⟨h.o, h.e⟩, h.m⟩⟩
open Classical in
noncomputable def callsB (O E M : Int) (cs : List Cl) : Bool := decide (CallsOk O E M cs)
theorem callsB_iff (O E M : Int) (cs : List Cl) : callsB O E M cs = true ↔ CallsOk O E M cs := by simp [callsB]
theorem callsB_shape {O E M : Int} (cs : List Cl) (h : shapeB O E M = false) : callsB O E M cs = false := by
 cases hc : callsB O E M cs with
 | false => rfl
 | true => have := (shapeB_iff O E M).2 ((callsB_iff _ _ _ _).1 hc).sh; rw [h] at this; cases this
theorem callsB_at {O E M : Int} {cs : List Cl} {k : Nat} {c : Cl} (hc : cs[k]? = some c) (h : ¬ ClAt (O * E) M c) : callsB O E M cs = false := by
 cases hb : callsB O E M cs with
 | false => rfl
 | true => exact absurd (((callsB_iff _ _ _ _).1 hb).at' k c hc) h
theorem callsB_apart {O E M : Int} {cs : List Cl} {j k : Nat} {d c : Cl} (hjk : j < k) (hd : cs[j]? = some d) (hc : cs[k]? = some c) (h : ¬ Apart E d c) : callsB O E M cs = false := by
 cases hb : callsB O E M cs with
 | false => rfl
 | true => exact absurd (((callsB_iff _ _ _ _).1 hb).apart j k d c hjk hd hc) h

end Go.Proofs.YtedadhoneebfnaaDoor

/- Lists of deeds: their cells. -/
namespace Go.Proofs.YtedadhoneebfnaaDoor
open Go.RowKit

/-- A deed: kind, line, number. -/
abbrev Ded := Int × Int × ByteArray
def dcells (ds : List Ded) : List Value := ds.flatMap fun d => [.int .i64 d.1, .int .i64 d.2.1, .string d.2.2]
theorem dcells_len (ds : List Ded) : (dcells ds).length = ds.length * 3 := by
 induction ds with
 | nil => rfl
 | cons r rs ih => simp only [dcells, List.flatMap_cons, List.length_append] at ih ⊢; simp [ih]; omega
theorem dcells_at (ds : List Ded) : ∀ (k : Nat) (d : Ded), ds[k]? = some d → (dcells ds)[k * 3]? = some (.int .i64 d.1) ∧ (dcells ds)[k * 3 + 1]? = some (.int .i64 d.2.1) ∧ (dcells ds)[k * 3 + 2]? = some (.string d.2.2) := by
 induction ds with
 | nil => intro k r h; simp at h
 | cons x rs ih =>
  intro k r h
  cases k with
  | zero => simp at h; subst h; simp [dcells]
  | succ k =>
   have h' : rs[k]? = some r := by simpa using h
   have := ih k r h'
   rw [show (k + 1) * 3 = k * 3 + 3 by omega]
   simpa [dcells, List.flatMap_cons] using this
theorem dcells_app (xs ys : List Ded) : dcells (xs ++ ys) = dcells xs ++ dcells ys := by simp [dcells, List.flatMap_append]
theorem dcells_set (ds : List Ded) : ∀ (k : Nat) (c : Ded), k < ds.length → (((dcells ds).set (k * 3) (.int .i64 c.1)).set (k * 3 + 1) (.int .i64 c.2.1)).set (k * 3 + 2) (.string c.2.2) = dcells (ds.set k c) := by
 induction ds with
 | nil => intro k r h; simp at h
 | cons x rs ih =>
  intro k r h
  cases k with
  | zero => simp [dcells]
  | succ k =>
   rw [show (k + 1) * 3 = k * 3 + 3 by omega]
   have := ih k r (by simpa using h)
   simpa [dcells, List.flatMap_cons] using this
theorem dcells_zero (n : Nat) : (madeCells (Value.agg #[.int .i64 0, .int .i64 0, .string ByteArray.empty]).cells (n * 3)).toList = dcells (List.replicate n (0, 0, ByteArray.empty)) := by
 apply List.ext_getElem?
 intro i
 by_cases hi : i < n * 3
 ·
  obtain ⟨k, hk⟩ : ∃ k, i / 3 = k := ⟨_, rfl⟩
  have hkn : k < n := by omega
  have hr : (List.replicate n ((0, 0, ByteArray.empty) : Ded))[k]? = some (0, 0, ByteArray.empty) := by simp [hkn]
  obtain ⟨g1, g2, g3⟩ := dcells_at _ k _ hr
  have h3 : i % 3 = 0 ∨ i % 3 = 1 ∨ i % 3 = 2 := by omega
  rcases h3 with h | h | h
  ·
   obtain rfl : i = k * 3 := by omega
   rw [g1]; simp [madeCells, Value.cells, hi]
  ·
   obtain rfl : i = k * 3 + 1 := by omega
   rw [g2]; simp [madeCells, Value.cells, hi, Nat.mul_add_mod]
  ·
   obtain rfl : i = k * 3 + 2 := by omega
   rw [g3]; simp [madeCells, Value.cells, hi, Nat.mul_add_mod]
 ·
  rw [List.getElem?_eq_none (by simp [madeCells]; omega), List.getElem?_eq_none (by rw [dcells_len]; simp; omega)]
def DdLen (ds : List Ded) : Prop := ∀ (k : Nat) (d : Ded), ds[k]? = some d → d.2.2.size ≤ maxLen

end Go.Proofs.YtedadhoneebfnaaDoor

/- Exchanges in memory: what is owned, and how it is carried on. -/
namespace Go.Proofs.YtedadhoneebfnaaDoor
open Go.RowKit

theorem Blk.five {w : World} {b : Nat} {x0 x1 x2 x3 x4 : Value} {T : TypeId} (h : Blk w b #[x0, x1, x2, x3, x4] T) : w.cell? ⟨b, 0, none⟩ = some x0 ∧ w.cell? ⟨b, 1, none⟩ = some x1 ∧ w.cell? ⟨b, 2, none⟩ = some x2 ∧ w.cell? ⟨b, 3, none⟩ = some x3 ∧ w.cell? ⟨b, 4, none⟩ = some x4 ∧ w.frozen? ⟨b, 0, none⟩ = false ∧ w.frozen? ⟨b, 1, none⟩ = false ∧ w.frozen? ⟨b, 2, none⟩ = false ∧ w.frozen? ⟨b, 3, none⟩ = false ∧ w.frozen? ⟨b, 4, none⟩ = false ∧ b < w.heap.size :=
 ⟨h.at 0, h.at 1, h.at 2, h.at 3, h.at 4, h.free 0, h.free 1, h.free 2, h.free 3, h.free 4, h.lt⟩
/-- The plan and the calls of an exchange are owned, apart from each other. -/
structure ExOwn (w : World) (base : Nat) (vp vc : Value) (ps : List ByteArray) (cs : List Cl) : Prop where
 plan : w.ownsRow base 9 1 vp ps.length (strs ps)
 calls : w.ownsRow base 93 3 vc cs.length (ccells cs)
 apart : vp.ownBlock = none ∨ vp.ownBlock ≠ vc.ownBlock
/-- The plan and the calls read. -/
structure ExRd (w : World) (vp vc : Value) (ps : List ByteArray) (cs : List Cl) : Prop where
 plan : Rds w vp ps.length 1 (strs ps)
 calls : Rds w vc cs.length 3 (ccells cs)
section
variable {w w' : World} {base : Nat} {vp vc : Value} {ps : List ByteArray} {cs : List Cl}
theorem ExOwn.rd (h : ExOwn w base vp vc ps cs) : ExRd w vp vc ps cs := ⟨Rds.ofOwns h.plan, Rds.ofOwns h.calls⟩
theorem ExOwn.below (hb : Below w.heap.size w w') (h : ExOwn w base vp vc ps cs) : ExOwn w' base vp vc ps cs := ⟨owns_below hb h.plan, owns_below hb h.calls, h.apart⟩
theorem ExOwn.lower {base' : Nat} (hb : base' ≤ base) (h : ExOwn w base vp vc ps cs) : ExOwn w base' vp vc ps cs := ⟨owns_base hb h.plan, owns_base hb h.calls, h.apart⟩
theorem ExRd.below (hb : Below w.heap.size w w') (h : ExRd w vp vc ps cs) : ExRd w' vp vc ps cs := ⟨h.plan.below hb, h.calls.below hb⟩
theorem ExRd.drewN (k : Nat) (h : ExRd w vp vc ps cs) : ExRd (w.drewN k) vp vc ps cs := ⟨h.plan.drewN k, h.calls.drewN k⟩
theorem ExOwn.drewN (k : Nat) (h : ExOwn w base vp vc ps cs) : ExOwn (w.drewN k) base vp vc ps cs := ⟨h.plan, h.calls, h.apart⟩
theorem ExOwn.nothing (w : World) (base : Nat) : ExOwn w base (.slice none 0 0) (.slice none 0 0) [] [] := ⟨World.ownsRow_nil _ _ _ _, World.ownsRow_nil _ _ _ _, .inl rfl⟩
/-- One block alone was written, which is none of these. -/
theorem ExOwn.kept {r : Option Nat} (hg : w.grownBy w' r) (h1 : vp.ownBlock = Option.none ∨ vp.ownBlock ≠ r) (h2 : vc.ownBlock = Option.none ∨ vc.ownBlock ≠ r) (h : ExOwn w base vp vc ps cs) : ExOwn w' base vp vc ps cs :=
 ⟨h.plan.kept hg h1, h.calls.kept hg h2, h.apart⟩
/-- Two blocks alone may have been written. -/
def Gb2 (w w' : World) (r1 r2 : Option Nat) : Prop := ∃ wm, w.grownBy wm r1 ∧ wm.grownBy w' r2
theorem Gb2.below {B : Nat} {w0 : World} {r1 r2 : Option Nat} (h : Gb2 w w' r1 r2) (hB : B ≤ w.heap.size) (h1 : ∀ k, r1 = some k → B ≤ k) (h2 : ∀ k, r2 = some k → B ≤ k) (hb : Below B w0 w) : Below B w0 w' := by
 obtain ⟨wm, g1, g2⟩ := h
 exact (hb.grown g1 hB h1).grown g2 (Nat.le_trans hB g1.size) h2
theorem Gb2.size {r1 r2 : Option Nat} (h : Gb2 w w' r1 r2) : w.heap.size ≤ w'.heap.size := by
 obtain ⟨wm, g1, g2⟩ := h
 exact Nat.le_trans g1.size g2.size
end
/-- Slices of strings, each as long as there may be. -/
theorem StLen.set {ps : List ByteArray} (h : StLen ps) (k : Nat) {s : ByteArray} (hs : s.size ≤ maxLen) : StLen (ps.set k s) := by
 intro j t ht
 rw [List.getElem?_set] at ht
 split at ht
 ·
  split at ht
  ·
   cases ht; exact hs
  ·
   cases ht
 ·
  exact h j t ht

end Go.Proofs.YtedadhoneebfnaaDoor

/- Exchanges, plain: when they are valid, who is connected with whom, deeds. No program in sight. -/
namespace Go.Proofs.YtedadhoneebfnaaDoor

/-- No line is the input of a call and the output of a call. -/
def PartOk (cs : List Cl) : Prop := ∀ c ∈ cs, ∀ d ∈ cs, c.1 ≠ d.2.1
structure ExOk (O E M : Int) (ps : List ByteArray) (cs : List Cl) : Prop where
 calls : CallsOk O E M cs
 en : E ≤ M
 plan : PlanOk ps
 len : (ps.length : Int) = O * E
 part : PartOk cs
open Classical in
noncomputable def exB (O E M : Int) (ps : List ByteArray) (cs : List Cl) : Bool := decide (ExOk O E M ps cs)
theorem exB_iff (O E M : Int) (ps : List ByteArray) (cs : List Cl) : exB O E M ps cs = true ↔ ExOk O E M ps cs := by simp [exB]
theorem exB_no {O E M : Int} {ps : List ByteArray} {cs : List Cl} (h : ¬ ExOk O E M ps cs) : exB O E M ps cs = false := by
 rw [Bool.eq_false_iff]; exact fun e => h ((exB_iff _ _ _ _ _).1 e)
theorem ExOk.lines {O E M : Int} {ps : List ByteArray} {cs : List Cl} (h : ExOk O E M ps cs) : 1 ≤ ps.length ∧ ps.length ≤ 10 := by
 have ho := h.calls.sh.o
 have he := h.calls.sh.e
 have h1 : 1 * 1 ≤ O * E := Int.le_trans (Int.mul_le_mul_of_nonneg_right ho.1 (by omega)) (Int.mul_le_mul_of_nonneg_left he.1 (by omega))
 have h2 := h.len
 exact ⟨by omega, h.plan.1⟩
/-- There are as many calls as lines at most. -/
theorem nodupI_len : ∀ {n : Nat} {xs : List Int}, xs.Nodup → (∀ x ∈ xs, 0 ≤ x ∧ x < n) → xs.length ≤ n := by
 intro n xs h hl
 have h1 : (xs.map Int.toNat).Nodup := by
  rw [List.nodup_iff_pairwise_ne, List.pairwise_map]
  refine List.Pairwise.imp_of_mem ?_ (List.nodup_iff_pairwise_ne.1 h)
  intro a b ha hb hab e
  have := hl a ha; have := hl b hb; omega
 have := nodup_len (n := n) h1 (fun k hk => by
  obtain ⟨x, hx, rfl⟩ := List.mem_map.1 hk
  have := hl x hx; omega)
 simpa using this
theorem CallsOk.ins {O E M : Int} {cs : List Cl} (h : CallsOk O E M cs) : (cs.map (·.1)).Nodup ∧ (cs.map (·.2.1)).Nodup := by
 have hp : cs.Pairwise fun d c => d.1 ≠ c.1 ∧ d.2.1 ≠ c.2.1 := by
  rw [List.pairwise_iff_getElem]
  intro i j hi hj hij
  have := h.apart i j cs[i] cs[j] hij (List.getElem?_eq_getElem hi) (List.getElem?_eq_getElem hj)
  exact ⟨this.1, this.2.1⟩
 constructor
 ·
  rw [List.nodup_iff_pairwise_ne, List.pairwise_map]; exact hp.imp fun h => h.1
 ·
  rw [List.nodup_iff_pairwise_ne, List.pairwise_map]; exact hp.imp fun h => h.2
theorem CallsOk.mem {O E M : Int} {cs : List Cl} (h : CallsOk O E M cs) {c : Cl} (hc : c ∈ cs) : (0 ≤ c.1 ∧ c.1 < O * E) ∧ (0 ≤ c.2.1 ∧ c.2.1 < O * E) ∧ 0 ≤ c.2.2 ∧ c.2.2 < M := by
 obtain ⟨k, hk⟩ := List.mem_iff_getElem?.1 hc
 exact h.at' k c hk
theorem CallsOk.count {O E M : Int} {cs : List Cl} (h : CallsOk O E M cs) (hOE : O * E ≤ 12) : cs.length ≤ 12 := by
 have h1 := nodupI_len (n := 12) h.ins.1 (fun x hx => by
  obtain ⟨c, hc, rfl⟩ := List.mem_map.1 hx
  have := h.mem hc; omega)
 simpa using h1
theorem CallsOk.one {O E M : Int} {cs : List Cl} (h : CallsOk O E M cs) {c d : Cl} (hc : c ∈ cs) (hd : d ∈ cs) (e : c.1 = d.1 ∨ c.2.1 = d.2.1) : c = d := by
 obtain ⟨j, hj⟩ := List.mem_iff_getElem?.1 hc
 obtain ⟨k, hk⟩ := List.mem_iff_getElem?.1 hd
 rcases Nat.lt_trichotomy j k with h1 | h1 | h1
 ·
  have := h.apart j k c d h1 hj hk
  rcases e with e | e
  ·
   exact absurd e this.1
  ·
   exact absurd e this.2.1
 ·
  subst h1; rw [hj] at hk; exact Option.some.inj hk
 ·
  have := h.apart k j d c h1 hk hj
  rcases e with e | e
  ·
   exact absurd e.symm this.1
  ·
   exact absurd e.symm this.2.1

/-! Which lines are engaged by the first k calls. -/
def engB (cs : List Cl) (k : Nat) (x : Int) : Bool := (cs.take k).any fun c => decide (c.1 = x) || decide (c.2.1 = x)
theorem engB_mem {cs : List Cl} {k : Nat} {x : Int} : engB cs k x = true ↔ ∃ j c, j < k ∧ cs[j]? = some c ∧ (c.1 = x ∨ c.2.1 = x) := by
 simp only [engB, List.any_eq_true, Bool.or_eq_true, decide_eq_true_eq]
 constructor
 ·
  rintro ⟨c, hc, h⟩
  obtain ⟨j, hj⟩ := List.mem_iff_getElem?.1 hc
  have hl := (List.getElem?_eq_some_iff.1 hj).1
  rw [List.length_take] at hl
  rw [List.getElem?_take_of_lt (by omega)] at hj
  exact ⟨j, c, by omega, hj, h⟩
 ·
  rintro ⟨j, c, hjk, hj, h⟩
  exact ⟨c, List.mem_of_getElem? (by rw [List.getElem?_take_of_lt hjk]; exact hj), h⟩
/-- The first k calls are apart. -/
def PartTo (cs : List Cl) (k : Nat) : Prop := ∀ i j c d, i < k → j < k → cs[i]? = some c → cs[j]? = some d → c.1 ≠ d.2.1
theorem PartTo.zero (cs : List Cl) : PartTo cs 0 := fun i j c d h => absurd h (by omega)
theorem PartTo.all {cs : List Cl} (h : PartTo cs cs.length) : PartOk cs := by
 intro c hc d hd
 obtain ⟨i, hi⟩ := List.mem_iff_getElem?.1 hc
 obtain ⟨j, hj⟩ := List.mem_iff_getElem?.1 hd
 exact h i j c d (List.getElem?_eq_some_iff.1 hi).1 (List.getElem?_eq_some_iff.1 hj).1 hi hj
theorem PartTo.step {cs : List Cl} {k : Nat} {c : Cl} (h : PartTo cs k) (hc : cs[k]? = some c) (h1 : c.1 ≠ c.2.1) (h2 : engB cs k c.1 = false) (h3 : engB cs k c.2.1 = false) : PartTo cs (k + 1) := by
 intro i j x y hi hj hx hy e
 have n2 : ∀ i x, i < k → cs[i]? = some x → x.2.1 ≠ c.1 := fun i x hi hx e => by
  have := engB_mem.2 ⟨i, x, hi, hx, .inr e⟩; rw [h2] at this; cases this
 have n3 : ∀ i x, i < k → cs[i]? = some x → x.1 ≠ c.2.1 := fun i x hi hx e => by
  have := engB_mem.2 ⟨i, x, hi, hx, .inl e⟩; rw [h3] at this; cases this
 by_cases hik : i = k
 ·
  subst hik
  rw [hc] at hx; cases hx
  by_cases hjk : j = i
  ·
   subst hjk; rw [hc] at hy; cases hy; exact h1 e
  ·
   exact n2 j y (by omega) hy e.symm
 ·
  by_cases hjk : j = k
  ·
   subst hjk; rw [hc] at hy; cases hy; exact n3 i x (by omega) hx e
  ·
   exact h i j x y (by omega) (by omega) hx hy e
theorem part_no {O E M : Int} {ps : List ByteArray} {cs : List Cl} {c d : Cl} (hc : c ∈ cs) (hd : d ∈ cs) (e : c.1 = d.2.1) : exB O E M ps cs = false :=
 exB_no fun h => h.part c hc d hd e
/-- The reference: for the first k calls, with the first j ones. -/
def SprTo (cs : List Cl) (k : Nat) : Prop := ∀ (i j : Nat) (c d : Cl), i < k → cs[i]? = some c → cs[j]? = some d → c.1 ≠ d.2.1
theorem SprTo.all {cs : List Cl} (h : SprTo cs cs.length) : PartOk cs := by
 intro c hc d hd
 obtain ⟨i, hi⟩ := List.mem_iff_getElem?.1 hc
 obtain ⟨j, hj⟩ := List.mem_iff_getElem?.1 hd
 exact h i j c d (List.getElem?_eq_some_iff.1 hi).1 hi hj

/-! Who is connected with whom. -/
def hasE (x : Int) (c : Cl) : Bool := decide (c.1 = x) || decide (c.2.1 = x)
def peerL (cs : List Cl) (x : Int) : Int := match cs.find? (hasE x) with
 | some c => c.1 + c.2.1 - x
 | none => -1
def noneTo (cs : List Cl) (x : Int) (k : Nat) : Prop := ∀ j c, j < k → cs[j]? = some c → hasE x c = false
theorem find_at {cs : List Cl} {x : Int} {k : Nat} {c : Cl} (h : noneTo cs x k) (hc : cs[k]? = some c) (h1 : hasE x c = true) : cs.find? (hasE x) = some c := by
 rw [List.find?_eq_some_iff_getElem]
 obtain ⟨hk, rfl⟩ := List.getElem?_eq_some_iff.1 hc
 refine ⟨h1, k, hk, rfl, fun j hj => ?_⟩
 have := h j cs[j] hj (List.getElem?_eq_getElem (by omega))
 simp [this]
theorem find_none {cs : List Cl} {x : Int} (h : noneTo cs x cs.length) : cs.find? (hasE x) = none := by
 rw [List.find?_eq_none]
 intro c hc
 obtain ⟨j, hj⟩ := List.mem_iff_getElem?.1 hc
 rw [h j c (List.getElem?_eq_some_iff.1 hj).1 hj]; simp
theorem noneTo.succ {cs : List Cl} {x : Int} {k : Nat} {c : Cl} (h : noneTo cs x k) (hc : cs[k]? = some c) (h1 : hasE x c = false) : noneTo cs x (k + 1) := by
 intro j d hj hd
 by_cases e : j = k
 ·
  subst e; rw [hc] at hd; cases hd; exact h1
 ·
  exact h j d (by omega) hd
theorem peer_some {cs : List Cl} {x : Int} {c : Cl} (h : cs.find? (hasE x) = some c) : peerL cs x = c.1 + c.2.1 - x := by simp [peerL, h]
theorem peer_none {cs : List Cl} {x : Int} (h : cs.find? (hasE x) = none) : peerL cs x = -1 := by simp [peerL, h]
theorem peer_neg {O E M : Int} {cs : List Cl} (hok : CallsOk O E M cs) (x : Int) : peerL cs x = -1 ∧ cs.find? (hasE x) = none ∨ ∃ c, cs.find? (hasE x) = some c ∧ c ∈ cs ∧ (c.1 = x ∧ peerL cs x = c.2.1 ∨ c.2.1 = x ∧ peerL cs x = c.1) ∧ 0 ≤ peerL cs x ∧ peerL cs x < O * E := by
 cases h : cs.find? (hasE x) with
 | none => exact .inl ⟨peer_none h, rfl⟩
 | some c =>
  have hm := List.mem_of_find?_eq_some h
  have h1 := List.find?_some h
  have h2 := hok.mem hm
  have h3 := peer_some h
  simp only [hasE, Bool.or_eq_true, decide_eq_true_eq] at h1
  refine .inr ⟨c, rfl, hm, ?_, ?_, ?_⟩
  ·
   rcases h1 with h1 | h1
   ·
    exact .inl ⟨h1, by omega⟩
   ·
    exact .inr ⟨h1, by omega⟩
  ·
   omega
  ·
   omega
/-- The place of a number in a plan. -/
def lineL (ps : List ByteArray) (s : ByteArray) : Int := match ps.findIdx? fun p => decide (p = s) with
 | some k => (k : Int)
 | none => -1
def neTo (ps : List ByteArray) (s : ByteArray) (k : Nat) : Prop := ∀ j p, j < k → ps[j]? = some p → p ≠ s
theorem line_at {ps : List ByteArray} {s : ByteArray} {k : Nat} (h : neTo ps s k) (hk : ps[k]? = some s) : lineL ps s = k := by
 have : (ps.findIdx? fun p => decide (p = s)) = some k := by
  rw [List.findIdx?_eq_some_iff_getElem]
  obtain ⟨hl, e⟩ := List.getElem?_eq_some_iff.1 hk
  refine ⟨hl, by simp [e], fun j hj => ?_⟩
  have := h j ps[j] hj (List.getElem?_eq_getElem (by omega))
  simpa using this
 simp [lineL, this]
theorem line_none {ps : List ByteArray} {s : ByteArray} (h : neTo ps s ps.length) : lineL ps s = -1 := by
 have : (ps.findIdx? fun p => decide (p = s)) = none := by
  rw [List.findIdx?_eq_none_iff]
  intro p hp
  obtain ⟨j, hj⟩ := List.mem_iff_getElem?.1 hp
  have := h j p (List.getElem?_eq_some_iff.1 hj).1 hj
  simpa using this
 simp [lineL, this]
theorem line_is {ps : List ByteArray} {s : ByteArray} : lineL ps s = -1 ∧ neTo ps s ps.length ∨ ∃ k : Nat, lineL ps s = k ∧ ps[k]? = some s ∧ neTo ps s k := by
 cases h : (ps.findIdx? fun p => decide (p = s)) with
 | none =>
  refine .inl ⟨by simp [lineL, h], fun j p _ hp e => ?_⟩
  rw [List.findIdx?_eq_none_iff] at h
  have := h p (List.mem_of_getElem? hp)
  simp [e] at this
 | some k =>
  refine .inr ⟨k, by simp [lineL, h], ?_⟩
  rw [List.findIdx?_eq_some_iff_getElem] at h
  obtain ⟨hl, e, hj⟩ := h
  simp at e
  refine ⟨by rw [List.getElem?_eq_getElem hl, e], fun j p hjk hp e2 => ?_⟩
  obtain ⟨hl2, rfl⟩ := List.getElem?_eq_some_iff.1 hp
  have := hj j hjk
  simp [e2] at this

end Go.Proofs.YtedadhoneebfnaaDoor

/- Contracts on shapes (program and reference): ShapeValid, Enough, hasLine, l4Lines. -/
namespace Go.Proofs.YtedadhoneebfnaaDoor
open Go.RowKit

def enoughB (O E M : Int) : Bool := shapeB O E M && decide (E ≤ M)

set_option maxHeartbeats 1000000 in
theorem sShapeValid_any (O E M : Int) (w : World) :
  Calls Tryd.prog 100 #[.agg #[.int .i64 O, .int .i64 E, .int .i64 M]] w fun e w' => e = .returned (.bool (shapeB O E M)) ∧ Below w.heap.size w w' := by
 have HS : Hid ((((decide (1 ≤ O) && decide (O ≤ 4)) && (decide (1 ≤ E) && decide (E ≤ 3))) && (decide (1 ≤ M) && decide (M ≤ 5))) = shapeB O E M) := rfl
 go_enter Tryd.func100, Tryd.ntmps100
 go_wp2_with fail
 refine (sIn_any _ _ _ _).mono ?_
 rintro e w1 ⟨rfl, rfl⟩
 obtain ⟨d1, hd1⟩ : ∃ d, (decide (1 ≤ O) && decide (O ≤ 4)) = d := ⟨_, rfl⟩
 have HS1 : Hid (((d1 && (decide (1 ≤ E) && decide (E ≤ 3))) && (decide (1 ≤ M) && decide (M ≤ 5))) = shapeB O E M) := by rw [← hd1]; exact HS.out
 rw [hd1]
 clear hd1 HS
 cases d1
 ·
  go_wp2
  go_returns
  exact ⟨by rw [← HS1.out]; rfl, by (exact grownA)⟩
 ·
  go_wp2_with fail
  refine (sIn_any _ _ _ _).mono ?_
  rintro e w1 ⟨rfl, rfl⟩
  obtain ⟨d1, hd1⟩ : ∃ d, (decide (1 ≤ E) && decide (E ≤ 3)) = d := ⟨_, rfl⟩
  have HS2 : Hid (((true && d1) && (decide (1 ≤ M) && decide (M ≤ 5))) = shapeB O E M) := by rw [← hd1]; exact HS1.out
  rw [hd1]
  clear hd1 HS1
  cases d1
  ·
   go_wp2
   go_returns
   exact ⟨by rw [← HS2.out]; rfl, by (exact grownA)⟩
  ·
   go_wp2_with fail
   refine (sIn_any _ _ _ _).mono ?_
   rintro e w1 ⟨rfl, rfl⟩
   have HS3 : Hid ((decide (1 ≤ M) && decide (M ≤ 5)) = shapeB O E M) := by have := HS2.out; unfold Hid; simpa using this
   rw [HS3.out]
   clear HS2
   go_wp2
   go_returns
   exact ⟨rfl, by (exact grownA)⟩

set_option maxHeartbeats 1000000 in
theorem sEnough_any (O E M : Int) (w : World) :
  Calls Tryd.prog 84 #[.agg #[.int .i64 O, .int .i64 E, .int .i64 M]] w fun e w' => e = .returned (.bool (enoughB O E M)) ∧ Below w.heap.size w w' := by
 have hB := Blk.new (w := w) (cs := #[.int .i64 O, .int .i64 E, .int .i64 M]) (T := 71) rfl
 obtain ⟨d, hd⟩ : ∃ d, shapeB O E M = d := ⟨_, rfl⟩
 have HD := Lib.hid hd
 clear hd
 go_enter Tryd.func84, Tryd.ntmps84
 go_wp2_with fail
 refine (sShapeValid_any _ _ _ _).mono ?_
 rintro e w1 ⟨rfl, hb⟩
 have hB1 := hB.below hb (by simp)
 obtain ⟨c1, c2, c3, f1, f2, f3, hlt⟩ := hB1.three
 rw [HD.out]
 have hbel : Below w.heap.size w w1 := by (exact grownA)
 clear hB hB1
 cases d
 ·
  have HF : Hid (enoughB O E M = false) := by simp [Hid, enoughB, HD.out]
  go_wp2
  go_returns
  exact ⟨by rw [HF.out]; rfl, hbel⟩
 ·
  have HF : Hid (enoughB O E M = decide (E ≤ M)) := by simp [Hid, enoughB, HD.out]
  go_wp2
  go_returns
  exact ⟨by rw [HF.out]; rfl, hbel⟩

set_option maxHeartbeats 1000000 in
theorem l4Lines_any (O E M : Int) (w : World) (h : ShapeOk O E M) :
  Calls Tryd.prog 85 #[.agg #[.int .i64 O, .int .i64 E, .int .i64 M]] w fun e w' => e = .returned (.int .i64 (O * E)) ∧ Below w.heap.size w w' := by
 have ho := h.o
 have he := h.e
 have hm0 : 0 ≤ O * E := Int.mul_nonneg (by omega) (by omega)
 have hm1 : O * E ≤ 4 * 3 := Int.le_trans (Int.mul_le_mul_of_nonneg_right ho.2 (by omega)) (Int.mul_le_mul_of_nonneg_left he.2 (by omega))
 have hw : IntKind.i64.wrap (O * E) = O * E := IntWalk.i64_in _ (by omega)
 clear h hm0 hm1
 go_enter Tryd.func85, Tryd.ntmps85
 go_wp2
 go_returns
 exact ⟨rfl, by (exact grownA)⟩

end Go.Proofs.YtedadhoneebfnaaDoor
