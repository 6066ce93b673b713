/- Joined texts: DoQ, La, Ln, Cc, Step, Ex, Shp, Cv, Q. -/
import Derived.Test.YtedadhoneebfnaaGreatDoorJ4
import Derived.Test.YtedadhoneebfnaaGreatDoorJ2
import Derived.Lib.Join
import Derived.Test.YtedadhoneebfnaaGreatDoorJ3
import Derived.Test.YtedadhoneebfnaaGreatDoorLib
import Derived.Deep.AppendLies
import Derived.Test.YtedadhoneebfnaaGreatDoorJ1
import Derived.Test.YtedadhoneebfnaaGreatDoorRows
import Derived.Handy
import Derived.IntWalk
import Derived.Deep.QuietTactic
import Derived.BigQuiet
set_option linter.unusedSimpArgs false
set_option linter.unusedVariables false
/- What a deed does to the others, plain. No program in sight. -/
namespace Go.Proofs.YtedadhoneebfnaaGreatDoor

end Go.Proofs.YtedadhoneebfnaaGreatDoor

/- What the laws on exchanges ask, plain. No program in sight. -/
namespace Go.Proofs.YtedadhoneebfnaaGreatDoor

end Go.Proofs.YtedadhoneebfnaaGreatDoor

/- Lines said to an exchange, plain: what they do, and what is answered. No program in sight. -/
namespace Go.Proofs.YtedadhoneebfnaaGreatDoor

def wcalls : List UInt8 := [99, 97, 108, 108, 115]
def wplan : List UInt8 := [112, 108, 97, 110]
def wnight : List UInt8 := [110, 105, 103, 104, 116]
def wwho : List UInt8 := [119, 104, 111]
def wvia : List UInt8 := [118, 105, 97]
def aok : ByteArray := ⟨#[111, 107]⟩
def ano : ByteArray := ⟨#[110, 111]⟩
def awrong : ByteArray := ⟨#[119, 114, 111, 110, 103]⟩
def abusy : ByteArray := ⟨#[98, 117, 115, 121]⟩
def awhat : ByteArray := ⟨#[119, 104, 97, 116]⟩
def anone : ByteArray := ⟨#[110, 111, 110, 101]⟩
def joinP (ps : List ByteArray) : ByteArray := ba (Lib.join (ps.map tl) [44])
/-- What is answered to a question. -/
def ansL (ps : List ByteArray) (cs : List Cl) (l : List UInt8) : ByteArray :=
 if l = wcalls then two cs.length
 else if l = wplan then joinP ps
 else match readL 4 (aft 32 l) with
  | none => awhat
  | some n => if bef 32 l = wwho ∨ bef 32 l = wvia then
    (match cs.find? (hasE n) with
     | none => anone
     | some c => if bef 32 l = wvia then two c.2.2.toNat else two (peerL cs n).toNat) else awhat
/-- What is answered to a deed that was not done. -/
noncomputable def notL (ps : List ByteArray) (d : Ded) : ByteArray := if d.1 ≠ 0 ∨ (ps.length : Int) ≤ d.2.1 then ano else if lineL ps d.2.2 < 0 then awrong else abusy
noncomputable def sayL (E M : Int) (ps : List ByteArray) (cs : List Cl) (d : Ded) : (List ByteArray × List Cl) × ByteArray :=
 match doL E M ps cs d.1 d.2.1 d.2.2 with
 | some y => (y, aok)
 | none => ((ps, cs), notL ps d)
noncomputable def lineQ (E M : Int) (ps : List ByteArray) (cs : List Cl) (s : ByteArray) : (List ByteArray × List Cl) × ByteArray :=
 if (rdeed s).2 = true then sayL E M ps cs (rdeed s).1
 else if tl s = wnight then ((ps, []), aok)
 else ((ps, cs), ansL ps cs (tl s))
noncomputable def lineR (O E M : Int) (ps : List ByteArray) (cs : List Cl) (s : ByteArray) : (Int × Int × Int) × (List ByteArray × List Cl) × ByteArray :=
 if exB O E M ps cs = true then ((O, E, M), lineQ E M ps cs s) else ((0, 0, 0), ([], []), ⟨#[]⟩)
theorem lineR_yes {O E M : Int} {ps : List ByteArray} {cs : List Cl} (s : ByteArray) (h : exB O E M ps cs = true) : lineR O E M ps cs s = ((O, E, M), lineQ E M ps cs s) := by unfold lineR; rw [if_pos h]
theorem lineR_no {O E M : Int} {ps : List ByteArray} {cs : List Cl} (s : ByteArray) (h : exB O E M ps cs = false) : lineR O E M ps cs s = ((0, 0, 0), ([], []), ⟨#[]⟩) := by unfold lineR; rw [if_neg (by simp [h])]
theorem say_ok {O E M : Int} {ps : List ByteArray} {cs : List Cl} (h : ExOk O E M ps cs) (d : Ded) : ExOk O E M (sayL E M ps cs d).1.1 (sayL E M ps cs d).1.2 := by
 unfold sayL
 split
 ·
  rename_i y hy; exact do_ok h hy
 ·
  exact h
theorem line_ok {O E M : Int} {ps : List ByteArray} {cs : List Cl} (h : ExOk O E M ps cs) (s : ByteArray) : ExOk O E M (lineQ E M ps cs s).1.1 (lineQ E M ps cs s).1.2 := by
 unfold lineQ
 split
 ·
  exact say_ok h _
 ·
  split
  ·
   exact h.bare
  ·
   exact h
/-- Unless the answer is ok nothing has changed. -/
theorem line_same {E M : Int} {ps : List ByteArray} {cs : List Cl} (s : ByteArray) (h : (lineQ E M ps cs s).2 ≠ aok) : (lineQ E M ps cs s).1 = (ps, cs) := by
 unfold lineQ at h ⊢
 split at h
 ·
  rename_i hr
  rw [if_pos hr]
  unfold sayL at h ⊢
  split at h
  ·
   exact absurd rfl h
  ·
   rfl
 ·
  rename_i hr
  rw [if_neg hr]
  split at h
  ·
   exact absurd rfl h
  ·
   rename_i hn
   rw [if_neg hn]
/-- A space alone. -/
theorem line_space (E M : Int) (ps : List ByteArray) (cs : List Cl) : lineQ E M ps cs ⟨#[32]⟩ = ((ps, cs), awhat) := by
 have h1 : rdeed ⟨#[32]⟩ = ((0, 0, ⟨#[]⟩), false) := rdeed_pI (by decide)
 unfold lineQ
 rw [h1, if_neg (by simp), if_neg (by decide)]
 have h2 : tl (⟨#[32]⟩ : ByteArray) = [32] := rfl
 rw [h2]
 unfold ansL
 rw [if_neg (by decide), if_neg (by decide)]
 rfl
/-- Night. -/
theorem line_night (E M : Int) (ps : List ByteArray) (cs : List Cl) : lineQ E M ps cs ⟨#[110, 105, 103, 104, 116]⟩ = ((ps, []), aok) := by
 have h1 : rdeed ⟨#[110, 105, 103, 104, 116]⟩ = ((0, 0, ⟨#[]⟩), false) := rdeed_pI (by decide)
 unfold lineQ
 rw [h1, if_neg (by simp), if_pos (by rfl)]
theorem two_ne (n : Nat) : (two n).size ≠ 0 := by
 unfold two
 split <;> simp [ByteArray.size]
theorem joinP_ne {ps : List ByteArray} (h : PlanOk ps) (hl : 1 ≤ ps.length) : (joinP ps).size ≠ 0 := by
 cases ps with
 | nil => simp at hl
 | cons p ps =>
  have h1 := (numB_size (h.at 0 p rfl)).1
  have h2 : (joinP (p :: ps)).size = (Lib.join ((p :: ps).map tl) [44]).length := by rw [← tl_size]; unfold joinP; rw [tl_ba]
  rw [h2, List.map_cons, Lib.join_cons, List.length_append, tl_size]
  omega
/-- No answer is empty. -/
theorem line_ans {O E M : Int} {ps : List ByteArray} {cs : List Cl} (h : ExOk O E M ps cs) (s : ByteArray) : (lineQ E M ps cs s).2.size ≠ 0 := by
 unfold lineQ
 split
 ·
  unfold sayL
  split
  ·
   show aok.size ≠ 0; decide
  ·
   unfold notL
   split
   ·
    show ano.size ≠ 0; decide
   ·
    split
    ·
     show awrong.size ≠ 0; decide
    ·
     show abusy.size ≠ 0; decide
 ·
  split
  ·
   show aok.size ≠ 0; decide
  ·
   show (ansL ps cs (tl s)).size ≠ 0
   unfold ansL
   split
   ·
    exact two_ne _
   split
   ·
    exact joinP_ne h.plan h.lines.1
   split
   ·
    show awhat.size ≠ 0; decide
   ·
    split
    ·
     split
     ·
      show anone.size ≠ 0; decide
     ·
      split <;> exact two_ne _
    ·
     show awhat.size ≠ 0; decide
/-- The answers to a deed's text. -/
theorem line_deed {E M : Int} {ps : List ByteArray} {cs : List Cl} {d : Ded} (h : (dt d).size ≠ 0) : lineQ E M ps cs (dt d) = sayL E M ps cs d := by
 unfold lineQ
 rw [rdeed_dt h, if_pos rfl]
theorem say_ans (E M : Int) (ps : List ByteArray) (cs : List Cl) (d : Ded) : (sayL E M ps cs d).2 = aok ∨ (sayL E M ps cs d).2 = ano ∨ (sayL E M ps cs d).2 = abusy ∨ (sayL E M ps cs d).2 = awrong := by
 unfold sayL
 split
 ·
  exact .inl rfl
 ·
  unfold notL
  split
  ·
   exact .inr (.inl rfl)
  ·
   split
   ·
    exact .inr (.inr (.inr rfl))
   ·
    exact .inr (.inr (.inl rfl))
theorem say_step (E M : Int) (ps : List ByteArray) (cs : List Cl) (n : Nat) (d : Ded) : (stepL E M ((ps, cs), n) d).1 = (sayL E M ps cs d).1 := by
 unfold stepL sayL
 simp only
 split <;> simp_all

/-! Lines one after the other. -/
noncomputable def linesL (E M : Int) (x : (List ByteArray × List Cl) × List ByteArray) (s : ByteArray) : (List ByteArray × List Cl) × List ByteArray :=
 ((lineQ E M x.1.1 x.1.2 s).1, x.2 ++ [(lineQ E M x.1.1 x.1.2 s).2])
noncomputable def linesQ (E M : Int) (ps : List ByteArray) (cs : List Cl) (ls : List ByteArray) : (List ByteArray × List Cl) × List ByteArray := ls.foldl (linesL E M) ((ps, cs), [])
theorem lines_snoc {E M : Int} {ps : List ByteArray} {cs : List Cl} {ls : List ByteArray} {k : Nat} {s : ByteArray} (h : ls[k]? = some s) : linesQ E M ps cs (ls.take (k + 1)) = linesL E M (linesQ E M ps cs (ls.take k)) s := by
 obtain ⟨hk, rfl⟩ := List.getElem?_eq_some_iff.1 h
 unfold linesQ
 rw [List.take_succ_eq_append_getElem hk, List.foldl_append]; rfl
theorem linesF_pre {E M : Int} (ls : List ByteArray) : ∀ (x : List ByteArray × List Cl) (av : List ByteArray), ls.foldl (linesL E M) (x, av) = ((ls.foldl (linesL E M) (x, [])).1, av ++ (ls.foldl (linesL E M) (x, [])).2) := by
 induction ls with
 | nil => intro x av; simp
 | cons l ls ih =>
  intro x av
  simp only [List.foldl_cons, linesL]
  rw [ih _ (av ++ _), ih _ ([] ++ _)]
  simp
theorem lines_app {E M : Int} (ps : List ByteArray) (cs : List Cl) (ls ms : List ByteArray) : linesQ E M ps cs (ls ++ ms) = ((linesQ E M (linesQ E M ps cs ls).1.1 (linesQ E M ps cs ls).1.2 ms).1, (linesQ E M ps cs ls).2 ++ (linesQ E M (linesQ E M ps cs ls).1.1 (linesQ E M ps cs ls).1.2 ms).2) := by
 unfold linesQ
 rw [List.foldl_append]
 obtain ⟨⟨x, av⟩, hy⟩ : ∃ y, ls.foldl (linesL E M) ((ps, cs), []) = y := ⟨_, rfl⟩
 rw [hy]
 exact linesF_pre ms x av
theorem linesF_len {E M : Int} (ls : List ByteArray) : ∀ x : (List ByteArray × List Cl) × List ByteArray, (ls.foldl (linesL E M) x).2.length = x.2.length + ls.length := by
 induction ls with
 | nil => intro x; simp
 | cons l ls ih => intro x; rw [List.foldl_cons, ih]; simp [linesL]; omega
theorem lines_len {E M : Int} (ps : List ByteArray) (cs : List Cl) (ls : List ByteArray) : (linesQ E M ps cs ls).2.length = ls.length := by
 unfold linesQ; rw [linesF_len]; simp
theorem linesF_ok {O E M : Int} (ls : List ByteArray) : ∀ x : (List ByteArray × List Cl) × List ByteArray, ExOk O E M x.1.1 x.1.2 → (∀ a ∈ x.2, a.size ≠ 0) → ExOk O E M (ls.foldl (linesL E M) x).1.1 (ls.foldl (linesL E M) x).1.2 ∧ ∀ a ∈ (ls.foldl (linesL E M) x).2, a.size ≠ 0 := by
 induction ls with
 | nil => intro x h1 h2; exact ⟨h1, h2⟩
 | cons l ls ih =>
  intro x h1 h2
  rw [List.foldl_cons]
  refine ih _ (line_ok h1 l) (fun a ha => ?_)
  simp only [linesL, List.mem_append, List.mem_singleton] at ha
  rcases ha with ha | rfl
  ·
   exact h2 a ha
  ·
   exact line_ans h1 l
theorem lines_ok {O E M : Int} {ps : List ByteArray} {cs : List Cl} (h : ExOk O E M ps cs) (ls : List ByteArray) : ExOk O E M (linesQ E M ps cs ls).1.1 (linesQ E M ps cs ls).1.2 ∧ ∀ a ∈ (linesQ E M ps cs ls).2, a.size ≠ 0 :=
 linesF_ok ls _ h (fun a ha => by cases ha)

end Go.Proofs.YtedadhoneebfnaaGreatDoor

/- Plain facts on lists of calls: their cells, and valid calls step by step. No program in sight. -/
namespace Go.Proofs.YtedadhoneebfnaaGreatDoor
open Go.RowKit

/-- The cells of calls. -/
def ccells (cs : List Cl) : List Value := cs.flatMap fun c => [.int .i64 c.1, .int .i64 c.2.1, .int .i64 c.2.2]
theorem ccells_len (cs : List Cl) : (ccells cs).length = cs.length * 3 := by
 induction cs with
 | nil => rfl
 | cons r rs ih => simp only [ccells, List.flatMap_cons, List.length_append] at ih ⊢; simp [ih]; omega
theorem ccells_at (cs : List Cl) : ∀ (k : Nat) (c : Cl), cs[k]? = some c → (ccells cs)[k * 3]? = some (.int .i64 c.1) ∧ (ccells cs)[k * 3 + 1]? = some (.int .i64 c.2.1) ∧ (ccells cs)[k * 3 + 2]? = some (.int .i64 c.2.2) := by
 induction cs with
 | nil => intro k r h; simp at h
 | cons x rs ih =>
  intro k r h
  cases k with
  | zero => simp at h; subst h; simp [ccells]
  | succ k =>
   have h' : rs[k]? = some r := by simpa using h
   have := ih k r h'
   rw [show (k + 1) * 3 = k * 3 + 3 by omega]
   simpa [ccells, List.flatMap_cons] using this
theorem ccells_app (xs ys : List Cl) : ccells (xs ++ ys) = ccells xs ++ ccells ys := by simp [ccells, List.flatMap_append]
theorem ccells_one (cs : List Cl) : ∀ u ∈ ccells cs, u.oneCell' = true := by
 intro u hu
 obtain ⟨c, _, hc⟩ := List.mem_flatMap.1 hu
 simp at hc
 rcases hc with rfl | rfl | rfl <;> rfl

def lnB (L x : Int) : Bool := decide (0 ≤ x) && decide (x < L)
def ClAt (L M : Int) (c : Cl) : Prop := (0 ≤ c.1 ∧ c.1 < L) ∧ (0 ≤ c.2.1 ∧ c.2.1 < L) ∧ 0 ≤ c.2.2 ∧ c.2.2 < M
def Apart (E : Int) (d c : Cl) : Prop := d.1 ≠ c.1 ∧ d.2.1 ≠ c.2.1 ∧ ∀ s, swC E s d = swC E s c → d.2.2 ≠ c.2.2
theorem apart_iff (E : Int) (d c : Cl) : Apart E d c ↔ d.1 ≠ c.1 ∧ d.2.1 ≠ c.2.1 ∧ ¬ (d.2.2 = c.2.2 ∧ (d.1 / E = c.1 / E ∨ d.2.1 / E = c.2.1 / E)) := by
 unfold Apart
 constructor
 ·
  rintro ⟨h1, h2, h3⟩
  refine ⟨h1, h2, fun ⟨e, h⟩ => ?_⟩
  rcases h with h | h
  ·
   exact h3 false h e
  ·
   exact h3 true h e
 ·
  rintro ⟨h1, h2, h3⟩
  refine ⟨h1, h2, fun s hs e => h3 ⟨e, ?_⟩⟩
  cases s
  ·
   exact .inl hs
  ·
   exact .inr hs
/-- The first k calls are in order. -/
def ClTo (L E M : Int) (cs : List Cl) (k : Nat) : Prop := (∀ i c, i < k → cs[i]? = some c → ClAt L M c) ∧ ∀ i j d c, i < j → j < k → cs[i]? = some d → cs[j]? = some c → Apart E d c
theorem ClTo.zero (L E M : Int) (cs : List Cl) : ClTo L E M cs 0 := ⟨fun i c h => absurd h (by omega), fun i j d c _ h => absurd h (by omega)⟩
theorem ClTo.step {L E M : Int} {cs : List Cl} {k : Nat} {c : Cl} (h : ClTo L E M cs k) (hc : cs[k]? = some c) (h1 : ClAt L M c) (h2 : ∀ i d, i < k → cs[i]? = some d → Apart E d c) : ClTo L E M cs (k + 1) := by
 refine ⟨fun i e hi he => ?_, fun i j d e hij hj hd he => ?_⟩
 ·
  by_cases hik : i = k
  ·
   subst hik; rw [hc] at he; cases he; exact h1
  ·
   exact h.1 i e (by omega) he
 ·
  by_cases hjk : j = k
  ·
   subst hjk; rw [hc] at he; cases he; exact h2 i d hij hd
  ·
   exact h.2 i j d e hij (by omega) hd he
theorem ClTo.all {O E M : Int} {cs : List Cl} (hs : ShapeOk O E M) (h : ClTo (O * E) E M cs cs.length) : CallsOk O E M cs :=
 ⟨hs, fun k c hc => h.1 k c (List.getElem?_eq_some_iff.1 hc).1 hc, fun j k d c hjk hd hc => h.2 j k d c hjk (List.getElem?_eq_some_iff.1 hc).1 hd hc⟩
def shapeB (O E M : Int) : Bool := ((decide (1 ≤ O) && decide (O ≤ 4)) && (decide (1 ≤ E) && decide (E ≤ 3))) && (decide (1 ≤ M) && decide (M ≤ 5))
theorem shapeB_iff (O E M : Int) : shapeB O E M = true ↔ ShapeOk O E M := by
 simp only [shapeB, Bool.and_eq_true, decide_eq_true_eq]
 exact ⟨fun h => ⟨h.1.1, h.1.2, h.2⟩, fun h => ⟨⟨h.o, h.e⟩, h.m⟩⟩
open Classical in
noncomputable def callsB (O E M : Int) (cs : List Cl) : Bool := decide (CallsOk O E M cs)
theorem callsB_iff (O E M : Int) (cs : List Cl) : callsB O E M cs = true ↔ CallsOk O E M cs := by simp [callsB]
theorem callsB_shape {O E M : Int} (cs : List Cl) (h : shapeB O E M = false) : callsB O E M cs = false := by
 cases hc : callsB O E M cs with
 | false => rfl
 | true => have := (shapeB_iff O E M).2 ((callsB_iff _ _ _ _).1 hc).sh; rw [h] at this; cases this
theorem callsB_at {O E M : Int} {cs : List Cl} {k : Nat} {c : Cl} (hc : cs[k]? = some c) (h : ¬ ClAt (O * E) M c) : callsB O E M cs = false := by
 cases hb : callsB O E M cs with
 | false => rfl
 | true => exact absurd (((callsB_iff _ _ _ _).1 hb).at' k c hc) h
theorem callsB_apart {O E M : Int} {cs : List Cl} {j k : Nat} {d c : Cl} (hjk : j < k) (hd : cs[j]? = some d) (hc : cs[k]? = some c) (h : ¬ Apart E d c) : callsB O E M cs = false := by
 cases hb : callsB O E M cs with
 | false => rfl
 | true => exact absurd (((callsB_iff _ _ _ _).1 hb).apart j k d c hjk hd hc) h

end Go.Proofs.YtedadhoneebfnaaGreatDoor

/- An append under a guard, at a step of a region that draws its order. -/
namespace Go.Proofs.YtedadhoneebfnaaGreatDoor
open Go.RowKit

variable {P : Program} {w : World}
/-- A cell of another block than the one that has been written. -/
theorem keep_gb {w w' : World} {a : Addr} {u : Value} {r : Option Nat} (hg : w.grownBy w' r) (hne : some a.block ≠ r) (h : w.cell? a = some u) : w'.cell? a = some u := by
 have hlt : a.block < w.heap.size := by
  unfold World.cell? at h
  split at h
  ·
   rename_i h'; exact lt_of_block h'
  ·
   cases h
 exact (World.cell?_of_block (hg.block _ hlt hne)).trans h
end Go.Proofs.YtedadhoneebfnaaGreatDoor

/- Exchanges in memory: what is owned, and how it is carried on. -/
namespace Go.Proofs.YtedadhoneebfnaaGreatDoor
open Go.RowKit

theorem Blk.five {w : World} {b : Nat} {x0 x1 x2 x3 x4 : Value} {T : TypeId} (h : Blk w b #[x0, x1, x2, x3, x4] T) : w.cell? ⟨b, 0, none⟩ = some x0 ∧ w.cell? ⟨b, 1, none⟩ = some x1 ∧ w.cell? ⟨b, 2, none⟩ = some x2 ∧ w.cell? ⟨b, 3, none⟩ = some x3 ∧ w.cell? ⟨b, 4, none⟩ = some x4 ∧ w.frozen? ⟨b, 0, none⟩ = false ∧ w.frozen? ⟨b, 1, none⟩ = false ∧ w.frozen? ⟨b, 2, none⟩ = false ∧ w.frozen? ⟨b, 3, none⟩ = false ∧ w.frozen? ⟨b, 4, none⟩ = false ∧ b < w.heap.size :=
 ⟨h.at 0, h.at 1, h.at 2, h.at 3, h.at 4, h.free 0, h.free 1, h.free 2, h.free 3, h.free 4, h.lt⟩
/-- The plan and the calls of an exchange are owned, apart from each other. -/
structure ExOwn (w : World) (base : Nat) (vp vc : Value) (ps : List ByteArray) (cs : List Cl) : Prop where
 plan : w.ownsRow base 9 1 vp ps.length (strs ps)
 calls : w.ownsRow base 89 3 vc cs.length (ccells cs)
 apart : vp.ownBlock = none ∨ vp.ownBlock ≠ vc.ownBlock
/-- The plan and the calls read. -/
structure ExRd (w : World) (vp vc : Value) (ps : List ByteArray) (cs : List Cl) : Prop where
 plan : Rds w vp ps.length 1 (strs ps)
 calls : Rds w vc cs.length 3 (ccells cs)
section
variable {w w' : World} {base : Nat} {vp vc : Value} {ps : List ByteArray} {cs : List Cl}
theorem ExOwn.rd (h : ExOwn w base vp vc ps cs) : ExRd w vp vc ps cs := ⟨Rds.ofOwns h.plan, Rds.ofOwns h.calls⟩
theorem ExOwn.below (hb : Below w.heap.size w w') (h : ExOwn w base vp vc ps cs) : ExOwn w' base vp vc ps cs := ⟨owns_below hb h.plan, owns_below hb h.calls, h.apart⟩
theorem ExOwn.lower {base' : Nat} (hb : base' ≤ base) (h : ExOwn w base vp vc ps cs) : ExOwn w base' vp vc ps cs := ⟨owns_base hb h.plan, owns_base hb h.calls, h.apart⟩
theorem ExRd.below (hb : Below w.heap.size w w') (h : ExRd w vp vc ps cs) : ExRd w' vp vc ps cs := ⟨h.plan.below hb, h.calls.below hb⟩
theorem ExRd.drewN (k : Nat) (h : ExRd w vp vc ps cs) : ExRd (w.drewN k) vp vc ps cs := ⟨h.plan.drewN k, h.calls.drewN k⟩
theorem ExOwn.drewN (k : Nat) (h : ExOwn w base vp vc ps cs) : ExOwn (w.drewN k) base vp vc ps cs := ⟨h.plan, h.calls, h.apart⟩
theorem ExOwn.nothing (w : World) (base : Nat) : ExOwn w base (.slice none 0 0) (.slice none 0 0) [] [] := ⟨World.ownsRow_nil _ _ _ _, World.ownsRow_nil _ _ _ _, .inl rfl⟩
/-- One block alone was written, which is none of these. -/
theorem ExOwn.kept {r : Option Nat} (hg : w.grownBy w' r) (h1 : vp.ownBlock = Option.none ∨ vp.ownBlock ≠ r) (h2 : vc.ownBlock = Option.none ∨ vc.ownBlock ≠ r) (h : ExOwn w base vp vc ps cs) : ExOwn w' base vp vc ps cs :=
 ⟨h.plan.kept hg h1, h.calls.kept hg h2, h.apart⟩
/-- Two blocks alone may have been written. -/
def Gb2 (w w' : World) (r1 r2 : Option Nat) : Prop := ∃ wm, w.grownBy wm r1 ∧ wm.grownBy w' r2
theorem Gb2.below {B : Nat} {w0 : World} {r1 r2 : Option Nat} (h : Gb2 w w' r1 r2) (hB : B ≤ w.heap.size) (h1 : ∀ k, r1 = some k → B ≤ k) (h2 : ∀ k, r2 = some k → B ≤ k) (hb : Below B w0 w) : Below B w0 w' := by
 obtain ⟨wm, g1, g2⟩ := h
 exact (hb.grown g1 hB h1).grown g2 (Nat.le_trans hB g1.size) h2
theorem Gb2.size {r1 r2 : Option Nat} (h : Gb2 w w' r1 r2) : w.heap.size ≤ w'.heap.size := by
 obtain ⟨wm, g1, g2⟩ := h
 exact Nat.le_trans g1.size g2.size
theorem ExOwn.kept2 {r1 r2 : Option Nat} (hg : Gb2 w w' r1 r2) (a1 : vp.ownBlock = Option.none ∨ vp.ownBlock ≠ r1) (a2 : vc.ownBlock = Option.none ∨ vc.ownBlock ≠ r1) (a3 : vp.ownBlock = Option.none ∨ vp.ownBlock ≠ r2) (a4 : vc.ownBlock = Option.none ∨ vc.ownBlock ≠ r2) (h : ExOwn w base vp vc ps cs) : ExOwn w' base vp vc ps cs := by
 obtain ⟨wm, g1, g2⟩ := hg
 exact (h.kept g1 a1 a2).kept g2 a3 a4
theorem owns_kept2 {r1 r2 : Option Nat} (hg : Gb2 w w' r1 r2) {n : Nat} {E : TypeId} {size : Nat} {v : Value} {xs : List Value} (a1 : v.ownBlock = Option.none ∨ v.ownBlock ≠ r1) (a3 : v.ownBlock = Option.none ∨ v.ownBlock ≠ r2) (h : w.ownsRow base E size v n xs) : w'.ownsRow base E size v n xs := by
 obtain ⟨wm, g1, g2⟩ := hg
 exact (h.kept g1 a1).kept g2 a3
end
/-- Slices of strings, each as long as there may be. -/
theorem StLen.set {ps : List ByteArray} (h : StLen ps) (k : Nat) {s : ByteArray} (hs : s.size ≤ maxLen) : StLen (ps.set k s) := by
 intro j t ht
 rw [List.getElem?_set] at ht
 split at ht
 ·
  split at ht
  ·
   cases ht; exact hs
  ·
   cases ht
 ·
  exact h j t ht

end Go.Proofs.YtedadhoneebfnaaGreatDoor

/- Contracts on shapes (program and reference): ShapeValid, Enough, hasLine, l4Lines. -/
namespace Go.Proofs.YtedadhoneebfnaaGreatDoor
open Go.RowKit

def enoughB (O E M : Int) : Bool := shapeB O E M && decide (E ≤ M)

set_option maxHeartbeats 1000000 in
theorem iShapeValid_any (O E M : Int) (w : World) :
  Calls Tryz.prog 114 #[.agg #[.int .i64 O, .int .i64 E, .int .i64 M]] w fun e w' => e = .returned (.bool (shapeB O E M)) ∧ Below w.heap.size w w' := by
 go_enter Tryz.func114, Tryz.ntmps114
 go_wp2
 all_goals (go_ret; refine ⟨?_, by (exact grownA)⟩; congr 2; (simp [shapeB, *] <;> (intros; omega)))

set_option maxHeartbeats 1000000 in
theorem sShapeValid_any (O E M : Int) (w : World) :
  Calls Tryz.prog 98 #[.agg #[.int .i64 O, .int .i64 E, .int .i64 M]] w fun e w' => e = .returned (.bool (shapeB O E M)) ∧ Below w.heap.size w w' := by
 have HS : Hid ((((decide (1 ≤ O) && decide (O ≤ 4)) && (decide (1 ≤ E) && decide (E ≤ 3))) && (decide (1 ≤ M) && decide (M ≤ 5))) = shapeB O E M) := rfl
 go_enter Tryz.func98, Tryz.ntmps98
 go_wp2_with fail
 refine (sIn_any _ _ _ _).mono ?_
 rintro e w1 ⟨rfl, rfl⟩
 obtain ⟨d1, hd1⟩ : ∃ d, (decide (1 ≤ O) && decide (O ≤ 4)) = d := ⟨_, rfl⟩
 have HS1 : Hid (((d1 && (decide (1 ≤ E) && decide (E ≤ 3))) && (decide (1 ≤ M) && decide (M ≤ 5))) = shapeB O E M) := by rw [← hd1]; exact HS.out
 rw [hd1]
 clear hd1 HS
 cases d1
 ·
  go_wp2
  go_returns
  exact ⟨by rw [← HS1.out]; rfl, by (exact grownA)⟩
 ·
  go_wp2_with fail
  refine (sIn_any _ _ _ _).mono ?_
  rintro e w1 ⟨rfl, rfl⟩
  obtain ⟨d1, hd1⟩ : ∃ d, (decide (1 ≤ E) && decide (E ≤ 3)) = d := ⟨_, rfl⟩
  have HS2 : Hid (((true && d1) && (decide (1 ≤ M) && decide (M ≤ 5))) = shapeB O E M) := by rw [← hd1]; exact HS1.out
  rw [hd1]
  clear hd1 HS1
  cases d1
  ·
   go_wp2
   go_returns
   exact ⟨by rw [← HS2.out]; rfl, by (exact grownA)⟩
  ·
   go_wp2_with fail
   refine (sIn_any _ _ _ _).mono ?_
   rintro e w1 ⟨rfl, rfl⟩
   have HS3 : Hid ((decide (1 ≤ M) && decide (M ≤ 5)) = shapeB O E M) := by have := HS2.out; unfold Hid; simpa using this
   rw [HS3.out]
   clear HS2
   go_wp2
   go_returns
   exact ⟨rfl, by (exact grownA)⟩

set_option maxHeartbeats 1000000 in
theorem iEnough_any (O E M : Int) (w : World) :
  Calls Tryz.prog 84 #[.agg #[.int .i64 O, .int .i64 E, .int .i64 M]] w fun e w' => e = .returned (.bool (enoughB O E M)) ∧ Below w.heap.size w w' := by
 have hB := Blk.new (w := w) (cs := #[.int .i64 O, .int .i64 E, .int .i64 M]) (T := 30) rfl
 obtain ⟨d, hd⟩ : ∃ d, shapeB O E M = d := ⟨_, rfl⟩
 have HD := Lib.hid hd
 clear hd
 go_enter Tryz.func84, Tryz.ntmps84
 go_wp2_with fail
 refine (iShapeValid_any _ _ _ _).mono ?_
 rintro e w1 ⟨rfl, hb⟩
 have hB1 := hB.below hb (by simp)
 obtain ⟨c1, c2, c3, f1, f2, f3, hlt⟩ := hB1.three
 rw [HD.out]
 have hbel : Below w.heap.size w w1 := by (exact grownA)
 clear hB hB1
 cases d
 ·
  have HF : Hid (enoughB O E M = false) := by simp [Hid, enoughB, HD.out]
  go_wp2
  go_returns
  exact ⟨by rw [HF.out]; rfl, hbel⟩
 ·
  have HF : Hid (enoughB O E M = decide (E ≤ M)) := by simp [Hid, enoughB, HD.out]
  go_wp2
  go_returns
  exact ⟨by rw [HF.out]; rfl, hbel⟩
set_option maxHeartbeats 1000000 in
theorem sEnough_any (O E M : Int) (w : World) :
  Calls Tryz.prog 58 #[.agg #[.int .i64 O, .int .i64 E, .int .i64 M]] w fun e w' => e = .returned (.bool (enoughB O E M)) ∧ Below w.heap.size w w' := by
 have hB := Blk.new (w := w) (cs := #[.int .i64 O, .int .i64 E, .int .i64 M]) (T := 30) rfl
 obtain ⟨d, hd⟩ : ∃ d, shapeB O E M = d := ⟨_, rfl⟩
 have HD := Lib.hid hd
 clear hd
 go_enter Tryz.func58, Tryz.ntmps58
 go_wp2_with fail
 refine (sShapeValid_any _ _ _ _).mono ?_
 rintro e w1 ⟨rfl, hb⟩
 have hB1 := hB.below hb (by simp)
 obtain ⟨c1, c2, c3, f1, f2, f3, hlt⟩ := hB1.three
 rw [HD.out]
 have hbel : Below w.heap.size w w1 := by (exact grownA)
 clear hB hB1
 cases d
 ·
  have HF : Hid (enoughB O E M = false) := by simp [Hid, enoughB, HD.out]
  go_wp2
  go_returns
  exact ⟨by rw [HF.out]; rfl, hbel⟩
 ·
  have HF : Hid (enoughB O E M = decide (E ≤ M)) := by simp [Hid, enoughB, HD.out]
  go_wp2
  go_returns
  exact ⟨by rw [HF.out]; rfl, hbel⟩

set_option maxHeartbeats 1000000 in
theorem hasLine_any (O E M x : Int) (w : World) (h : ShapeOk O E M) :
  Calls Tryz.prog 116 #[.agg #[.int .i64 O, .int .i64 E, .int .i64 M], .int .i64 x] w fun e w' => e = .returned (.bool (lnB (O * E) x)) ∧ Below w.heap.size w w' := by
 have ho := h.o
 have he := h.e
 have hm0 : 0 ≤ O * E := Int.mul_nonneg (by omega) (by omega)
 have hm1 : O * E ≤ 4 * 3 := Int.le_trans (Int.mul_le_mul_of_nonneg_right ho.2 (by omega)) (Int.mul_le_mul_of_nonneg_left he.2 (by omega))
 have hw : IntKind.i64.wrap (O * E) = O * E := IntWalk.i64_in _ (by omega)
 clear h hm0 hm1
 go_enter Tryz.func116, Tryz.ntmps116
 go_wp2
 all_goals (go_ret; refine ⟨?_, by (exact grownA)⟩; congr 2; (simp [lnB, *] <;> (intros; omega)))

set_option maxHeartbeats 1000000 in
theorem l4Lines_any (O E M : Int) (w : World) (h : ShapeOk O E M) :
  Calls Tryz.prog 60 #[.agg #[.int .i64 O, .int .i64 E, .int .i64 M]] w fun e w' => e = .returned (.int .i64 (O * E)) ∧ Below w.heap.size w w' := by
 have ho := h.o
 have he := h.e
 have hm0 : 0 ≤ O * E := Int.mul_nonneg (by omega) (by omega)
 have hm1 : O * E ≤ 4 * 3 := Int.le_trans (Int.mul_le_mul_of_nonneg_right ho.2 (by omega)) (Int.mul_le_mul_of_nonneg_left he.2 (by omega))
 have hw : IntKind.i64.wrap (O * E) = O * E := IntWalk.i64_in _ (by omega)
 clear h hm0 hm1
 go_enter Tryz.func60, Tryz.ntmps60
 go_wp2
 go_returns
 exact ⟨rfl, by (exact grownA)⟩

end Go.Proofs.YtedadhoneebfnaaGreatDoor

/- Contracts of CallsValid (program and reference). -/
namespace Go.Proofs.YtedadhoneebfnaaGreatDoor
open Go.RowKit

theorem wrap_quo {L E x : Int} (h0 : 0 ≤ x) (h1 : x < L) (hL : L ≤ 12) (hE : 0 ≤ E) : IntKind.i64.wrap (x / E) = x / E :=
 IntWalk.i64_in _ (by have a1 := Int.ediv_nonneg h0 hE; have a2 := Int.ediv_le_self E h0; omega)
theorem lines_le {O E M : Int} (h : ShapeOk O E M) : O * E ≤ 12 := by
 have ho := h.o
 have he := h.e
 exact Int.le_trans (Int.mul_le_mul_of_nonneg_right ho.2 (by omega)) (Int.mul_le_mul_of_nonneg_left he.2 (by omega))

set_option maxRecDepth 100000 in
set_option maxHeartbeats 4000000 in
theorem iCallsValid_any (O E M : Int) (v : Value) (cs : List Cl) (w : World) (hv : Rds w v cs.length 3 (ccells cs)) :
  Calls Tryz.prog 86 #[.agg #[.int .i64 O, .int .i64 E, .int .i64 M], v] w fun e w' => e = .returned (.bool (callsB O E M cs)) ∧ Below w.heap.size w w' := by
 obtain ⟨hl1, hm1, a, ca, rfl, hn1, hc1⟩ := hv
 unfold maxLen at hm1
 have hB := Blk.new (w := w) (cs := #[.int .i64 O, .int .i64 E, .int .i64 M]) (T := 30) rfl
 have hbel0 : Below w.heap.size w (w.alloc (.cells #[.int .i64 O, .int .i64 E, .int .i64 M] 30)) := by (exact grownA)
 obtain ⟨n, hn⟩ : ∃ n, cs.length = n := ⟨_, rfl⟩
 rw [hn] at hm1 hn1 hc1 ⊢
 have HN := Lib.hid hn
 clear hn hl1
 go_enter Tryz.func86, Tryz.ntmps86
 go_wp2_with fail
 refine (iShapeValid_any _ _ _ _).mono ?_
 rintro e w1 ⟨rfl, hb⟩
 have hbel1 : Below w.heap.size w w1 := by (exact grownA)
 have hB1 := hB.below hb (by simp)
 have hz1 := hbel1.size
 clear hB hb hbel0
 obtain ⟨d, hd⟩ : ∃ d, shapeB O E M = d := ⟨_, rfl⟩
 have HD := Lib.hid hd
 rw [hd]
 clear hd
 cases d
 ·
  have HF := Lib.hid (callsB_shape cs HD.out)
  go_wp2
  go_returns
  exact ⟨by rw [HF.out]; rfl, hbel1⟩
 ·
  have hsh := (shapeB_iff _ _ _).1 HD.out
  have HSH := Lib.hid hsh
  have he := hsh.e
  have hlt1 := hB1.lt
  clear hsh
  go_wp2_with fail
  go_loopw [14] (fun i wr => ∃ k : Nat, k ≤ n ∧ i = .int .i64 k ∧ Hid (ClTo (O * E) E M cs k) ∧ Below w1.heap.size w1 wr) (fun i _ => n - (intOf i).toNat)
  case atStart => exact ⟨0, by omega, rfl, ClTo.zero _ _ _ _, Below.refl _ _⟩
  case round =>
   obtain ⟨k, hk, rfl, hok, hbel⟩ := hrel
   obtain ⟨wo, rfl⟩ : ∃ wo : World, wo = wr := ⟨_, rfl⟩
   have hz := hbel.size
   by_cases hkn : k < n
   ·
    rcases hc1 with hc1 | ⟨b, off, rfl, hb, hc1⟩
    ·
     omega
    obtain ⟨c, hc⟩ : ∃ c, cs[k]? = some c := ⟨_, List.getElem?_eq_getElem (by rw [HN.out]; omega)⟩
    obtain ⟨g1, g2, g3⟩ := ccells_at cs k c hc
    have hcw : ∀ i, wo.cell? ⟨b, off + i, none⟩ = w.cell? ⟨b, off + i, none⟩ := fun i => (hbel.cell (p := ⟨b, off + i, none⟩) (by show b < _; omega)).trans (hbel1.cell (p := ⟨b, off + i, none⟩) hb)
    have c1 : wo.cell? ⟨b, off + k * 3, none⟩ = some (.int .i64 c.1) := by rw [hcw, hc1 _ (by omega), g1]
    have c2 : wo.cell? ⟨b, off + k * 3 + 1, none⟩ = some (.int .i64 c.2.1) := by rw [Nat.add_assoc, hcw, hc1 _ (by omega), g2]
    have c3 : wo.cell? ⟨b, off + k * 3 + 2, none⟩ = some (.int .i64 c.2.2) := by rw [Nat.add_assoc, hcw, hc1 _ (by omega), g3]
    have HC := Lib.hid hc
    have HC1 := Lib.hid hc1
    have hBr := hB1.below hbel hlt1
    obtain ⟨s1, s2, s3, f1, f2, f3, hslt⟩ := hBr.three
    obtain ⟨x, y, m⟩ := c
    simp only at c1 c2 c3
    clear hc g1 g2 g3 hcw hc1
    have hCb := Blk.new (w := wo) (cs := #[.int .i64 x, .int .i64 y, .int .i64 m]) (T := 89) rfl
    have hbr : Below w1.heap.size w1 (wo.alloc (.cells #[.int .i64 x, .int .i64 y, .int .i64 m] 89)) := by (exact grownA)
    go_wp2_with fail
    refine (hasLine_any _ _ _ _ _ HSH.out).mono ?_
    rintro e w2 ⟨rfl, hb2⟩
    have hCb2 := hCb.below hb2 (by simp)
    have hbel2 : Below w1.heap.size w1 w2 := by (exact grownA)
    have hB2 := hB1.below hbel2 hlt1
    clear c1 c2 c3 s1 s2 s3 f1 f2 f3 hBr hCb hb2 hbr hslt
    obtain ⟨t1, t2, t3, e1, e2, e3, hclt⟩ := hCb2.three
    obtain ⟨s1, s2, s3, f1, f2, f3, hslt⟩ := hB2.three
    have hbelF : Below w.heap.size w w2 := by (exact grownA)
    obtain ⟨d1, hd1⟩ : ∃ d, lnB (O * E) x = d := ⟨_, rfl⟩
    have HD1 := Lib.hid hd1
    rw [hd1]
    clear hd1
    cases d1
    ·
     have HF := Lib.hid (callsB_at (O := O) (E := E) (M := M) HC.out (fun h => by have h1 := HD1.out; have h2 := h.1; simp [lnB] at h1; simp only at h2; omega))
     go_wp2
     go_returns
     exact ⟨by rw [HF.out]; rfl, hbelF⟩
    ·
     go_wp2_with fail
     refine (hasLine_any _ _ _ _ _ HSH.out).mono ?_
     rintro e w3 ⟨rfl, hb3⟩
     have hCb3 := hCb2.below hb3 hclt
     have hbel3 : Below w1.heap.size w1 w3 := by (exact grownA)
     have hB3 := hB1.below hbel3 hlt1
     have hbelG : Below w.heap.size w w3 := by (exact grownA)
     clear t1 t2 t3 s1 s2 s3 e1 e2 e3 f1 f2 f3 hCb2 hB2 hbelF hslt
     obtain ⟨t1, t2, t3, e1, e2, e3, hclt3⟩ := hCb3.three
     obtain ⟨s1, s2, s3, f1, f2, f3, hslt⟩ := hB3.three
     obtain ⟨d1, hd1⟩ : ∃ d, lnB (O * E) y = d := ⟨_, rfl⟩
     have HD2 := Lib.hid hd1
     rw [hd1]
     clear hd1 hb3
     cases d1
     ·
      have HF := Lib.hid (callsB_at (O := O) (E := E) (M := M) HC.out (fun h => by have h1 := HD2.out; have h2 := h.2.1; simp [lnB] at h1; simp only at h2; omega))
      go_wp2
      go_returns
      exact ⟨by rw [HF.out]; rfl, hbelG⟩
     ·
      by_cases hm0 : m < 0
      ·
       have HF := Lib.hid (callsB_at (O := O) (E := E) (M := M) HC.out (fun h => by have h2 := h.2.2; simp only at h2; omega))
       go_wp2
       go_returns
       exact ⟨by rw [HF.out]; rfl, hbelG⟩
      ·
       by_cases hm1 : M ≤ m
       ·
        have HF := Lib.hid (callsB_at (O := O) (E := E) (M := M) HC.out (fun h => by have h2 := h.2.2; simp only at h2; omega))
        go_wp2
        go_returns
        exact ⟨by rw [HF.out]; rfl, hbelG⟩
       ·
        have hx0 : 0 ≤ x := by have := HD1.out; simp [lnB] at this; omega
        have hy0 : 0 ≤ y := by have := HD2.out; simp [lnB] at this; omega
        have HAT : Hid (ClAt (O * E) M (x, y, m)) := by
         have h1 := HD1.out; have h2 := HD2.out
         simp [lnB] at h1 h2
         exact ⟨h1, h2, by simp only; omega, by simp only; omega⟩
        go_wp2_with fail
        obtain ⟨bc, hbc⟩ : ∃ bc, wo.heap.size = bc := ⟨_, rfl⟩
        have hzr : w1.heap.size ≤ bc := by omega
        rw [hbc] at hCb3 hclt3 ⊢
        clear t1 t2 t3 s1 s2 s3 e1 e2 e3 f1 f2 f3 hslt hbel hbel2 hclt
        go_loopw [47] (fun i wi => ∃ j : Nat, j ≤ k ∧ i = .int .i64 j ∧ Hid (∀ i d, i < j → cs[i]? = some d → Apart E d (x, y, m)) ∧ Below w3.heap.size w3 wi) (fun i _ => k - (intOf i).toNat)
        case atStart => exact ⟨0, by omega, rfl, fun i d h => absurd h (by omega), Below.refl _ _⟩
        case round =>
         obtain ⟨j, hj, rfl, hap, hbi⟩ := hrel
         have hzi := hbi.size
         have hz3 := hbel3.size
         by_cases hjk : j < k
         ·
          obtain ⟨d, hd⟩ : ∃ d, cs[j]? = some d := ⟨_, List.getElem?_eq_getElem (by rw [HN.out]; omega)⟩
          obtain ⟨g1, g2, g3⟩ := ccells_at cs j d hd
          have hbz : b < w1.heap.size := by have := hbel1.size; omega
          have hcw : ∀ i, wr.cell? ⟨b, off + i, none⟩ = w.cell? ⟨b, off + i, none⟩ := fun i => ((hbi.cell (p := ⟨b, off + i, none⟩) (by show b < _; omega)).trans (hbel3.cell (p := ⟨b, off + i, none⟩) hbz)).trans (hbel1.cell (p := ⟨b, off + i, none⟩) hb)
          have c1 : wr.cell? ⟨b, off + j * 3, none⟩ = some (.int .i64 d.1) := by rw [hcw, HC1.out _ (by omega), g1]
          have c2 : wr.cell? ⟨b, off + j * 3 + 1, none⟩ = some (.int .i64 d.2.1) := by rw [Nat.add_assoc, hcw, HC1.out _ (by omega), g2]
          have c3 : wr.cell? ⟨b, off + j * 3 + 2, none⟩ = some (.int .i64 d.2.2) := by rw [Nat.add_assoc, hcw, HC1.out _ (by omega), g3]
          have HDD := Lib.hid hd
          obtain ⟨t1, t2, t3, e1, e2, e3, hclt⟩ := (hCb3.below hbi hclt3).three
          obtain ⟨s1, s2, s3, f1, f2, f3, hslt⟩ := (hB3.below hbi (by omega)).three
          obtain ⟨x', y', m'⟩ := d
          simp only at c1 c2 c3
          have hAD := hok.out.1 j _ hjk hd
          have hx0' : 0 ≤ x' := hAD.1.1
          have hy0' : 0 ≤ y' := hAD.2.1.1
          have hOE := lines_le HSH.out
          have hw1 := wrap_quo hx0' hAD.1.2 hOE (show 0 ≤ E by omega)
          have hw2 := wrap_quo hy0' hAD.2.1.2 hOE (show 0 ≤ E by omega)
          have hw3 := wrap_quo hx0 HAT.out.1.2 hOE (show 0 ≤ E by omega)
          have hw4 := wrap_quo hy0 HAT.out.2.1.2 hOE (show 0 ≤ E by omega)
          clear hd g1 g2 g3 hcw hAD hOE
          have hbelI : Below w.heap.size w wr := by (exact grownA)
          have hbelW := hbelI
          have hzw := hbelI.size
          have hbelJ : Below w1.heap.size w1 wr := hbel3.trans (Below.mono hbi hz3)
          by_cases hxx : x' = x
          ·
           have HF := Lib.hid (callsB_apart (O := O) (E := E) (M := M) hjk HDD.out HC.out (fun h => h.1 hxx))
           subst hxx
           have hq : ((x' : Int) == x') = true := by simp
           go_wp2
           go_returns
           exact ⟨by rw [HF.out]; rfl, by (exact grownA)⟩
          ·
           have hq : ((x' : Int) == x) = false := by simpa using hxx
           by_cases hyy : y' = y
           ·
            have HF := Lib.hid (callsB_apart (O := O) (E := E) (M := M) hjk HDD.out HC.out (fun h => h.2.1 hyy))
            subst hyy
            have hq2 : ((y' : Int) == y') = true := by simp
            go_wp2
            go_returns
            exact ⟨by rw [HF.out]; rfl, by (exact grownA)⟩
           ·
            have hq2 : ((y' : Int) == y) = false := by simpa using hyy
            have hE0 : (E == 0) = false := by simp; omega
            have hE1 : ¬ E = 0 := by omega
            by_cases hmm : m' = m
            ·
             have hq3 : ((m' : Int) == m) = true := by simpa using hmm
             have d1 : Int.tdiv x' E = x' / E := Int.tdiv_eq_ediv_of_nonneg hx0'
             have d2 : Int.tdiv x E = x / E := Int.tdiv_eq_ediv_of_nonneg hx0
             have d3 : Int.tdiv y' E = y' / E := Int.tdiv_eq_ediv_of_nonneg hy0'
             have d4 : Int.tdiv y E = y / E := Int.tdiv_eq_ediv_of_nonneg hy0
             go_wp2_with fail
             by_cases hp1 : x' / E = x / E
             ·
              have hq4 : (x' / E == x / E) = true := by simpa using hp1
              have HF := Lib.hid (callsB_apart (O := O) (E := E) (M := M) hjk HDD.out HC.out (fun h => ((apart_iff _ _ _).1 h).2.2 ⟨hmm, .inl hp1⟩))
              go_quiet (fail)
              go_wp2
              go_returns
              exact ⟨by rw [HF.out]; rfl, below_drewN (hbelW.alloc (by omega) _) _⟩
             ·
              have hq4 : (x' / E == x / E) = false := by simpa using hp1
              have hr4a : decide (x' / E = x / E) = false := by simpa using hp1
              have hr4b : (Int.tdiv x' E == Int.tdiv x E) = false := by rw [d1, d2]; exact hq4
              have hr4c : decide (Int.tdiv x' E = Int.tdiv x E) = false := by rw [d1, d2]; exact hr4a
              by_cases hp2 : y' / E = y / E
              ·
               have hq5 : (y' / E == y / E) = true := by simpa using hp2
               have hr5a : decide (y' / E = y / E) = true := by simpa using hp2
               have hr5b : (Int.tdiv y' E == Int.tdiv y E) = true := by rw [d3, d4]; exact hq5
               have hr5c : decide (Int.tdiv y' E = Int.tdiv y E) = true := by rw [d3, d4]; exact hr5a
               have HF := Lib.hid (callsB_apart (O := O) (E := E) (M := M) hjk HDD.out HC.out (fun h => ((apart_iff _ _ _).1 h).2.2 ⟨hmm, .inr hp2⟩))
               go_quiet (fail)
               go_wp2
               go_returns
               exact ⟨by rw [HF.out]; rfl, below_drewN (hbelW.alloc (by omega) _) _⟩
              ·
               have hq5 : (y' / E == y / E) = false := by simpa using hp2
               have hr6a : decide (y' / E = y / E) = false := by simpa using hp2
               have hr6b : (Int.tdiv y' E == Int.tdiv y E) = false := by rw [d3, d4]; exact hq5
               have hr6c : decide (Int.tdiv y' E = Int.tdiv y E) = false := by rw [d3, d4]; exact hr6a
               have HST : Hid (∀ i d, i < j + 1 → cs[i]? = some d → Apart E d (x, y, m)) := by
                intro i d hi hd
                by_cases e : i = j
                ·
                 subst e; rw [HDD.out] at hd; cases hd
                 exact (apart_iff _ _ _).2 ⟨hxx, hyy, fun h => by rcases h.2 with h | h; exact hp1 h; exact hp2 h⟩
                ·
                 exact hap.out i d (by omega) hd
               go_quiet (fail)
               go_wp2
               go_roundw
               case rel => exact ⟨j + 1, by omega, by go_num, HST.out, by (exact grownA)⟩
               case measure => simp [intOf]; omega
            ·
             have hq3 : ((m' : Int) == m) = false := by simpa using hmm
             have HST : Hid (∀ i d, i < j + 1 → cs[i]? = some d → Apart E d (x, y, m)) := by
              intro i d hi hd
              by_cases e : i = j
              ·
               subst e; rw [HDD.out] at hd; cases hd
               exact (apart_iff _ _ _).2 ⟨hxx, hyy, fun h => hmm h.1⟩
              ·
               exact hap.out i d (by omega) hd
             go_wp2_with fail
             go_quiet (fail)
             go_wp2
             go_roundw
             case rel => exact ⟨j + 1, by omega, by go_num, HST.out, by (exact grownA)⟩
             case measure => simp [intOf]; omega
         ·
          obtain rfl : j = k := by omega
          have hbelI : Below w1.heap.size w1 wr := hbel3.trans (Below.mono hbi hz3)
          have HST := Lib.hid (hok.out.step HC.out HAT.out hap.out)
          go_wp2_with fail
          go_roundw
          case rel => exact ⟨j + 1, by omega, by go_num, HST.out, hbelI⟩
          case measure => simp [intOf]; omega
   ·
    obtain rfl : k = n := by omega
    have HF := Lib.hid ((callsB_iff _ _ _ _).2 (ClTo.all HSH.out (by rw [HN.out]; exact hok.out)))
    have hbelE : Below w.heap.size w wo := by (exact grownA)
    go_wp2
    go_returns
    exact ⟨by rw [HF.out]; rfl, hbelE⟩

end Go.Proofs.YtedadhoneebfnaaGreatDoor

/- A quiet region behind a quiet region. -/
namespace Go.Proofs.YtedadhoneebfnaaGreatDoor
open Go.RowKit

theorem quiet_add_same {P : Program} {f : FuncId} {args : Array Value} {w : World} {a n : Nat} {v : Value}
  (h : Calls P f args (w.drewN (a + n)) fun e w' => e = .returned v ∧ w' = w.drewN (a + n)) :
  Calls P f args (w.drewN (a + n)) fun e w'' => e = .returned v ∧ ∃ m, w'' = w.drewN (a + m) :=
 h.mono fun _ _ ⟨he, hm⟩ => ⟨he, n, hm⟩
end Go.Proofs.YtedadhoneebfnaaGreatDoor
