/- Joined texts: Dd, Pl6, In, Dig, Rg, Dt, Ia, Dx. -/
import Derived.Test.YtedadhoneebfnaaGreatDoorLib
import Derived.WalkKit
import Derived.Test.YtedadhoneebfnaaGreatDoorRows
import Derived.Handy
import Derived.Deep.RegionHeld3
import Derived.Laws.IdiomStrings
import Derived.IntWalk
set_option linter.unusedSimpArgs false
set_option linter.unusedVariables false
/- Lists of deeds: their cells. -/
namespace Go.Proofs.YtedadhoneebfnaaGreatDoor
open Go.RowKit

/-- A deed: kind, line, number. -/
abbrev Ded := Int × Int × ByteArray
def dcells (ds : List Ded) : List Value := ds.flatMap fun d => [.int .i64 d.1, .int .i64 d.2.1, .string d.2.2]
theorem dcells_at (ds : List Ded) : ∀ (k : Nat) (d : Ded), ds[k]? = some d → (dcells ds)[k * 3]? = some (.int .i64 d.1) ∧ (dcells ds)[k * 3 + 1]? = some (.int .i64 d.2.1) ∧ (dcells ds)[k * 3 + 2]? = some (.string d.2.2) := by
 induction ds with
 | nil => intro k r h; simp at h
 | cons x rs ih =>
  intro k r h
  cases k with
  | zero => simp at h; subst h; simp [dcells]
  | succ k =>
   have h' : rs[k]? = some r := by simpa using h
   have := ih k r h'
   rw [show (k + 1) * 3 = k * 3 + 3 by omega]
   simpa [dcells, List.flatMap_cons] using this
theorem dcells_app (xs ys : List Ded) : dcells (xs ++ ys) = dcells xs ++ dcells ys := by simp [dcells, List.flatMap_append]
def DdLen (ds : List Ded) : Prop := ∀ (k : Nat) (d : Ded), ds[k]? = some d → d.2.2.size ≤ maxLen

end Go.Proofs.YtedadhoneebfnaaGreatDoor

/- Plain mathematics for the chapter on numbering plans: lengths and shares. No program in sight. -/
namespace Go.Proofs.YtedadhoneebfnaaGreatDoor
open Go.RowKit

def lenB (z : Int) : Bool := decide (1 ≤ z) && decide (z ≤ 3)
theorem lenB_iff (z : Int) : lenB z = true ↔ 1 ≤ z ∧ z ≤ 3 := by simp [lenB]
/-- Valid lengths. -/
def lensB (zs : List Int) : Bool := decide (zs.length ≤ 10) && zs.all lenB
theorem all_step {α : Type} (p : α → Bool) (zs : List α) (k : Nat) (z : α) (h : zs[k]? = some z) : (zs.take (k + 1)).all p = ((zs.take k).all p && p z) := by
 simp [List.take_add_one, h]
theorem all_no {α : Type} (p : α → Bool) (zs : List α) (k : Nat) (z : α) (h : zs[k]? = some z) (hz : p z = false) : zs.all p = false := by
 rw [List.all_eq_false]
 exact ⟨z, List.mem_of_getElem? h, by simpa using hz⟩
theorem lensB_at {zs : List Int} (h : lensB zs = true) (k : Nat) (z : Int) (hz : zs[k]? = some z) : 1 ≤ z ∧ z ≤ 3 := by
 simp only [lensB, Bool.and_eq_true, List.all_eq_true] at h
 exact (lenB_iff z).1 (h.2 z (List.mem_of_getElem? hz))
theorem lensB_len {zs : List Int} (h : lensB zs = true) : zs.length ≤ 10 := by
 simp only [lensB, Bool.and_eq_true, decide_eq_true_eq] at h
 exact h.1

/-- How many numbers of three digits begin with one of this length. -/
def shareN (z : Int) : Nat := 4 ^ (3 - z).toNat
def shareTo (zs : List Int) (k : Nat) : Nat := ((zs.take k).map shareN).sum
def shareR (zs : List Int) : Int := if lensB zs then (shareTo zs zs.length : Nat) else -1
theorem shareN_small (z : Int) (h : 0 ≤ z) : 1 ≤ shareN z ∧ shareN z ≤ 64 := by
 unfold shareN
 have h1 : (3 - z).toNat ≤ 3 := by omega
 have h2 := Nat.pow_le_pow_right (n := 4) (by omega) h1
 exact ⟨Nat.pow_pos (by omega), h2⟩
theorem shareTo_step (zs : List Int) (k : Nat) (z : Int) (h : zs[k]? = some z) : shareTo zs (k + 1) = shareTo zs k + shareN z := by
 simp [shareTo, List.take_add_one, h]
theorem shareTo_small {zs : List Int} (h : lensB zs = true) : ∀ k, k ≤ zs.length → shareTo zs k ≤ 64 * k := by
 intro k
 induction k with
 | zero => intro _; simp [shareTo]
 | succ k ih =>
  intro hk
  obtain ⟨z, hz⟩ : ∃ z, zs[k]? = some z := ⟨_, List.getElem?_eq_getElem (by omega)⟩
  rw [shareTo_step zs k z hz]
  have h1 := ih (by omega)
  have h2 := (shareN_small z (by have := lensB_at h k z hz; omega)).2
  omega

theorem share_all (zs : List Int) : shareTo zs zs.length = (zs.map shareN).sum := by simp [shareTo]
theorem shareR_bd (zs : List Int) : -1 ≤ shareR zs ∧ shareR zs ≤ 640 := by
 unfold shareR
 split
 ·
  rename_i h
  have h1 := shareTo_small h zs.length (Nat.le_refl _)
  have h2 := lensB_len h
  omega
 ·
  omega
end Go.Proofs.YtedadhoneebfnaaGreatDoor

/- l1In: whether a number lies between two bounds. -/
namespace Go.Proofs.YtedadhoneebfnaaGreatDoor
open Go.RowKit

set_option maxHeartbeats 400000 in
theorem sIn_any (x lo hi : Int) (w : World) :
  Calls Tryz.prog 100 #[.int .i64 x, .int .i64 lo, .int .i64 hi] w fun e w' => e = .returned (.bool (decide (lo ≤ x) && decide (x ≤ hi))) ∧ w = w' := by
 go_enter Tryz.func100, Tryz.ntmps100
 go_wp2
 all_goals
  go_returns
  refine ⟨?_, rfl⟩
  congr 2
  first | (simp; done) | (simp; omega) | (simp_all; done) | (simp_all; omega)

end Go.Proofs.YtedadhoneebfnaaGreatDoor

/- Contracts of DigitsOk (program and reference). -/
namespace Go.Proofs.YtedadhoneebfnaaGreatDoor
open Go.RowKit

def digB (c : UInt8) : Bool := decide (48 ≤ (c.toNat : Int)) && decide ((c.toNat : Int) ≤ 51)
def digsB (s : ByteArray) : Bool := s.data.toList.all digB
theorem bytes_at (s : ByteArray) (k : Nat) (h : k < s.size) : s.data.toList[k]? = some s[k] := by
 rw [List.getElem?_eq_getElem (by simpa using h)]; rfl

set_option maxHeartbeats 400000 in
theorem iDigitsOk_any (s : ByteArray) (w : World) (hs : s.size ≤ maxLen) :
  Calls Tryz.prog 66 #[.string s] w fun e w' => e = .returned (.bool (digsB s)) ∧ w = w' := by
 unfold maxLen at hs
 go_enter Tryz.func66, Tryz.ntmps66
 go_wp2_with fail
 go_loop [6] (fun i => ∃ k : Nat, k ≤ s.size ∧ i = .int .i64 k ∧ Hid ((s.data.toList.take k).all digB = true)) (fun i => s.size - (intOf i).toNat)
 case atStart => exact ⟨0, by omega, rfl, rfl⟩
 case round =>
  obtain ⟨k, hk, rfl, hall⟩ := hrel
  by_cases hkn : k < s.size
  ·
   have HZ := Lib.hid (bytes_at s k hkn)
   by_cases hb : 48 ≤ (s[k].toNat : Int) ∧ (s[k].toNat : Int) ≤ 51
   ·
    obtain ⟨q1, q2⟩ := hb
    have hd : digB s[k] = true := by simp only [digB, q1, q2, decide_true, Bool.and_self]
    have HD := Lib.hid hd
    have q3 : (s[k].toNat : Int) < 52 := by omega
    clear hd
    go_wp2_with fail
    go_round
    case rel => exact ⟨k + 1, by omega, by go_num, by unfold Hid; rw [all_step digB _ k _ HZ.out, hall.out, HD.out]; rfl⟩
    case measure => simp [intOf]; omega
   ·
    have hno : digB s[k] = false := by simp only [digB, Bool.and_eq_false_iff, decide_eq_false_iff_not]; omega
    have HF := Lib.hid (all_no digB _ k _ HZ.out hno)
    clear hno
    by_cases q1 : 48 ≤ (s[k].toNat : Int)
    ·
     have q2 : 52 ≤ (s[k].toNat : Int) := by omega
     clear hb
     go_wp2
     go_returns
     exact ⟨by rw [digsB, HF.out]; rfl, rfl⟩
    ·
     clear hb
     go_wp2
     go_returns
     exact ⟨by rw [digsB, HF.out]; rfl, rfl⟩
  ·
   obtain rfl : k = s.size := by omega
   have h1 := hall.out
   rw [List.take_of_length_le (by simp)] at h1
   have H1 := Lib.hid h1
   clear h1 hall
   go_wp2
   go_returns
   exact ⟨by rw [digsB, H1.out]; rfl, rfl⟩

set_option maxHeartbeats 400000 in
theorem sDigitsOk_any (s : ByteArray) (w : World) (hs : s.size ≤ maxLen) :
  Calls Tryz.prog 99 #[.string s] w fun e w' => e = .returned (.bool (digsB s)) ∧ w = w' := by
 unfold maxLen at hs
 go_enter Tryz.func99, Tryz.ntmps99
 go_wp2_with fail
 go_loop [3] (fun i => ∃ k : Nat, k ≤ s.size ∧ i = .int .i64 k ∧ Hid ((s.data.toList.take k).all digB = true)) (fun i => s.size - (intOf i).toNat)
 case atStart => exact ⟨0, by omega, rfl, rfl⟩
 case round =>
  obtain ⟨k, hk, rfl, hall⟩ := hrel
  by_cases hkn : k < s.size
  ·
   have HZ := Lib.hid (bytes_at s k hkn)
   have hc := s[k].toNat_lt
   have hx : (decide (0 ≤ ((s[k].toNat : Int) - 48) % 256) && decide (((s[k].toNat : Int) - 48) % 256 ≤ 3)) = digB s[k] := by
    unfold digB
    rw [Bool.eq_iff_iff]
    simp only [Bool.and_eq_true, decide_eq_true_eq]
    omega
   have HX := Lib.hid hx
   clear hx
   go_wp2_with fail
   refine (sIn_any _ _ _ _).mono ?_
   rintro e w1 ⟨rfl, rfl⟩
   rw [HX.out]
   obtain ⟨o, ho⟩ : ∃ o, digB s[k] = o := ⟨_, rfl⟩
   have HO := Lib.hid ho
   rw [ho]
   clear ho
   cases o
   ·
    have HF := Lib.hid (all_no digB _ k _ HZ.out HO.out)
    go_wp2
    go_returns
    exact ⟨by rw [digsB, HF.out]; rfl, rfl⟩
   ·
    have hq : 48 ≤ (s[k].toNat : Int) := by
     have := HO.out
     simp only [digB, Bool.and_eq_true, decide_eq_true_eq] at this
     exact this.1
    go_wp2_with fail
    go_round
    case rel => exact ⟨k + 1, by omega, by go_num, by unfold Hid; rw [all_step digB _ k _ HZ.out, hall.out, HO.out]; rfl⟩
    case measure => simp [intOf]; omega
  ·
   obtain rfl : k = s.size := by omega
   have h1 := hall.out
   rw [List.take_of_length_le (by simp)] at h1
   have H1 := Lib.hid h1
   clear h1 hall
   go_wp2
   go_returns
   exact ⟨by rw [digsB, H1.out]; rfl, rfl⟩

end Go.Proofs.YtedadhoneebfnaaGreatDoor

/- Steps through a region that draws its order, by hand: an operation is taken first, or left out where its guard is false. No program in sight. -/
namespace Go.Proofs.YtedadhoneebfnaaGreatDoor
open Go.RowKit

section
variable {P : Program} {ops : Array Oper} {Q : Exit → Act → World → Prop} {md : Region.Mode} {S : World → Prop}
theorem take_on {i : Nat} {oi : Oper} {v : Value} {d : Option Tmp} {fuel : Nat} {listed : Array Bool} {a : Act} {w : World} (hi : ops[i]? = some oi) (hd : oi.dst = d)
  (hs : Region.noSelect ops = true) (hf : Region.free md ops listed i = true) (hr : (Region.ready md ops listed).contains i = true)
  (hQ : ∀ c a w, Q (.panic c) (a.put d v) w → Q (.panic c) a w) (hy : YieldsIf P ops S oi v a) (hS : S w)
  (h : wpAnyH P md ops Q S fuel (listed.setIfInBounds i true) (a.put d v) w) : wpAnyH P md ops Q S (fuel + 1) listed a w := by
 subst hd
 exact wpAnyH_take hi hs hf hr hQ hy hS h
/-- An operation that yields, shortly. -/
theorem take_y {S : World → Prop} (i d : Nat) {oi : Oper} {v : Value} {fuel : Nat} {listed : Array Bool} {a : Act} {w : World} (hi : ops[i]? = some oi)
  (hv : ∀ w, S w → (execOp a.eval oi).run P w = .ok (.value v) w) (h : wpAnyH P md ops Q S fuel (listed.setIfInBounds i true) (a.put (some d) v) w)
  (hd : oi.dst = some d := by rfl) (hs : Region.noSelect ops = true := by kernel_rfl) (hf : Region.free md ops listed i = true := by kernel_rfl) (hr : (Region.ready md ops listed).contains i = true := by kernel_rfl)
  (hQ : ∀ c a w, Q (.panic c) (a.put (some d) v) w → Q (.panic c) a w := by exact fun _ _ _ h => h) (hw : Region.wanted oi (yielded ops a.tmps) = true := by kernel_rfl) (hS : S w := by assumption) :
  wpAnyH P md ops Q S (fuel + 1) listed a w := take_on hi hd hs hf hr hQ (Or.inl ⟨hw, hv⟩) hS h
end

end Go.Proofs.YtedadhoneebfnaaGreatDoor

/- Texts of deeds: contracts of DeedText (program and reference) and what they call. -/
namespace Go.Proofs.YtedadhoneebfnaaGreatDoor
open Go.RowKit

def dg (n : Nat) : UInt8 := UInt8.ofNat (48 + n)
theorem dg_nat (n : Nat) (h : n ≤ 9) : ((dg n).toNat : Int) = 48 + (n : Int) := by unfold dg; simp; omega
/-- A number of at most two digits. -/
def two (n : Nat) : ByteArray := if n < 10 then ⟨#[dg n]⟩ else ⟨#[dg (n / 10)]⟩ ++ ⟨#[dg (n % 10)]⟩
theorem two_size (n : Nat) : (two n).size ≤ 2 := by
 unfold two
 split
 ·
  show (1 : Nat) ≤ 2; omega
 ·
  rw [ByteArray.size_append]; show (1 : Nat) + 1 ≤ 2; omega

set_option maxRecDepth 100000 in
set_option maxHeartbeats 1000000 in
theorem num1 (n : Nat) (w : World) (h : n < 10) :
  Calls Tryz.prog 81 #[.int .i64 n] w fun e w' => e = .returned (.string ⟨#[dg n]⟩) ∧ Below w.heap.size w w' := by
 have hc := dg_nat n (by omega)
 have hcv : (convert 42 9 (.slice (some ⟨w.heap.size, 0, none⟩) 1 1)).run Tryz.prog (w.alloc (.cells #[.int .u8 (48 + (n : Int))] 5)) = .ok (.string ⟨#[dg n]⟩) (w.alloc (.cells #[.int .u8 (48 + (n : Int))] 5)) :=
  run_convert_bytes_back _ _ _ 5 _ 1 [dg n] Tryz.underlying42 Tryz.underlying5 Tryz.underlying9 (by intro i hi; simp at hi; subst hi; rw [Addr.add_spot, World.cell?_alloc_at _ _ _ _ rfl]; simp [hc])
 have h1 : ¬ (n : Int) < 0 := by omega
 clear hc
 go_enter Tryz.func81, Tryz.ntmps81
 go_wp2
 go_returns
 exact ⟨rfl, by (exact grownA)⟩


set_option maxRecDepth 100000 in
set_option maxHeartbeats 1000000 in
theorem l1Number_any (n : Nat) (w : World) (h : n ≤ 99) :
  Calls Tryz.prog 81 #[.int .i64 n] w fun e w' => e = .returned (.string (two n)) ∧ Below w.heap.size w w' := by
 by_cases hn : n < 10
 ·
  have : two n = ⟨#[dg n]⟩ := by unfold two; rw [if_pos hn]
  rw [this]
  exact num1 n w hn
 ·
  have HT : Hid (two n = ⟨#[dg (n / 10)]⟩ ++ ⟨#[dg (n % 10)]⟩) := by unfold Hid two; rw [if_neg hn]
  have hc := dg_nat (n % 10) (by omega)
  have h1 : ¬ (n : Int) < 0 := by omega
  have h2 : ¬ (n : Int) < 10 := by omega
  have h3 : (n : Int) / 10 = ((n / 10 : Nat) : Int) := by omega
  have H3 := Lib.hid h3
  have hs1 : IntKind.i64.wrap ((n : Int) / 10) = (n : Int) / 10 := IntWalk.i64_in _ (by omega)
  have hs2 : IntKind.i64.wrap ((n : Int) % 10) = (n : Int) % 10 := IntWalk.i64_in _ (by omega)
  have hs4 : Int.tmod (n : Int) 10 = (n : Int) % 10 := Int.tmod_eq_emod_of_nonneg (by omega)
  have hs5 : IntKind.u8.wrap (48 + (n : Int) % 10) = 48 + (n : Int) % 10 := by rw [show (48 + (n : Int) % 10) = ((48 + n % 10 : Nat) : Int) by omega]; exact IntWalk.u8_in _ (by omega)
  have hs3 : IntKind.i64.wrap (48 + (n : Int) % 10) = 48 + (n : Int) % 10 := IntWalk.i64_in _ (by omega)
  have HCV : Hid (∀ (W : World) (b : Nat), W.cell? ⟨b, 0, none⟩ = some (.int .u8 (48 + (n : Int) % 10)) → (convert 42 9 (.slice (some ⟨b, 0, none⟩) 1 1)).run Tryz.prog W = .ok (.string ⟨#[dg (n % 10)]⟩) W) := fun W b hb =>
   run_convert_bytes_back _ _ _ 5 _ 1 [dg (n % 10)] Tryz.underlying42 Tryz.underlying5 Tryz.underlying9 (by intro i hi; simp at hi; subst hi; rw [Addr.add_spot, hb]; simp [hc])
  have KN : Hid (∀ W : World, Calls Tryz.prog 81 #[.int .i64 ((n : Int) / 10)] W fun e w' => e = .returned (.string ⟨#[dg (n / 10)]⟩) ∧ Below W.heap.size W w') := fun W => by rw [h3]; exact num1 (n / 10) W (by omega)
  clear hc h3
  go_enter Tryz.func81, Tryz.ntmps81
  go_wp2_with fail
  refine wp_region_held_drew (S := fun _ => True) (by kernel_rfl) trivial (fun hHeld => ?_)
  refine take_y 0 24 (v := ?_) rfl ?_ ?_; rotate_left; focus (intro w hSw; (try dsimp only at hSw); go_simp; (try rw [if_neg (by omega)]); (try with_reducible rfl))
  try simp only [Act.put, zp1, zp2, zp3]
  refine take_y 1 25 (v := ?_) rfl ?_ ?_; rotate_left; focus (intro w hSw; (try dsimp only at hSw); go_simp; (try rw [if_neg (by omega)]); (try with_reducible rfl))
  try simp only [Act.put, zp1, zp2, zp3]
  refine take_y 3 27 (v := ?_) rfl ?_ ?_; rotate_left; focus (intro w hSw; (try dsimp only at hSw); go_simp; (try rw [if_neg (by omega)]); (try with_reducible rfl))
  try simp only [Act.put, zp1, zp2, zp3]
  refine take_y 4 28 (v := ?_) rfl ?_ ?_; rotate_left; focus (intro w hSw; (try dsimp only at hSw); go_simp; (try rw [if_neg (by omega)]); (try with_reducible rfl))
  try simp only [Act.put, zp1, zp2, zp3]
  refine take_y 5 29 (v := ?_) rfl ?_ ?_; rotate_left; focus (intro w hSw; (try dsimp only at hSw); go_simp; (try rw [if_neg (by omega)]); (try with_reducible rfl))
  try simp only [Act.put, zp1, zp2, zp3]
  refine take_y 6 30 (v := ?_) rfl ?_ ?_; rotate_left; focus (intro w hSw; (try dsimp only at hSw); go_simp; (try rw [if_neg (by omega)]); (try with_reducible rfl))
  try simp only [Act.put, zp1, zp2, zp3]
  refine wpAnyH_ready (rs := [2, 7]) (by kernel_rfl) (by simp) ?_
  refine AllReadyH.cons rfl (fun K hK => ?_) (AllReadyH.cons rfl (fun K hK => ?_) AllReadyH.nil)
  ·
   go_simp
   refine (KN.out _).mono ?_
   rintro e w2 ⟨rfl, hb2⟩
   refine hK.out _ _ trivial (fun hHeld2 => ?_)
   clear hHeld hK K; have hHeld := hHeld2; clear hHeld2; try simp only [Act.put, zp1, zp2, zp3]
   have hbel2 : Below w.heap.size w w2 := by (exact grownA)
   clear hb2
   refine wpAnyH_ready (rs := [7]) (by kernel_rfl) (by simp) ?_
   refine AllReadyH.cons rfl (fun K hK => ?_) AllReadyH.nil
   go_simp
   refine hK.out _ _ trivial (fun hHeld2 => ?_)
   clear hHeld hK K; have hHeld := hHeld2; clear hHeld2; try simp only [Act.put, zp1, zp2, zp3]
   have hcv := HCV.out (w2.alloc (.cells #[.int .u8 (48 + (n : Int) % 10)] 5)) w2.heap.size (by simp [go_sem])
   refine wpAnyH_ready (rs := [8]) (by kernel_rfl) (by simp) ?_
   refine AllReadyH.cons rfl (fun K hK => ?_) AllReadyH.nil
   go_simp
   refine hK.out _ _ trivial (fun hHeld2 => ?_)
   clear hHeld hK K; have hHeld := hHeld2; clear hHeld2; try simp only [Act.put, zp1, zp2, zp3]
   refine take_y 9 33 (v := ?_) rfl ?_ ?_; rotate_left; focus (intro w hSw; (try dsimp only at hSw); go_simp; (try rw [if_neg (by omega)]); (try with_reducible rfl))
   try simp only [Act.put, zp1, zp2, zp3]
   refine take_y 10 2 (v := ?_) rfl ?_ ?_; rotate_left; focus (intro w hSw; (try dsimp only at hSw); go_simp; (try rw [if_neg (by omega)]); (try with_reducible rfl))
   try simp only [Act.put, zp1, zp2, zp3]
   refine wpAnyH_done (by kernel_rfl) ?_ _
   clear hHeld
   go_wp2
   go_returns
   exact ⟨by rw [HT.out]; rfl, by (exact grownA)⟩
  ·
   go_simp
   refine hK.out _ _ trivial (fun hHeld2 => ?_)
   clear hHeld hK K; have hHeld := hHeld2; clear hHeld2; try simp only [Act.put, zp1, zp2, zp3]
   have hcell : (w.alloc (.cells #[.int .u8 (48 + (n : Int) % 10)] 5)).drew.cell? ⟨w.heap.size, 0, none⟩ = some (.int .u8 (48 + (n : Int) % 10)) := by simp [go_sem]
   have hbel1 : Below w.heap.size w (w.alloc (.cells #[.int .u8 (48 + (n : Int) % 10)] 5)).drew := by (exact grownA)
   refine wpAnyH_ready (rs := [2, 8]) (by kernel_rfl) (by simp) ?_
   refine AllReadyH.cons rfl (fun K hK => ?_) (AllReadyH.cons rfl (fun K hK => ?_) AllReadyH.nil)
   ·
    go_simp
    refine (KN.out _).mono ?_
    rintro e w2 ⟨rfl, hb2⟩
    refine hK.out _ _ trivial (fun hHeld2 => ?_)
    clear hHeld hK K; have hHeld := hHeld2; clear hHeld2; try simp only [Act.put, zp1, zp2, zp3]
    have hcv := HCV.out w2 w.heap.size (keep_below hb2 hcell)
    have hbel2 : Below w.heap.size w w2 := hbel1.trans (Below.mono hb2 hbel1.size)
    clear hb2
    refine wpAnyH_ready (rs := [8]) (by kernel_rfl) (by simp) ?_
    refine AllReadyH.cons rfl (fun K hK => ?_) AllReadyH.nil
    go_simp
    refine hK.out _ _ trivial (fun hHeld2 => ?_)
    clear hHeld hK K; have hHeld := hHeld2; clear hHeld2; try simp only [Act.put, zp1, zp2, zp3]
    refine take_y 9 33 (v := ?_) rfl ?_ ?_; rotate_left; focus (intro w hSw; (try dsimp only at hSw); go_simp; (try rw [if_neg (by omega)]); (try with_reducible rfl))
    try simp only [Act.put, zp1, zp2, zp3]
    refine take_y 10 2 (v := ?_) rfl ?_ ?_; rotate_left; focus (intro w hSw; (try dsimp only at hSw); go_simp; (try rw [if_neg (by omega)]); (try with_reducible rfl))
    try simp only [Act.put, zp1, zp2, zp3]
    refine wpAnyH_done (by kernel_rfl) ?_ _
    clear hHeld
    go_wp2
    go_returns
    exact ⟨by rw [HT.out]; rfl, hbel2⟩
   ·
    have hcv := HCV.out (w.alloc (.cells #[.int .u8 (48 + (n : Int) % 10)] 5)).drew w.heap.size hcell
    go_simp
    refine hK.out _ _ trivial (fun hHeld2 => ?_)
    clear hHeld hK K; have hHeld := hHeld2; clear hHeld2; try simp only [Act.put, zp1, zp2, zp3]
    refine wpAnyH_ready (rs := [2]) (by kernel_rfl) (by simp) ?_
    refine AllReadyH.cons rfl (fun K hK => ?_) AllReadyH.nil
    go_simp
    refine (KN.out _).mono ?_
    rintro e w2 ⟨rfl, hb2⟩
    refine hK.out _ _ trivial (fun hHeld2 => ?_)
    clear hHeld hK K; have hHeld := hHeld2; clear hHeld2; try simp only [Act.put, zp1, zp2, zp3]
    have hbel2 : Below w.heap.size w w2 := hbel1.trans (Below.mono hb2 hbel1.size)
    clear hb2
    refine take_y 9 33 (v := ?_) rfl ?_ ?_; rotate_left; focus (intro w hSw; (try dsimp only at hSw); go_simp; (try rw [if_neg (by omega)]); (try with_reducible rfl))
    try simp only [Act.put, zp1, zp2, zp3]
    refine take_y 10 2 (v := ?_) rfl ?_ ?_; rotate_left; focus (intro w hSw; (try dsimp only at hSw); go_simp; (try rw [if_neg (by omega)]); (try with_reducible rfl))
    try simp only [Act.put, zp1, zp2, zp3]
    refine wpAnyH_done (by kernel_rfl) ?_ _
    clear hHeld
    go_wp2
    go_returns
    exact ⟨by rw [HT.out]; rfl, hbel2⟩

end Go.Proofs.YtedadhoneebfnaaGreatDoor

/- Contract of strconv.Itoa for 0 to 99. -/
namespace Go.Proofs.YtedadhoneebfnaaGreatDoor
open Go.RowKit

theorem ret_str {a b : ByteArray} (h : a = b) : Ending.returned (.string a) = .returned (.string b) := by rw [h]
set_option maxRecDepth 100000 in
theorem digs_cut : ∀ n, n < 10 → (⟨#[48, 49, 50, 51, 52, 53, 54, 55, 56, 57, 97, 98, 99, 100, 101, 102, 103, 104, 105, 106, 107, 108, 109, 110, 111, 112, 113, 114, 115, 116, 117, 118, 119, 120, 121, 122]⟩ : ByteArray).extract n (n + 1) = two n := by decide +kernel
set_option maxRecDepth 100000 in
theorem small_cut : ∀ n, n < 100 → 10 ≤ n → (⟨#[48, 48, 48, 49, 48, 50, 48, 51, 48, 52, 48, 53, 48, 54, 48, 55, 48, 56, 48, 57, 49, 48, 49, 49, 49, 50, 49, 51, 49, 52, 49, 53, 49, 54, 49, 55, 49, 56, 49, 57, 50, 48, 50, 49, 50, 50, 50, 51, 50, 52, 50, 53, 50, 54, 50, 55, 50, 56, 50, 57, 51, 48, 51, 49, 51, 50, 51, 51, 51, 52, 51, 53, 51, 54, 51, 55, 51, 56, 51, 57, 52, 48, 52, 49, 52, 50, 52, 51, 52, 52, 52, 53, 52, 54, 52, 55, 52, 56, 52, 57, 53, 48, 53, 49, 53, 50, 53, 51, 53, 52, 53, 53, 53, 54, 53, 55, 53, 56, 53, 57, 54, 48, 54, 49, 54, 50, 54, 51, 54, 52, 54, 53, 54, 54, 54, 55, 54, 56, 54, 57, 55, 48, 55, 49, 55, 50, 55, 51, 55, 52, 55, 53, 55, 54, 55, 55, 55, 56, 55, 57, 56, 48, 56, 49, 56, 50, 56, 51, 56, 52, 56, 53, 56, 54, 56, 55, 56, 56, 56, 57, 57, 48, 57, 49, 57, 50, 57, 51, 57, 52, 57, 53, 57, 54, 57, 55, 57, 56, 57, 57]⟩ : ByteArray).extract (n * 2) (n * 2 + 2) = two n := by decide +kernel

set_option maxRecDepth 100000 in
set_option maxHeartbeats 1000000 in
theorem small_any (n : Nat) (w : World) (h : n ≤ 99) :
  Calls Tryz.prog 140 #[.int .i64 n] w fun e w' => e = .returned (.string (two n)) ∧ w = w' := by
 by_cases hn : n < 10
 ·
  go_enter Tryz.func140, Tryz.ntmps140
  go_wp2
  go_returns
  exact ⟨ret_str (digs_cut n hn), rfl⟩
 ·
  have h2 : ¬ (n : Int) < 10 := by omega
  go_enter Tryz.func140, Tryz.ntmps140
  go_wp2
  go_returns
  exact ⟨ret_str (small_cut n (by omega) (by omega)), rfl⟩

set_option maxRecDepth 100000 in
set_option maxHeartbeats 1000000 in
theorem itoa_any (n : Nat) (w : World) (h : n ≤ 99) :
  Calls Tryz.prog 65 #[.int .i64 n] w fun e w' => e = .returned (.string (two n)) ∧ w = w' := by
 have K2 : Hid (∀ w : World, Calls Tryz.prog 125 #[.int .i64 n, .int .i64 10] w fun e w' => e = .returned (.string (two n)) ∧ w = w') := by
  intro w
  have h3 : (0 : Int) ≤ (n : Int) := by omega
  have h4 : (n : Int) < 100 := by omega
  go_enter Tryz.func125, Tryz.ntmps125
  go_wp2_with fail
  refine (small_any n _ h).mono ?_
  rintro e w1 ⟨rfl, rfl⟩
  go_wp2
  go_returns
  exact ⟨rfl, rfl⟩
 have K1 : Hid (∀ w : World, Calls Tryz.prog 106 #[.int .i64 n] w fun e w' => e = .returned (.string (two n)) ∧ w = w') := by
  intro w
  go_enter Tryz.func106, Tryz.ntmps106
  go_wp2_with fail
  refine (K2.out _).mono ?_
  rintro e w1 ⟨rfl, rfl⟩
  go_wp2
  go_returns
  exact ⟨rfl, rfl⟩
 go_enter Tryz.func65, Tryz.ntmps65
 go_wp2_with fail
 first
  | refine (K1.out _).mono ?_
  | refine (K2.out _).mono ?_
 rintro e w1 ⟨rfl, rfl⟩
 go_wp2
 go_returns
 exact ⟨rfl, rfl⟩

end Go.Proofs.YtedadhoneebfnaaGreatDoor

/- Contracts of DeedText (program and reference). -/
namespace Go.Proofs.YtedadhoneebfnaaGreatDoor
open Go.RowKit

def numD (s : ByteArray) : Bool := (decide (1 ≤ s.size) && decide (s.size ≤ 3)) && digsB s
/-- The text of a deed; none if there is none. -/
def dtxt (k l : Int) (s : ByteArray) : ByteArray :=
 if l < 0 ∨ 99 < l then ByteArray.empty
 else if k = 1 then (if s.size = 0 then ⟨#[100, 114, 111, 112, 32]⟩ ++ two l.toNat else ByteArray.empty)
 else if numD s = false then ByteArray.empty
 else if k = 0 then ((⟨#[99, 97, 108, 108, 32]⟩ ++ two l.toNat) ++ ⟨#[32]⟩) ++ s
 else if k = 2 then ((⟨#[110, 117, 109, 98, 101, 114, 32]⟩ ++ two l.toNat) ++ ⟨#[32]⟩) ++ s
 else ByteArray.empty
theorem dtxt_far {k l : Int} {s : ByteArray} (h : l < 0 ∨ 99 < l) : dtxt k l s = ByteArray.empty := by unfold dtxt; rw [if_pos h]
theorem dtxt_in {k : Int} {n : Nat} {s : ByteArray} (h : n ≤ 99) : dtxt k n s = if k = 1 then (if s.size = 0 then ⟨#[100, 114, 111, 112, 32]⟩ ++ two n else ByteArray.empty)
 else if numD s = false then ByteArray.empty
 else if k = 0 then ((⟨#[99, 97, 108, 108, 32]⟩ ++ two n) ++ ⟨#[32]⟩) ++ s
 else if k = 2 then ((⟨#[110, 117, 109, 98, 101, 114, 32]⟩ ++ two n) ++ ⟨#[32]⟩) ++ s
 else ByteArray.empty := by unfold dtxt; rw [if_neg (by omega)]; rfl
theorem empty_of {s : ByteArray} (h : s.size = 0) : s = ByteArray.empty := by
 apply bytes_ext
 have : s.data.toList.length = 0 := by simpa using h
 rw [List.length_eq_zero_iff.1 this]; rfl
theorem some_of {s : ByteArray} (h : ¬ s.size = 0) : s.toList ≠ [] ∧ s.toList.isEmpty = false := by
 have h1 : s.toList ≠ [] := by
  intro e
  rw [ByteArray.toList_eq] at e
  exact h (by have := congrArg List.length e; simpa using this)
 exact ⟨h1, by cases hh : s.toList with | nil => exact absurd hh h1 | cons => rfl⟩

set_option maxRecDepth 100000 in
set_option maxHeartbeats 1000000 in
theorem iDeedText_any (k l : Int) (s : ByteArray) (w : World) (hs : s.size ≤ maxLen) :
  Calls Tryz.prog 27 #[.agg #[.int .i64 k, .int .i64 l, .string s]] w fun e w' => e = .returned (.string (dtxt k l s)) ∧ Below w.heap.size w w' := by
 by_cases h0 : l < 0
 ·
  have HF := Lib.hid (dtxt_far (k := k) (s := s) (.inl h0))
  go_enter Tryz.func27, Tryz.ntmps27
  go_wp2
  go_returns
  exact ⟨by rw [HF.out]; rfl, by (exact grownA)⟩
 by_cases h9 : 99 < l
 ·
  have HF := Lib.hid (dtxt_far (k := k) (s := s) (.inr h9))
  go_enter Tryz.func27, Tryz.ntmps27
  go_wp2
  go_returns
  exact ⟨by rw [HF.out]; rfl, by (exact grownA)⟩
 obtain ⟨n, rfl⟩ := Int.eq_ofNat_of_zero_le (show 0 ≤ l by omega)
 have hn : n ≤ 99 := by omega
 have HT := Lib.hid (dtxt_in (k := k) (s := s) hn)
 have ht2 : (two n).size ≤ 2 := two_size n
 have hs' := hs
 unfold maxLen at hs
 have hbel : Below w.heap.size w (w.alloc (.cells #[.int .i64 k, .int .i64 (n : Nat), .string s] 55)) := by (exact grownA)
 have hB := Blk.new (w := w) (cs := #[.int .i64 k, .int .i64 (n : Nat), .string s]) (T := 55) rfl
 obtain ⟨t1, t2, t3, _, _, _, tlt⟩ := hB.three
 by_cases hk1 : k = 1
 ·
  by_cases hz : s.size = 0
  ·
   have HV : Hid (dtxt k n s = ⟨#[100, 114, 111, 112, 32]⟩ ++ two n) := by unfold Hid; rw [HT.out, if_pos hk1, if_pos hz]
   clear HT
   obtain rfl := empty_of hz
   rw [show (ByteArray.empty : ByteArray) = ⟨#[]⟩ from rfl] at *
   subst hk1
   clear hz
   go_enter Tryz.func27, Tryz.ntmps27
   go_wp2_with fail
   refine (itoa_any n _ hn).mono ?_
   rintro e w1 ⟨rfl, rfl⟩
   go_wp2
   go_returns
   exact ⟨by rw [HV.out]; rfl, hbel⟩
  ·
   have HV : Hid (dtxt k n s = ByteArray.empty) := by unfold Hid; rw [HT.out, if_pos hk1, if_neg hz]
   clear HT
   obtain ⟨hz1, hz2⟩ := some_of hz
   subst hk1
   clear hz
   go_enter Tryz.func27, Tryz.ntmps27
   go_wp2_with fail
   refine (itoa_any n _ hn).mono ?_
   rintro e w1 ⟨rfl, rfl⟩
   go_wp2
   go_returns
   exact ⟨by rw [HV.out]; rfl, hbel⟩
 ·
  have hq1 : ((k : Int) == 1) = false := by simpa using hk1
  by_cases h1 : s.size < 1
  ·
   have HF : Hid (dtxt k n s = ByteArray.empty) := by
    unfold Hid
    rw [HT.out, if_neg hk1, if_pos]
    simp [numD]; intro h; omega
   clear HT hk1
   go_enter Tryz.func27, Tryz.ntmps27
   go_wp2_with fail
   refine (itoa_any n _ hn).mono ?_
   rintro e w1 ⟨rfl, rfl⟩
   go_wp2
   go_returns
   exact ⟨by rw [HF.out]; rfl, hbel⟩
  by_cases h3 : 3 < s.size
  ·
   have HF : Hid (dtxt k n s = ByteArray.empty) := by
    unfold Hid
    rw [HT.out, if_neg hk1, if_pos]
    simp [numD]; intro h h'; omega
   clear HT hk1
   go_enter Tryz.func27, Tryz.ntmps27
   go_wp2_with fail
   refine (itoa_any n _ hn).mono ?_
   rintro e w1 ⟨rfl, rfl⟩
   go_wp2
   go_returns
   exact ⟨by rw [HF.out]; rfl, hbel⟩
  obtain ⟨d, hd⟩ : ∃ d, digsB s = d := ⟨_, rfl⟩
  have HD : numD s = d := by
   have e1 : 1 ≤ s.size := by omega
   have e3 : s.size ≤ 3 := by omega
   simp [numD, hd, e1, e3]
  have hs3 : s.size ≤ 3 := by omega
  have HN : Hid (d = false → dtxt k n s = ByteArray.empty) := by
   unfold Hid; rintro rfl; rw [HT.out, if_neg hk1, if_pos HD]
  have H0 : Hid (d = true → k = 0 → dtxt k n s = ((⟨#[99, 97, 108, 108, 32]⟩ ++ two n) ++ ⟨#[32]⟩) ++ s) := by
   unfold Hid; rintro rfl h; rw [HT.out, if_neg hk1, if_neg (by rw [HD]; simp), if_pos h]
  have H2 : Hid (d = true → k = 2 → dtxt k n s = ((⟨#[110, 117, 109, 98, 101, 114, 32]⟩ ++ two n) ++ ⟨#[32]⟩) ++ s) := by
   unfold Hid; rintro rfl h; rw [HT.out, if_neg hk1, if_neg (by rw [HD]; simp), if_neg (by omega), if_pos h]
  have HE : Hid (d = true → k ≠ 0 → k ≠ 2 → dtxt k n s = ByteArray.empty) := by
   unfold Hid; rintro rfl h h'; rw [HT.out, if_neg hk1, if_neg (by rw [HD]; simp), if_neg h, if_neg h']
  have HDD := Lib.hid hd
  clear hd HD hk1 HT
  by_cases hk0 : k = 0
  ·
   have H0' : Hid (d = true → dtxt k n s = ((⟨#[99, 97, 108, 108, 32]⟩ ++ two n) ++ ⟨#[32]⟩) ++ s) := fun h => H0.out h hk0
   clear H0 H2 HE
   subst hk0
   clear hq1
   go_enter Tryz.func27, Tryz.ntmps27
   go_wp2_with fail
   refine (itoa_any n _ hn).mono ?_
   rintro e w1 ⟨rfl, rfl⟩
   go_wp2_with fail
   refine (iDigitsOk_any s _ hs').mono ?_
   rintro e w1 ⟨rfl, rfl⟩
   rw [HDD.out]
   cases d
   ·
    have HV := Lib.hid (HN.out rfl)
    clear HN H0'
    go_wp2
    go_returns
    exact ⟨by rw [HV.out]; rfl, hbel⟩
   ·
    have HV := Lib.hid (H0'.out rfl)
    clear HN H0'
    go_wp2
    go_returns
    exact ⟨by rw [HV.out]; rfl, hbel⟩
  ·
   have hq0 : ((k : Int) == 0) = false := by simpa using hk0
   by_cases hk2 : k = 2
   ·
    have H2' : Hid (d = true → dtxt k n s = ((⟨#[110, 117, 109, 98, 101, 114, 32]⟩ ++ two n) ++ ⟨#[32]⟩) ++ s) := fun h => H2.out h hk2
    clear H0 H2 HE hk0
    subst hk2
    clear hq1 hq0
    go_enter Tryz.func27, Tryz.ntmps27
    go_wp2_with fail
    refine (itoa_any n _ hn).mono ?_
    rintro e w1 ⟨rfl, rfl⟩
    go_wp2_with fail
    refine (iDigitsOk_any s _ hs').mono ?_
    rintro e w1 ⟨rfl, rfl⟩
    rw [HDD.out]
    cases d
    ·
     have HV := Lib.hid (HN.out rfl)
     clear HN H2'
     go_wp2
     go_returns
     exact ⟨by rw [HV.out]; rfl, hbel⟩
    ·
     have HV := Lib.hid (H2'.out rfl)
     clear HN H2'
     go_wp2
     go_returns
     exact ⟨by rw [HV.out]; rfl, hbel⟩
   ·
    have hq2 : ((k : Int) == 2) = false := by simpa using hk2
    have HE' : Hid (d = true → dtxt k n s = ByteArray.empty) := fun h => HE.out h hk0 hk2
    clear H0 H2 HE hk0 hk2
    go_enter Tryz.func27, Tryz.ntmps27
    go_wp2_with fail
    refine (itoa_any n _ hn).mono ?_
    rintro e w1 ⟨rfl, rfl⟩
    go_wp2_with fail
    refine (iDigitsOk_any s _ hs').mono ?_
    rintro e w1 ⟨rfl, rfl⟩
    rw [HDD.out]
    cases d
    ·
     have HV := Lib.hid (HN.out rfl)
     clear HN HE'
     go_wp2
     go_returns
     exact ⟨by rw [HV.out]; rfl, hbel⟩
    ·
     have HV := Lib.hid (HE'.out rfl)
     clear HN HE'
     go_wp2
     go_returns
     exact ⟨by rw [HV.out]; rfl, hbel⟩

end Go.Proofs.YtedadhoneebfnaaGreatDoor
