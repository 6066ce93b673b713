/- The walk of the law of ReadJournal (printed by gen_az.py). -/
import Derived.Test.YtedadhoneebfnaaGreatDoorWj
import Derived.Test.YtedadhoneebfnaaGreatDoorDwe
import Derived.Test.YtedadhoneebfnaaGreatDoorJs
import Derived.Test.YtedadhoneebfnaaGreatDoorJu
import Derived.Test.YtedadhoneebfnaaGreatDoorTl
import Derived.Test.YtedadhoneebfnaaGreatDoorSm
import Derived.Test.YtedadhoneebfnaaGreatDoorAlive
set_option linter.unusedSimpArgs false
set_option linter.unusedVariables false
namespace Go.Proofs.YtedadhoneebfnaaGreatDoor
open Go.RowKit

theorem dcells_takeJ (ds : List Ded) : ∀ k : Nat, dcells (ds.take k) = (dcells ds).take (k * 3) := by
 induction ds with
 | nil => intro k; simp [dcells]
 | cons d ds ih =>
  intro k
  cases k with
  | zero => simp [dcells]
  | succ k =>
   have := ih k
   rw [show (k + 1) * 3 = k * 3 + 3 by omega]
   simp only [dcells, List.take_succ_cons, List.flatMap_cons] at this ⊢
   rw [this]
   simp
theorem dt_num {d : Ded} (h : (dt d).size ≠ 0) : d.2.2.size ≤ 13 := by
 have h1 := dt_size d
 obtain ⟨n, hn, hl, h2⟩ := dt_is h
 have h3 := tl_size d.2.2
 have h4 := tl_size (dt d)
 rcases h2 with ⟨_, h5, _⟩ | ⟨_, _, h5⟩ | ⟨_, _, h5⟩
 ·
  rw [h5] at h3; simp at h3; omega
 ·
  have := congrArg List.length h5
  simp only [List.length_append, List.length_cons] at this
  omega
 ·
  have := congrArg List.length h5
  simp only [List.length_append, List.length_cons] at this
  omega
theorem jok_at {zs : List Ded} (h : jok zs = true) {k : Nat} {z : Ded} (hz : zs[k]? = some z) : (dt z).size ≠ 0 := by
 have := List.all_eq_true.1 h z (List.mem_of_getElem? hz)
 simpa using this
theorem tl_extr (s : ByteArray) (k : Nat) : tl (s.extract 0 k) = (tl s).take k := by simp [tl, ByteArray.data_extract]

set_option maxRecDepth 100000 in
set_option maxHeartbeats 40000000 in
theorem wReadJournal (a : Option Addr) (len cap : Nat) (zs0 : List Int) (a1 : Option Addr) (len1 cap1 : Nat) (zs1 : List Int) (w : World) (h0 : IsRow .u8 w a len cap zs0) (h1 : IsRow .u8 w a1 len1 cap1 zs1) :
  Calls Tryz.prog 4 #[.slice a len cap, .slice a1 len1 cap1] w fun e w' => e = .returned (.bool true) ∧ Below w.heap.size w w' := by
 have h := h0.code
 have hm := h.bd
 have h' := h1.code
 have hm' := h'.bd
 by_cases hbig : len > 1048576
 ·
  go_enter Tryz.func4, Tryz.ntmps4
  go_wp2
  go_returns
  exact ⟨rfl, Below.refl _ _⟩
 by_cases hbig1 : len1 > 1048576
 ·
  go_enter Tryz.func4, Tryz.ntmps4
  go_wp2
  go_returns
  exact ⟨rfl, Below.refl _ _⟩
 go_enter Tryz.func4, Tryz.ntmps4
 go_wp2_with fail
 refine (DrawReadJournal_any _ _ _ _ _ h).mono ?_
 rintro e w1 ⟨s, rfl, hs400, hbel⟩
 have H1 := Lib.hid h'
 clear h h0 hbig hm h1 hbig1 hm' h'
 have HS : Hid (s.size ≤ 1100000) := by unfold Hid; omega
 obtain ⟨⟨zs, n⟩, hj⟩ : ∃ r, jL (tl s) = r := ⟨_, rfl⟩
 have HJ := Lib.hid hj
 have hb := jback (tl s).length (tl s) (Nat.le_refl _)
 rw [hj] at hb
 simp only at hb
 obtain ⟨hbk1, hbk2, hbk3, hbk4⟩ := hb
 rw [tl_size] at hbk2
 have HBK := Lib.hid hbk1
 have HOKJ := Lib.hid hbk3
 have hzl : zs.length ≤ 400 := by omega
 clear hj hbk1 hbk3 hbk4
 go_wp2_with fail
 refine (iReadJournal_any s _ HS.out).mono ?_
 rintro e w2 ⟨v6, rfl, ho2, hc⟩
 rw [HJ.out] at ho2
 rw [show (jL (tl s)).2 = n by rw [HJ.out]]
 simp only at ho2
 have hb2 := hbel.trans (Below.mono hc hbel.size)
 have HR2 := Lib.hid (Rds.ofOwns ho2)
 obtain ⟨a6, c6, rfl⟩ := own_len9 ho2
 clear hbel hc ho2
 go_wp2_with fail
 refine (sReadJournal_any s _ HS.out).mono ?_
 rintro e w3 ⟨v8, rfl, ho3, hc⟩
 rw [HJ.out] at ho3
 rw [show (jL (tl s)).2 = n by rw [HJ.out]]
 simp only at ho3
 have hb3 := hb2.trans (Below.mono hc hb2.size)
 have HR3 := Lib.hid (HR2.out.below hc)
 have HQ3 := Lib.hid (Rds.ofOwns ho3)
 obtain ⟨a8, c8, rfl⟩ := own_len9 ho3
 clear hb2 hc ho3 HR2
 go_wp2_with fail
 refine (sameExDeeds_any _ _ zs zs _ HR3.out HQ3.out).mono ?_
 rintro e w4 ⟨rfl, hc⟩
 rw [decide_eq_true (rfl : zs = zs)]
 have hb4 := hb3.trans (Below.mono hc hb3.size)
 have HR4 := Lib.hid (HR3.out.below hc)
 clear hb3 hc HR3 HQ3
 obtain ⟨lz, hlz⟩ : ∃ lz, zs.length = lz := ⟨_, rfl⟩
 have HLZ := Lib.hid hlz
 rw [hlz] at HR4 hzl ⊢
 clear hlz
 have hnn : ((n : Int) != (n : Int)) = false := by simp
 go_wp2_with fail
 clear hnn
 go_loopw [10] (fun i wr => ∃ k : Nat, i = .int .i64 k ∧ k ≤ s.size + 1 ∧ Hid (Rds wr (.slice a6 lz c6) lz 3 (dcells zs)) ∧ Below w.heap.size w wr) (fun i _ => s.size + 1 - (intOf i).toNat)
 case atStart => exact ⟨0, rfl, by omega, HR4, hb4⟩
 case round =>
  clear HR4 hb4
  obtain ⟨k, rfl, hk, HR, hbel⟩ := hrel
  by_cases hks : k ≤ s.size
  ·
   have j1 : (0 : Int) ≤ (k : Int) := by omega
   have j2 : (k : Int) ≤ (s.size : Int) := by omega
   obtain ⟨u, hu⟩ : ∃ u, s.extract 0 k = u := ⟨_, rfl⟩
   have HU := Lib.hid hu
   have htu : tl u = (tl s).take k := by rw [← hu, tl_extr]
   have hus : u.size ≤ 1100000 := by rw [← hu, ByteArray.size_extract]; omega
   have HUS := Lib.hid hus
   obtain ⟨⟨xs, m⟩, hx⟩ : ∃ r, jL (tl u) = r := ⟨_, rfl⟩
   have HX := Lib.hid hx
   have hpre := jprefix (tl s).length (tl s) k (Nat.le_refl _)
   rw [← htu, hx, HJ.out] at hpre
   simp only at hpre
   have hmk := (jback (tl u).length (tl u) (Nat.le_refl _)).2.1
   rw [hx, htu, List.length_take] at hmk
   simp only at hmk
   obtain ⟨lx, hlx⟩ : ∃ lx, xs.length = lx := ⟨_, rfl⟩
   have HLX := Lib.hid hlx
   have hll : lx ≤ lz := by rw [← hlx, ← HLZ.out]; exact hpre.length_le
   have HTK : Hid (zs.take lx = xs) := by rw [← hlx]; exact (List.prefix_iff_eq_take.1 hpre).symm
   have hmk2 : m ≤ k := by omega
   have hmin : min (lx : Int) (lz : Int) = (lx : Int) := by omega
   have hcap : lz ≤ c6 := by
    obtain ⟨_, _, a', c', hsl, hcap, _⟩ := HR.out
    cases hsl
    exact hcap
   have j3 : (0 : Int) ≤ (lx : Int) := by omega
   have j4 : (lx : Int) ≤ (c6 : Int) := by omega
   have j5 : ¬ (lz : Int) < (lx : Int) := by omega
   have j6 : ¬ (k : Int) < (m : Int) := by omega
   clear hu hus htu hx hpre hmk hlx
   go_wp2_with fail
   rw [HU.out]
   refine (iReadJournal_any u _ HUS.out).mono ?_
   rintro e w5 ⟨v11, rfl, ho5, hc⟩
   rw [HX.out] at ho5
   rw [show (jL (tl u)).2 = m by rw [HX.out]]
   simp only at ho5
   rw [HLX.out] at ho5
   have hb5 := hbel.trans (Below.mono hc hbel.size)
   have HR5 := Lib.hid (HR.out.below hc)
   obtain ⟨a11, c11, rfl⟩ := own_len9 ho5
   have HX5 : Hid (Rds w5 (.slice a11 lx c11) xs.length 3 (dcells xs)) := by unfold Hid; rw [HLX.out]; exact Rds.ofOwns ho5
   have HT5 : Hid (Rds w5 (.slice a6 lx c6) xs.length 3 (dcells xs)) := by
    have h := Rds.take HR5.out hll
    unfold Hid
    rw [HLX.out, ← HTK.out, dcells_takeJ]
    exact h
   clear hbel hc HR ho5
   go_wp2_with fail
   refine (sameExDeeds_any _ _ xs xs _ HX5.out HT5.out).mono ?_
   rintro e w6 ⟨rfl, hc⟩
   rw [decide_eq_true (rfl : xs = xs)]
   have hb6 := hb5.trans (Below.mono hc hb5.size)
   have HR6 := Lib.hid (HR5.out.below hc)
   clear hb5 hc HR5 HX5 HT5
   go_wp2_with fail
   go_roundw
   case rel => exact ⟨k + 1, by go_num, by omega, HR6, hb6⟩
   case measure => simp [intOf]; omega
  ·
   have hkx : ¬ (k : Int) ≤ (s.size : Int) := by omega
   go_wp2_with fail
   refine (DrawExRun_any _ _ _ _ _ (H1.out.below hbel)).mono ?_
   rintro e w7 ⟨O, E, M, vd, vp, vc, ps, cs, ds, rfl, -, -, -, hd⟩
   obtain ⟨ap, cp, ac, cc, rfl, rfl⟩ := agg_parts hd.own
   have HL := Lib.hid hd.st.len
   have HSV : Hid (SomeV (.slice ap ps.length cp) ps.length) := own_somev hd.own.plan
   have hb7 := hbel.trans (Below.mono hd.bel hbel.size)
   have HR7 := Lib.hid (HR.out.below hd.bel)
   have hal : Below w7.heap.size w7 (w7.alloc (.cells #[.int .i64 O, .int .i64 E, .int .i64 M, .slice ap ps.length cp, .slice ac cs.length cc] 33)) := (Below.refl _ _).alloc (Nat.le_refl _) _
   have hEB := EBx.new (O := O) (E := E) (M := M) hd.own.rd
   have HRB := Lib.hid (HR7.out.below hal)
   have hbB := hb7.trans (Below.mono hal hb7.size)
   have HDL : Hid (DdLen zs) := fun j z hz => by have := dt_num (jok_at HOKJ.out hz); unfold maxLen; omega
   have hnsz : (w7.alloc (.cells #[.int .i64 O, .int .i64 E, .int .i64 M, .slice ap ps.length cp, .slice ac cs.length cc] 33)).heap.size = w7.heap.size + 1 := by simp
   clear hkx hbel hd hb7 HR7 hal HR hks hk
   go_upto_region 16 with fail
   obtain ⟨eb, heb⟩ : ∃ eb, w7.heap.size = eb := ⟨_, rfl⟩
   obtain ⟨WB, hWB⟩ : ∃ W, w7.alloc (.cells #[.int .i64 O, .int .i64 E, .int .i64 M, .slice ap ps.length cp, .slice ac cs.length cc] 33) = W := ⟨_, rfl⟩
   rw [hWB] at hEB HRB hbB hnsz ⊢
   rw [heb] at hEB hnsz ⊢
   clear hWB heb
   have hN0 : EBx (WB.alloc (.cells #[.int .i64 O, .int .i64 E, .int .i64 M, .slice ap ps.length cp, .slice ac cs.length cc] 33)) (eb + 1) O E M (.slice ap ps.length cp) (.slice ac cs.length cc) ps cs := by
    have := EBx.new (O := O) (E := E) (M := M) hEB.rd
    rw [hnsz] at this
    exact this
   have hbW0 : Below WB.heap.size WB (WB.alloc (.cells #[.int .i64 O, .int .i64 E, .int .i64 M, .slice ap ps.length cp, .slice ac cs.length cc] 33)) := (Below.refl _ _).alloc (Nat.le_refl _) _
   obtain ⟨W0, hW0⟩ : ∃ W, WB.alloc (.cells #[.int .i64 O, .int .i64 E, .int .i64 M, .slice ap ps.length cp, .slice ac cs.length cc] 33) = W := ⟨_, rfl⟩
   rw [hW0] at hN0 hbW0 ⊢
   clear hW0
   obtain ⟨d, hdd⟩ : ∃ d, exB O E M ps cs = d := ⟨_, rfl⟩
   have HX := Lib.hid hdd
   clear hdd
   go_wp2_with fail
   go_loopw [16] (fun i wr => ∃ (k : Nat) (vq vr : Value) (ps' : List ByteArray) (cs' : List Cl), i = .int .i64 k ∧ k ≤ lz ∧ Hid ((runL E M ps cs (zs.take k)).1 = (ps', cs')) ∧ Hid (d = true → ExOk O E M ps' cs') ∧ Hid (SomeV vq ps'.length) ∧ EBx wr (eb + 1) O E M vq vr ps' cs' ∧ Below WB.heap.size WB wr) (fun i _ => lz - (intOf i).toNat)
   case atStart => exact ⟨0, _, _, ps, cs, rfl, Nat.zero_le _, rfl, fun h => (exB_iff _ _ _ _ _).1 (HX.out.trans h), HSV, hN0, hbW0⟩
   case round =>
    clear hN0 hbW0
    obtain ⟨k, vq, vr, ps', cs', rfl, hk, HRN, HOKN, HSN, hN, hbW⟩ := hrel
    obtain ⟨aq, cq, ar, cr, rfl, rfl⟩ : ∃ a1 c1 a2 c2, vq = .slice a1 ps'.length c1 ∧ vr = .slice a2 cs'.length c2 := by
     obtain ⟨_, _, a1, c1, h1, _⟩ := hN.rd.plan
     obtain ⟨_, _, a2, c2, h2, _⟩ := hN.rd.calls
     exact ⟨a1, c1, a2, c2, h1, h2⟩
    have hE := hEB.below hbW
    by_cases hkl : k < lz
    ·
     obtain ⟨e0, e1, e2, e3, e4, -, -, -, -, -, elt⟩ := hE.box.five
     have hkl2 : (k : Int) < (lz : Int) := by omega
     go_wp2_with fail
     refine (sExchangeValid_any O E M _ _ ps cs _ hE.rd HL.out).mono ?_
     rintro e w8 ⟨rfl, hc⟩
     rw [HX.out]
     have hbW8 := hbW.trans (Below.mono hc hbW.size)
     have hN8 := hN.below hc
     clear e0 e1 e2 e3 e4 elt hE hN hbW hc
     cases d
     case false =>
      have hEt := hEB.below hbW8
      obtain ⟨e0, e1, e2, e3, e4, -, -, -, -, -, elt⟩ := hEt.box.five
      have HRt : Hid (Rds w8 (.slice a6 lz c6) zs.length 3 (dcells zs)) := by have h := HRB.out.below hbW8; unfold Hid; rw [HLZ.out]; exact h
      go_wp2_with fail
      refine (iExRun_any O E M _ _ _ ps cs zs _ hEt.rd HSV.out HL.out HRt.out HDL.out).mono ?_
      intro e w9 hq
      rw [runX_no HX.out] at hq
      unfold RunPost at hq
      simp only at hq
      obtain ⟨vx, vy, rfl, ho9, hc⟩ := hq
      obtain ⟨ax, cx, ay, cy, hvx, hvy⟩ := agg_parts ho9
      have hvx2 : vx = .slice ax 0 cx := hvx
      have hvy2 : vy = .slice ay 0 cy := hvy
      clear hvx hvy
      subst hvx2 hvy2
      clear e0 e1 e2 e3 e4 elt
      have hal9 : Below w9.heap.size w9 (w9.alloc (.cells #[.int .i64 0, .int .i64 0, .int .i64 0, .slice ax 0 cx, .slice ay 0 cy] 33)) := (Below.refl _ _).alloc (Nat.le_refl _) _
      have hX9 : EBx (w9.alloc (.cells #[.int .i64 0, .int .i64 0, .int .i64 0, .slice ax 0 cx, .slice ay 0 cy] 33)) w9.heap.size 0 0 0 (.slice ax 0 cx) (.slice ay 0 cy) [] [] := EBx.new (O := 0) (E := 0) (M := 0) ho9.rd
      have hb9 := hc.trans (Below.mono hal9 hc.size)
      have hN9 := hN8.below hb9
      have hbW9 := hbW8.trans (Below.mono hb9 hbW8.size)
      have hE9 := hEB.below hbW9
      have HR9 : Hid (Rds _ (.slice a6 lz c6) zs.length 3 (dcells zs)) := HRt.out.below hb9
      clear hEt HRt hc hal9 hb9 ho9
      obtain ⟨e0, e1, e2, e3, e4, -, -, -, -, -, elt⟩ := hE9.box.five
      obtain ⟨n0, n1, n2, n3, n4, -, -, -, -, -, nlt⟩ := hN9.box.five
      obtain ⟨x0, x1, x2, x3, x4, -, -, -, -, -, xlt⟩ := hX9.box.five
      have hcS : Below (w9.alloc (.cells #[.int .i64 0, .int .i64 0, .int .i64 0, .slice ax 0 cx, .slice ay 0 cy] 33)).heap.size (w9.alloc (.cells #[.int .i64 0, .int .i64 0, .int .i64 0, .slice ax 0 cx, .slice ay 0 cy] 33)) (w9.alloc (.cells #[.int .i64 0, .int .i64 0, .int .i64 0, .slice ax 0 cx, .slice ay 0 cy] 33)).drew := (Below.refl _ _).drew
      have HC : Hid (∀ w' : World, Below (w9.alloc (.cells #[.int .i64 0, .int .i64 0, .int .i64 0, .slice ax 0 cx, .slice ay 0 cy] 33)).heap.size (w9.alloc (.cells #[.int .i64 0, .int .i64 0, .int .i64 0, .slice ax 0 cx, .slice ay 0 cy] 33)) w' → w'.cell? ⟨eb, 0, none⟩ = some (.int .i64 O) ∧ w'.cell? ⟨eb, 1, none⟩ = some (.int .i64 E) ∧ w'.cell? ⟨eb, 2, none⟩ = some (.int .i64 M) ∧ w'.cell? ⟨eb, 3, none⟩ = some (.slice ap ps.length cp) ∧ w'.cell? ⟨eb, 4, none⟩ = some (.slice ac cs.length cc) ∧ w'.cell? ⟨eb + 1, 0, none⟩ = some (.int .i64 O) ∧ w'.cell? ⟨eb + 1, 1, none⟩ = some (.int .i64 E) ∧ w'.cell? ⟨eb + 1, 2, none⟩ = some (.int .i64 M) ∧ w'.cell? ⟨eb + 1, 3, none⟩ = some (.slice aq ps'.length cq) ∧ w'.cell? ⟨eb + 1, 4, none⟩ = some (.slice ar cs'.length cr) ∧ w'.cell? ⟨w9.heap.size, 0, none⟩ = some (.int .i64 0) ∧ w'.cell? ⟨w9.heap.size, 1, none⟩ = some (.int .i64 0) ∧ w'.cell? ⟨w9.heap.size, 2, none⟩ = some (.int .i64 0) ∧ w'.cell? ⟨w9.heap.size, 3, none⟩ = some (.slice ax 0 cx) ∧ w'.cell? ⟨w9.heap.size, 4, none⟩ = some (.slice ay 0 cy)) := fun w' hb => ⟨keep_below hb e0, keep_below hb e1, keep_below hb e2, keep_below hb e3, keep_below hb e4, keep_below hb n0, keep_below hb n1, keep_below hb n2, keep_below hb n3, keep_below hb n4, keep_below hb x0, keep_below hb x1, keep_below hb x2, keep_below hb x3, keep_below hb x4⟩
      go_upto_region 24 with fail
      clear e0 e1 e2 e3 e4 elt n0 n1 n2 n3 n4 nlt x0 x1 x2 x3 x4 xlt
      have hnI : (n : Int) ≤ (s.size : Int) := by omega
      have hn0 : (0 : Int) ≤ (n : Int) := by omega
      obtain ⟨T, hT⟩ : ∃ T, jtxt zs = T := ⟨_, rfl⟩
      have HT := Lib.hid hT
      have hTs : T = s.extract 0 n := by
       rw [← hT, jtxt_yes HOKJ.out, ← ba_tl (jcat zs), HBK.out, ← tl_extr, ba_tl]
      have hTT := str_eq hTs
      have HLZ2 : Hid (zs.length ≤ 1048576) := by unfold Hid; rw [HLZ.out]; omega
      have HDM : Hid (∀ z ∈ zs, z.2.2.size ≤ maxLen) := fun z hz => by obtain ⟨j, hj⟩ := List.mem_iff_getElem?.1 hz; exact HDL.out j z hj
      clear hT hTs
      refine wp_region_held_drew (S := fun w' => w'.cell? ⟨eb, 0, none⟩ = some (.int .i64 O) ∧ w'.cell? ⟨eb, 1, none⟩ = some (.int .i64 E) ∧ w'.cell? ⟨eb, 2, none⟩ = some (.int .i64 M) ∧ w'.cell? ⟨eb, 3, none⟩ = some (.slice ap ps.length cp) ∧ w'.cell? ⟨eb, 4, none⟩ = some (.slice ac cs.length cc) ∧ w'.cell? ⟨eb + 1, 0, none⟩ = some (.int .i64 O) ∧ w'.cell? ⟨eb + 1, 1, none⟩ = some (.int .i64 E) ∧ w'.cell? ⟨eb + 1, 2, none⟩ = some (.int .i64 M) ∧ w'.cell? ⟨eb + 1, 3, none⟩ = some (.slice aq ps'.length cq) ∧ w'.cell? ⟨eb + 1, 4, none⟩ = some (.slice ar cs'.length cr) ∧ w'.cell? ⟨w9.heap.size, 0, none⟩ = some (.int .i64 0) ∧ w'.cell? ⟨w9.heap.size, 1, none⟩ = some (.int .i64 0) ∧ w'.cell? ⟨w9.heap.size, 2, none⟩ = some (.int .i64 0) ∧ w'.cell? ⟨w9.heap.size, 3, none⟩ = some (.slice ax 0 cx) ∧ w'.cell? ⟨w9.heap.size, 4, none⟩ = some (.slice ay 0 cy)) (by kernel_rfl) (HC.out _ hcS) (fun hHeld => ?_)
      refine take_y 0 132 (v := ?_) rfl ?_ ?_; rotate_left; focus (intro w hSw; (try dsimp only at hSw); go_simp; (try rw [if_neg (by omega)]); (try with_reducible rfl))
      try simp only [Act.put, zp1, zp2, zp3]
      refine take_y 1 133 (v := ?_) rfl ?_ ?_; rotate_left; focus (intro w hSw; (try dsimp only at hSw); go_simp; (try rw [if_neg (by omega)]); (try with_reducible rfl))
      try simp only [Act.put, zp1, zp2, zp3]
      refine take_y 2 134 (v := ?_) rfl ?_ ?_; rotate_left; focus (intro w hSw; (try dsimp only at hSw); go_simp; (try rw [if_neg (by omega)]); (try with_reducible rfl))
      try simp only [Act.put, zp1, zp2, zp3]
      refine take_y 3 135 (v := ?_) rfl ?_ ?_; rotate_left; focus (intro w hSw; (try dsimp only at hSw); go_simp; (try rw [if_neg (by omega)]); (try with_reducible rfl))
      try simp only [Act.put, zp1, zp2, zp3]
      refine take_y 4 136 (v := ?_) rfl ?_ ?_; rotate_left; focus (intro w hSw; (try dsimp only at hSw); go_simp; (try rw [if_neg (by omega)]); (try with_reducible rfl))
      try simp only [Act.put, zp1, zp2, zp3]
      refine take_y 5 137 (v := ?_) rfl ?_ ?_; rotate_left; focus (intro w hSw; (try dsimp only at hSw); go_simp; (try rw [if_neg (by omega)]); (try with_reducible rfl))
      try simp only [Act.put, zp1, zp2, zp3]
      refine take_y 7 139 (v := ?_) rfl ?_ ?_; rotate_left; focus (intro w hSw; (try dsimp only at hSw); go_simp; (try rw [if_neg (by omega)]); (try with_reducible rfl))
      try simp only [Act.put, zp1, zp2, zp3]
      refine take_y 8 140 (v := ?_) rfl ?_ ?_; rotate_left; focus (intro w hSw; (try dsimp only at hSw); go_simp; (try rw [if_neg (by omega)]); (try with_reducible rfl))
      try simp only [Act.put, zp1, zp2, zp3]
      refine take_y 9 141 (v := ?_) rfl ?_ ?_; rotate_left; focus (intro w hSw; (try dsimp only at hSw); go_simp; (try rw [if_neg (by omega)]); (try with_reducible rfl))
      try simp only [Act.put, zp1, zp2, zp3]
      refine wpAnyH_ready (rs := [6]) (by kernel_rfl) (by simp) ?_
      refine AllReadyH.cons rfl (fun K hK => ?_) AllReadyH.nil
      go_simp
      refine (iJournalText_any _ zs _ (HR9.out.below hcS) HLZ2.out HDM.out).mono ?_
      rintro e v1 ⟨rfl, hq1⟩
      rw [HT.out]
      have hc1 : Below (w9.alloc (.cells #[.int .i64 0, .int .i64 0, .int .i64 0, .slice ax 0 cx, .slice ay 0 cy] 33)).heap.size (w9.alloc (.cells #[.int .i64 0, .int .i64 0, .int .i64 0, .slice ax 0 cx, .slice ay 0 cy] 33)) v1 := hcS.trans (Below.mono hq1 hcS.size)
      refine hK.out _ _ (HC.out _ hc1) (fun hHeld2 => ?_)
      clear hHeld hK K; have hHeld := hHeld2; clear hHeld2; try simp only [Act.put, zp1, zp2, zp3]
      refine take_y 10 142 (v := ?_) rfl ?_ ?_; rotate_left; focus (intro w hSw; (try dsimp only at hSw); go_simp; (try rw [if_neg (by omega)]); (try with_reducible rfl))
      try simp only [Act.put, zp1, zp2, zp3]
      refine take_y 11 143 (v := ?_) rfl ?_ ?_; rotate_left; focus (intro w hSw; (try dsimp only at hSw); go_simp; (try rw [if_neg (by omega)]); (try with_reducible rfl))
      try simp only [Act.put, zp1, zp2, zp3]
      refine take_y 12 144 (v := ?_) rfl ?_ ?_; rotate_left; focus (intro w hSw; (try dsimp only at hSw); go_simp; (try rw [if_neg (by omega)]); (try with_reducible rfl))
      try simp only [Act.put, zp1, zp2, zp3]
      refine take_y 13 145 (v := ?_) rfl ?_ ?_; rotate_left; focus (intro w hSw; (try dsimp only at hSw); go_simp; (try rw [if_neg (by omega)]); (try with_reducible rfl))
      try simp only [Act.put, zp1, zp2, zp3]
      refine wpAnyH_ready (rs := [14]) (by kernel_rfl) (by simp) ?_
      refine AllReadyH.cons rfl (fun K hK => ?_) AllReadyH.nil
      go_simp
      refine (sExchangeValid_any O E M _ _ ps cs _ (hE9.rd.below hc1) HL.out).mono ?_
      rintro e v2 ⟨rfl, hq2⟩
      rw [HX.out]
      have hc2 : Below (w9.alloc (.cells #[.int .i64 0, .int .i64 0, .int .i64 0, .slice ax 0 cx, .slice ay 0 cy] 33)).heap.size (w9.alloc (.cells #[.int .i64 0, .int .i64 0, .int .i64 0, .slice ax 0 cx, .slice ay 0 cy] 33)) v2 := hc1.trans (Below.mono hq2 hc1.size)
      refine hK.out _ _ (HC.out _ hc2) (fun hHeld2 => ?_)
      clear hHeld hK K; have hHeld := hHeld2; clear hHeld2; try simp only [Act.put, zp1, zp2, zp3]
      refine take_y 15 147 (v := ?_) rfl ?_ ?_; rotate_left; focus (intro w hSw; (try dsimp only at hSw); go_simp; (try rw [if_neg (by omega)]); (try with_reducible rfl))
      try simp only [Act.put, zp1, zp2, zp3]
      refine take_y 16 148 (v := ?_) rfl ?_ ?_; rotate_left; focus (intro w hSw; (try dsimp only at hSw); go_simp; (try rw [if_neg (by omega)]); (try with_reducible rfl))
      try simp only [Act.put, zp1, zp2, zp3]
      refine take_on (i := 17) (d := some 149) (v := undef) rfl (by rfl) (by kernel_rfl) (by kernel_rfl) (by kernel_rfl) (fun _ _ _ h => h) (Or.inr ⟨by kernel_rfl, rfl⟩) (by assumption) ?_
      try simp only [Act.put, zp1, zp2, zp3]
      refine take_on (i := 18) (d := some 150) (v := undef) rfl (by rfl) (by kernel_rfl) (by kernel_rfl) (by kernel_rfl) (fun _ _ _ h => h) (Or.inr ⟨by kernel_rfl, rfl⟩) (by assumption) ?_
      try simp only [Act.put, zp1, zp2, zp3]
      refine take_on (i := 19) (d := some 151) (v := undef) rfl (by rfl) (by kernel_rfl) (by kernel_rfl) (by kernel_rfl) (fun _ _ _ h => h) (Or.inr ⟨by kernel_rfl, rfl⟩) (by assumption) ?_
      try simp only [Act.put, zp1, zp2, zp3]
      refine take_y 20 152 (v := ?_) rfl ?_ ?_; rotate_left; focus (intro w hSw; (try dsimp only at hSw); go_simp; (try rw [if_neg (by omega)]); (try with_reducible rfl))
      try simp only [Act.put, zp1, zp2, zp3]
      refine take_y 21 153 (v := ?_) rfl ?_ ?_; rotate_left; focus (intro w hSw; (try dsimp only at hSw); go_simp; (try rw [if_neg (by omega)]); (try with_reducible rfl))
      try simp only [Act.put, zp1, zp2, zp3]
      refine take_y 22 154 (v := ?_) rfl ?_ ?_; rotate_left; focus (intro w hSw; (try dsimp only at hSw); go_simp; (try rw [if_neg (by omega)]); (try with_reducible rfl))
      try simp only [Act.put, zp1, zp2, zp3]
      refine wpAnyH_ready (rs := [23]) (by kernel_rfl) (by simp) ?_
      refine AllReadyH.cons rfl (fun K hK => ?_) AllReadyH.nil
      go_simp
      refine (alive_any _).mono ?_
      rintro e v4 ⟨rfl, hq4⟩
      have hc4 : Below (w9.alloc (.cells #[.int .i64 0, .int .i64 0, .int .i64 0, .slice ax 0 cx, .slice ay 0 cy] 33)).heap.size (w9.alloc (.cells #[.int .i64 0, .int .i64 0, .int .i64 0, .slice ax 0 cx, .slice ay 0 cy] 33)) v4 := hc2.trans (Below.mono hq4 hc2.size)
      refine hK.out _ _ (HC.out _ hc4) (fun hHeld2 => ?_)
      clear hHeld hK K; have hHeld := hHeld2; clear hHeld2; try simp only [Act.put, zp1, zp2, zp3]
      refine take_y 24 156 (v := ?_) rfl ?_ ?_; rotate_left; focus (intro w hSw; (try dsimp only at hSw); go_simp; (try rw [if_neg (by omega)]); (try with_reducible rfl))
      try simp only [Act.put, zp1, zp2, zp3]
      refine take_y 25 4 (v := ?_) rfl ?_ ?_; rotate_left; focus (intro w hSw; (try dsimp only at hSw); go_simp; (try rw [if_neg (by omega)]); (try with_reducible rfl))
      try simp only [Act.put, zp1, zp2, zp3]
      refine wpAnyH_done (by kernel_rfl) ?_ _
      clear hHeld
      have hbE := hbB.trans (Below.mono (hbW9.trans (Below.mono hc4 hbW9.size)) hbB.size)
      go_wp2
      go_returns
      exact ⟨rfl, hbE⟩
     case true =>
     obtain ⟨z, hz⟩ : ∃ z, zs[k]? = some z := ⟨_, List.getElem?_eq_getElem (by rw [HLZ.out]; exact hkl)⟩
     have hz0 := jok_at HOKJ.out hz
     have hzn := HDL.out k z hz
     obtain ⟨g1, g2, g3⟩ := dcells_at zs k z hz
     obtain ⟨_, _, a', c', hsl, hcap, hcell⟩ := HRB.out.below hbW8
     cases hsl
     rcases hcell with hcell | ⟨b1, o1, rfl, hb1, hcell⟩
     ·
      omega
     obtain ⟨zk, zl, zn⟩ := z
     simp only at g1 g2 g3 hzn
     have c1 : w8.cell? ⟨b1, o1 + k * 3, none⟩ = some (.int .i64 zk) := by rw [hcell _ (by omega), g1]
     have c2 : w8.cell? ⟨b1, o1 + k * 3 + 1, none⟩ = some (.int .i64 zl) := by rw [Nat.add_assoc, hcell _ (by omega), g2]
     have c3 : w8.cell? ⟨b1, o1 + k * 3 + 2, none⟩ = some (.string zn) := by rw [Nat.add_assoc, hcell _ (by omega), g3]
     have HZN := Lib.hid hzn
     have hokn := HOKN.out rfl
     have HKN := Lib.hid hokn
     obtain ⟨⟨⟨ps2, cs2⟩, t⟩, hsy⟩ : ∃ r, sayL E M ps' cs' (zk, zl, zn) = r := ⟨_, rfl⟩
     obtain ⟨T, hT⟩ : ∃ T, dtxt zk zl zn = T := ⟨_, rfl⟩
     have HT := Lib.hid hT
     have hts : T.size ≤ 1100000 := by have := dtxt_size zk zl zn; rw [hT] at this; omega
     have HTS := Lib.hid hts
     have HLR : Hid (lineR O E M ps' cs' T = ((O, E, M), (ps2, cs2), t)) := by
      unfold Hid
      rw [lineR_yes _ ((exB_iff _ _ _ _ _).2 hokn), ← hT, show dtxt zk zl zn = dt (zk, zl, zn) from rfl, line_deed hz0, hsy]
     have HOK2 : Hid (ExOk O E M ps2 cs2) := by have := say_ok hokn (zk, zl, zn); rw [hsy] at this; exact this
     have HST : Hid ((runL E M ps cs (zs.take (k + 1))).1 = (ps2, cs2)) := by
      unfold Hid
      rw [run_snoc hz]
      obtain ⟨⟨⟨q1, q2⟩, q3⟩, hq⟩ : ∃ r, runL E M ps cs (zs.take k) = r := ⟨_, rfl⟩
      have h := HRN.out
      rw [hq] at h ⊢
      simp only [Prod.mk.injEq] at h
      obtain ⟨rfl, rfl⟩ := h
      rw [say_step, hsy]
     have han := say_ans E M ps' cs' (zk, zl, zn)
     rw [hsy] at han
     simp only at han
     have HAN := Lib.hid han
     have i1 : (0 : Int) ≤ (k : Int) := by omega
     clear hz hz0 hcell g1 g2 g3 hzn hokn hsy hT hts han HOKN HRN
     obtain ⟨n0, n1, n2, n3, n4, -, -, -, -, -, nlt⟩ := hN8.box.five
     have HC : Hid (∀ w' : World, Below w8.heap.size w8 w' → (w'.cell? ⟨eb + 1, 0, none⟩ = some (.int .i64 O) ∧ w'.cell? ⟨eb + 1, 1, none⟩ = some (.int .i64 E) ∧ w'.cell? ⟨eb + 1, 2, none⟩ = some (.int .i64 M) ∧ w'.cell? ⟨eb + 1, 3, none⟩ = some (.slice aq ps'.length cq) ∧ w'.cell? ⟨eb + 1, 4, none⟩ = some (.slice ar cs'.length cr)) ∧ w'.cell? ⟨b1, o1 + k * 3, none⟩ = some (.int .i64 zk) ∧ w'.cell? ⟨b1, o1 + k * 3 + 1, none⟩ = some (.int .i64 zl) ∧ w'.cell? ⟨b1, o1 + k * 3 + 2, none⟩ = some (.string zn)) := fun w' hb => ⟨⟨keep_below hb n0, keep_below hb n1, keep_below hb n2, keep_below hb n3, keep_below hb n4⟩, keep_below hb c1, keep_below hb c2, keep_below hb c3⟩
     have hcS : Below w8.heap.size w8 w8.drew := (Below.refl _ _).drew
     go_upto_region 19 with fail
     go_cut [17, 18] (fun tb tx wc => ∃ (b : Nat) (vq2 vr2 : Value), tb = .pointer (some ⟨b, 0, none⟩) ∧ tx = .string t ∧ ExRes w8 wc b O E M vq2 vr2 ps2 cs2)
     case first =>
      clear n0 n1 n2 n3 n4 nlt
      go_wp2_with fail
      clear c1 c2 c3
      refine wp_region_held_drew (S := fun w' => (w'.cell? ⟨eb + 1, 0, none⟩ = some (.int .i64 O) ∧ w'.cell? ⟨eb + 1, 1, none⟩ = some (.int .i64 E) ∧ w'.cell? ⟨eb + 1, 2, none⟩ = some (.int .i64 M) ∧ w'.cell? ⟨eb + 1, 3, none⟩ = some (.slice aq ps'.length cq) ∧ w'.cell? ⟨eb + 1, 4, none⟩ = some (.slice ar cs'.length cr)) ∧ w'.cell? ⟨b1, o1 + k * 3, none⟩ = some (.int .i64 zk) ∧ w'.cell? ⟨b1, o1 + k * 3 + 1, none⟩ = some (.int .i64 zl) ∧ w'.cell? ⟨b1, o1 + k * 3 + 2, none⟩ = some (.string zn)) (by kernel_rfl) (HC.out _ hcS) (fun hHeld => ?_)
      refine take_y 0 102 (v := ?_) rfl ?_ ?_; rotate_left; focus (intro w hSw; (try dsimp only at hSw); go_simp; (try rw [if_neg (by omega)]); (try with_reducible rfl))
      try simp only [Act.put, zp1, zp2, zp3]
      refine take_y 1 103 (v := ?_) rfl ?_ ?_; rotate_left; focus (intro w hSw; (try dsimp only at hSw); go_simp; (try rw [if_neg (by omega)]); (try with_reducible rfl))
      try simp only [Act.put, zp1, zp2, zp3]
      refine take_y 2 104 (v := ?_) rfl ?_ ?_; rotate_left; focus (intro w hSw; (try dsimp only at hSw); go_simp; (try rw [if_neg (by omega)]); (try with_reducible rfl))
      try simp only [Act.put, zp1, zp2, zp3]
      refine take_y 3 105 (v := ?_) rfl ?_ ?_; rotate_left; focus (intro w hSw; (try dsimp only at hSw); go_simp; (try rw [if_neg (by omega)]); (try with_reducible rfl))
      try simp only [Act.put, zp1, zp2, zp3]
      refine take_y 4 106 (v := ?_) rfl ?_ ?_; rotate_left; focus (intro w hSw; (try dsimp only at hSw); go_simp; (try rw [if_neg (by omega)]); (try with_reducible rfl))
      try simp only [Act.put, zp1, zp2, zp3]
      refine wpAnyH_ready (rs := [5, 10]) (by kernel_rfl) (by simp) ?_
      refine AllReadyH.cons rfl (fun K hK => ?_) (AllReadyH.cons rfl (fun K hK => ?_) AllReadyH.nil)
      focus
       go_simp
       refine (iDeedText_any zk zl zn _ HZN.out).mono ?_
       rintro e v1 ⟨rfl, hc3⟩
       rw [HT.out]
       have hcA : Below w8.heap.size w8 v1 := hcS.trans (Below.mono hc3 hcS.size)
       refine hK.out _ _ (HC.out _ hcA) (fun hHeld2 => ?_)
       clear hHeld hK K; have hHeld := hHeld2; clear hHeld2; try simp only [Act.put, zp1, zp2, zp3]
       refine wpAnyH_ready (rs := [6, 10]) (by kernel_rfl) (by simp) ?_
       refine AllReadyH.cons rfl (fun K hK => ?_) (AllReadyH.cons rfl (fun K hK => ?_) AllReadyH.nil)
       focus
        go_simp
        refine (iExLine_any O E M _ _ ps' cs' T _ (hN8.rd.below hcA) HSN.out HKN.out.lens HTS.out).mono ?_
        intro e v2 h4
        rw [HLR.out] at h4
        have h5 := LineQ.res h4
        simp only at h5
        obtain ⟨vp2, vc2, rfl, ho4, hc4⟩ := h5
        obtain ⟨a4, c4, a5, c5, rfl, rfl⟩ := agg_parts ho4
        have hcB : Below w8.heap.size w8 v2 := hcA.trans (Below.mono hc4 hcA.size)
        refine hK.out _ _ (HC.out _ hcB) (fun hHeld2 => ?_)
        clear hHeld hK K; have hHeld := hHeld2; clear hHeld2; try simp only [Act.put, zp1, zp2, zp3]
        refine take_y 7 101 (v := ?_) rfl ?_ ?_; rotate_left; focus (intro w hSw; (try dsimp only at hSw); go_simp; (try rw [if_neg (by omega)]); (try with_reducible rfl))
        try simp only [Act.put, zp1, zp2, zp3]
        refine take_y 8 109 (v := ?_) rfl ?_ ?_; rotate_left; focus (intro w hSw; (try dsimp only at hSw); go_simp; (try rw [if_neg (by omega)]); (try with_reducible rfl))
        try simp only [Act.put, zp1, zp2, zp3]
        refine take_y 9 110 (v := ?_) rfl ?_ ?_; rotate_left; focus (intro w hSw; (try dsimp only at hSw); go_simp; (try rw [if_neg (by omega)]); (try with_reducible rfl))
        try simp only [Act.put, zp1, zp2, zp3]
        refine wpAnyH_ready (rs := [10]) (by kernel_rfl) (by simp) ?_
        refine AllReadyH.cons rfl (fun K hK => ?_) AllReadyH.nil
        go_simp
        refine hK.out _ _ (HC.out _ (hcB.alloc hcB.size _)) (fun hHeld2 => ?_)
        clear hHeld hK K; have hHeld := hHeld2; clear hHeld2; try simp only [Act.put, zp1, zp2, zp3]
        refine wpAnyH_ready (rs := [11]) (by kernel_rfl) (by simp) ?_
        refine AllReadyH.cons rfl (fun K hK => ?_) AllReadyH.nil
        go_simp
        refine hK.out _ _ (HC.out _ (hcB.alloc hcB.size _)) (fun hHeld2 => ?_)
        clear hHeld hK K; have hHeld := hHeld2; clear hHeld2; try simp only [Act.put, zp1, zp2, zp3]
        have hRS := ExRes.mkA (O := O) (E := E) (M := M) hcB ho4 hcA.size
        refine take_y 12 18 (v := ?_) rfl ?_ ?_; rotate_left; focus (intro w hSw; (try dsimp only at hSw); go_simp; (try rw [if_neg (by omega)]); (try with_reducible rfl))
        try simp only [Act.put, zp1, zp2, zp3]
        refine wpAnyH_done (by kernel_rfl) ?_ _
        clear hHeld
        go_wp2_with fail
        go_meet
        exact ⟨_, _, _, rfl, rfl, hRS⟩
       focus
        go_simp
        have hXb := Blk.new (w := v1) (cs := #[.int .i64 0, .int .i64 0, .int .i64 0, .slice none 0 0, .slice none 0 0]) (T := 33) (b := v1.heap.size) rfl
        have hal : Below v1.heap.size v1 (v1.alloc (.cells #[.int .i64 0, .int .i64 0, .int .i64 0, .slice none 0 0, .slice none 0 0] 33)) := (Below.refl _ _).alloc (Nat.le_refl _) _
        have hcB : Below w8.heap.size w8 (v1.alloc (.cells #[.int .i64 0, .int .i64 0, .int .i64 0, .slice none 0 0, .slice none 0 0] 33)) := hcA.trans (Below.mono hal hcA.size)
        refine hK.out _ _ (HC.out _ hcB) (fun hHeld2 => ?_)
        clear hHeld hK K; have hHeld := hHeld2; clear hHeld2; try simp only [Act.put, zp1, zp2, zp3]
        refine wpAnyH_ready (rs := [6]) (by kernel_rfl) (by simp) ?_
        refine AllReadyH.cons rfl (fun K hK => ?_) AllReadyH.nil
        go_simp
        refine (iExLine_any O E M _ _ ps' cs' T _ (hN8.rd.below hcB) HSN.out HKN.out.lens HTS.out).mono ?_
        intro e v2 h4
        rw [HLR.out] at h4
        have h5 := LineQ.res h4
        simp only at h5
        obtain ⟨vp2, vc2, rfl, ho4, hc4⟩ := h5
        obtain ⟨a4, c4, a5, c5, rfl, rfl⟩ := agg_parts ho4
        have hcC : Below w8.heap.size w8 v2 := hcB.trans (Below.mono hc4 hcB.size)
        have hbF := hXb.lt
        have gX := hXb.belowAll hc4
        refine hK.out _ _ (HC.out _ hcC) (fun hHeld2 => ?_)
        clear hHeld hK K; have hHeld := hHeld2; clear hHeld2; try simp only [Act.put, zp1, zp2, zp3]
        refine take_y 7 101 (v := ?_) rfl ?_ ?_; rotate_left; focus (intro w hSw; (try dsimp only at hSw); go_simp; (try rw [if_neg (by omega)]); (try with_reducible rfl))
        try simp only [Act.put, zp1, zp2, zp3]
        refine take_y 8 109 (v := ?_) rfl ?_ ?_; rotate_left; focus (intro w hSw; (try dsimp only at hSw); go_simp; (try rw [if_neg (by omega)]); (try with_reducible rfl))
        try simp only [Act.put, zp1, zp2, zp3]
        refine take_y 9 110 (v := ?_) rfl ?_ ?_; rotate_left; focus (intro w hSw; (try dsimp only at hSw); go_simp; (try rw [if_neg (by omega)]); (try with_reducible rfl))
        try simp only [Act.put, zp1, zp2, zp3]
        have hRS := ExRes.mkB (O := O) (E := E) (M := M) hcC gX (hcA.size) ho4 hbF
        obtain ⟨X0, X1, X2, X3, X4, Y0, Y1, Y2, Y3, Y4, Xlt⟩ := gX.five
        refine wpAnyH_ready (rs := [11]) (by kernel_rfl) (by simp) ?_
        refine AllReadyH.cons rfl (fun K hK => ?_) AllReadyH.nil
        go_simp
        refine hK.out _ _ (HC.out _ (by exact hRS.bel)) (fun hHeld2 => ?_)
        clear hHeld hK K; have hHeld := hHeld2; clear hHeld2; try simp only [Act.put, zp1, zp2, zp3]
        refine take_y 12 18 (v := ?_) rfl ?_ ?_; rotate_left; focus (intro w hSw; (try dsimp only at hSw); go_simp; (try rw [if_neg (by omega)]); (try with_reducible rfl))
        try simp only [Act.put, zp1, zp2, zp3]
        refine wpAnyH_done (by kernel_rfl) ?_ _
        clear hHeld
        go_wp2_with fail
        go_meet
        exact ⟨_, _, _, rfl, rfl, hRS⟩
      focus
       go_simp
       have hXb := Blk.new (w := w8.drew) (cs := #[.int .i64 0, .int .i64 0, .int .i64 0, .slice none 0 0, .slice none 0 0]) (T := 33) (b := w8.heap.size) rfl
       have hal : Below w8.drew.heap.size w8.drew (w8.drew.alloc (.cells #[.int .i64 0, .int .i64 0, .int .i64 0, .slice none 0 0, .slice none 0 0] 33)) := (Below.refl _ _).alloc (Nat.le_refl _) _
       have hcA : Below w8.heap.size w8 (w8.drew.alloc (.cells #[.int .i64 0, .int .i64 0, .int .i64 0, .slice none 0 0, .slice none 0 0] 33)) := hcS.trans (Below.mono hal hcS.size)
       refine hK.out _ _ (HC.out _ hcA) (fun hHeld2 => ?_)
       clear hHeld hK K; have hHeld := hHeld2; clear hHeld2; try simp only [Act.put, zp1, zp2, zp3]
       refine wpAnyH_ready (rs := [5]) (by kernel_rfl) (by simp) ?_
       refine AllReadyH.cons rfl (fun K hK => ?_) AllReadyH.nil
       go_simp
       refine (iDeedText_any zk zl zn _ HZN.out).mono ?_
       rintro e v1 ⟨rfl, hc3⟩
       rw [HT.out]
       have hcB : Below w8.heap.size w8 v1 := hcA.trans (Below.mono hc3 hcA.size)
       have gX3 := hXb.belowAll hc3
       refine hK.out _ _ (HC.out _ hcB) (fun hHeld2 => ?_)
       clear hHeld hK K; have hHeld := hHeld2; clear hHeld2; try simp only [Act.put, zp1, zp2, zp3]
       refine wpAnyH_ready (rs := [6]) (by kernel_rfl) (by simp) ?_
       refine AllReadyH.cons rfl (fun K hK => ?_) AllReadyH.nil
       go_simp
       refine (iExLine_any O E M _ _ ps' cs' T _ (hN8.rd.below hcB) HSN.out HKN.out.lens HTS.out).mono ?_
       intro e v2 h4
       rw [HLR.out] at h4
       have h5 := LineQ.res h4
       simp only at h5
       obtain ⟨vp2, vc2, rfl, ho4, hc4⟩ := h5
       obtain ⟨a4, c4, a5, c5, rfl, rfl⟩ := agg_parts ho4
       have hcC : Below w8.heap.size w8 v2 := hcB.trans (Below.mono hc4 hcB.size)
       have hbF := gX3.lt
       have gX := gX3.belowAll hc4
       refine hK.out _ _ (HC.out _ hcC) (fun hHeld2 => ?_)
       clear hHeld hK K; have hHeld := hHeld2; clear hHeld2; try simp only [Act.put, zp1, zp2, zp3]
       refine take_y 7 101 (v := ?_) rfl ?_ ?_; rotate_left; focus (intro w hSw; (try dsimp only at hSw); go_simp; (try rw [if_neg (by omega)]); (try with_reducible rfl))
       try simp only [Act.put, zp1, zp2, zp3]
       refine take_y 8 109 (v := ?_) rfl ?_ ?_; rotate_left; focus (intro w hSw; (try dsimp only at hSw); go_simp; (try rw [if_neg (by omega)]); (try with_reducible rfl))
       try simp only [Act.put, zp1, zp2, zp3]
       refine take_y 9 110 (v := ?_) rfl ?_ ?_; rotate_left; focus (intro w hSw; (try dsimp only at hSw); go_simp; (try rw [if_neg (by omega)]); (try with_reducible rfl))
       try simp only [Act.put, zp1, zp2, zp3]
       have hRS := ExRes.mkB (O := O) (E := E) (M := M) hcC gX (Nat.le_refl _) ho4 hbF
       obtain ⟨X0, X1, X2, X3, X4, Y0, Y1, Y2, Y3, Y4, Xlt⟩ := gX.five
       refine wpAnyH_ready (rs := [11]) (by kernel_rfl) (by simp) ?_
       refine AllReadyH.cons rfl (fun K hK => ?_) AllReadyH.nil
       go_simp
       refine hK.out _ _ (HC.out _ (by exact hRS.bel)) (fun hHeld2 => ?_)
       clear hHeld hK K; have hHeld := hHeld2; clear hHeld2; try simp only [Act.put, zp1, zp2, zp3]
       refine take_y 12 18 (v := ?_) rfl ?_ ?_; rotate_left; focus (intro w hSw; (try dsimp only at hSw); go_simp; (try rw [if_neg (by omega)]); (try with_reducible rfl))
       try simp only [Act.put, zp1, zp2, zp3]
       refine wpAnyH_done (by kernel_rfl) ?_ _
       clear hHeld
       go_wp2_with fail
       go_meet
       exact ⟨_, _, _, rfl, rfl, hRS⟩
     case rest =>
     clear n0 n1 n2 n3 n4 nlt c1 c2 c3 HC hcS
     obtain ⟨xb, vq2, vr2, rfl, rfl, hRS⟩ := hcut
     obtain ⟨a4, c4, a5, c5, rfl, rfl⟩ := agg_parts hRS.own
     have hNlt := hN8.box.lt
     have hNc := hN8.below hRS.bel
     have hNx : EBx (((((wc.setCell ⟨eb + 1, 0, none⟩ (.int .i64 O)).setCell ⟨eb + 1, 1, none⟩ (.int .i64 E)).setCell ⟨eb + 1, 2, none⟩ (.int .i64 M)).setCell ⟨eb + 1, 3, none⟩ (.slice a4 ps2.length c4)).setCell ⟨eb + 1, 4, none⟩ (.slice a5 cs2.length c5)) (eb + 1) O E M (.slice a4 ps2.length c4) (.slice a5 cs2.length c5) ps2 cs2 := ⟨five_set hNc.box, (hRS.own.result _ _ _ _ _ hNlt).rd⟩
     have hbWx := five_below (b := eb + 1) (.int .i64 O) (.int .i64 E) (.int .i64 M) (.slice a4 ps2.length c4) (.slice a5 cs2.length c5) (hbW8.trans (Below.mono hRS.bel hbW8.size)) (by omega)
     have HSN2 : Hid (SomeV (.slice a4 ps2.length c4) ps2.length) := own_somev hRS.own.plan
     obtain ⟨x0, x1, x2, x3, x4, -, -, -, -, -, xlt⟩ := hRS.box.five
     obtain ⟨n0, n1, n2, n3, n4, q0, q1, q2, q3, q4, nlt⟩ := hNc.box.five
     clear hRS hNc hN8 hbW8 hNlt HSN
     rcases HAN.out with rfl | rfl | rfl | rfl
     ·
      have hw0 := str_is (s := aok) (m := [111, 107]) (by decide)
      go_wp2
      go_roundw
      case rel => exact ⟨k + 1, _, _, ps2, cs2, by go_num, by omega, HST, Lib.hid (fun _ => HOK2.out), HSN2, hNx, hbWx⟩
      case measure => simp [intOf]; omega
     ·
      have hw0 := str_not (s := ano) (m := [111, 107]) (by decide)
      have hw1 := str_is (s := ano) (m := [110, 111]) (by decide)
      go_wp2
      go_roundw
      case rel => exact ⟨k + 1, _, _, ps2, cs2, by go_num, by omega, HST, Lib.hid (fun _ => HOK2.out), HSN2, hNx, hbWx⟩
      case measure => simp [intOf]; omega
     ·
      have hw0 := str_not (s := abusy) (m := [111, 107]) (by decide)
      have hw1 := str_not (s := abusy) (m := [110, 111]) (by decide)
      have hw2 := str_is (s := abusy) (m := [98, 117, 115, 121]) (by decide)
      go_wp2
      go_roundw
      case rel => exact ⟨k + 1, _, _, ps2, cs2, by go_num, by omega, HST, Lib.hid (fun _ => HOK2.out), HSN2, hNx, hbWx⟩
      case measure => simp [intOf]; omega
     ·
      have hw0 := str_not (s := awrong) (m := [111, 107]) (by decide)
      have hw1 := str_not (s := awrong) (m := [110, 111]) (by decide)
      have hw2 := str_not (s := awrong) (m := [98, 117, 115, 121]) (by decide)
      have hw3 := str_is (s := awrong) (m := [119, 114, 111, 110, 103]) (by decide)
      go_wp2
      go_roundw
      case rel => exact ⟨k + 1, _, _, ps2, cs2, by go_num, by omega, HST, Lib.hid (fun _ => HOK2.out), HSN2, hNx, hbWx⟩
      case measure => simp [intOf]; omega
    ·
     have hkl2 : ¬ (k : Int) < (lz : Int) := by omega
     have hkz : k = lz := by omega
     cases d
     case false =>
      have hEt := hEB.below hbW
      obtain ⟨e0, e1, e2, e3, e4, -, -, -, -, -, elt⟩ := hEt.box.five
      have HRt : Hid (Rds wr (.slice a6 lz c6) zs.length 3 (dcells zs)) := by have h := HRB.out.below hbW; unfold Hid; rw [HLZ.out]; exact h
      go_wp2_with fail
      refine (iExRun_any O E M _ _ _ ps cs zs _ hEt.rd HSV.out HL.out HRt.out HDL.out).mono ?_
      intro e w9 hq
      rw [runX_no HX.out] at hq
      unfold RunPost at hq
      simp only at hq
      obtain ⟨vx, vy, rfl, ho9, hc⟩ := hq
      obtain ⟨ax, cx, ay, cy, hvx, hvy⟩ := agg_parts ho9
      have hvx2 : vx = .slice ax 0 cx := hvx
      have hvy2 : vy = .slice ay 0 cy := hvy
      clear hvx hvy
      subst hvx2 hvy2
      clear e0 e1 e2 e3 e4 elt
      have hal9 : Below w9.heap.size w9 (w9.alloc (.cells #[.int .i64 0, .int .i64 0, .int .i64 0, .slice ax 0 cx, .slice ay 0 cy] 33)) := (Below.refl _ _).alloc (Nat.le_refl _) _
      have hX9 : EBx (w9.alloc (.cells #[.int .i64 0, .int .i64 0, .int .i64 0, .slice ax 0 cx, .slice ay 0 cy] 33)) w9.heap.size 0 0 0 (.slice ax 0 cx) (.slice ay 0 cy) [] [] := EBx.new (O := 0) (E := 0) (M := 0) ho9.rd
      have hb9 := hc.trans (Below.mono hal9 hc.size)
      have hN9 := hN.below hb9
      have hbW9 := hbW.trans (Below.mono hb9 hbW.size)
      have hE9 := hEB.below hbW9
      have HR9 : Hid (Rds _ (.slice a6 lz c6) zs.length 3 (dcells zs)) := HRt.out.below hb9
      clear hEt HRt hc hal9 hb9 ho9
      obtain ⟨e0, e1, e2, e3, e4, -, -, -, -, -, elt⟩ := hE9.box.five
      obtain ⟨n0, n1, n2, n3, n4, -, -, -, -, -, nlt⟩ := hN9.box.five
      obtain ⟨x0, x1, x2, x3, x4, -, -, -, -, -, xlt⟩ := hX9.box.five
      have hcS : Below (w9.alloc (.cells #[.int .i64 0, .int .i64 0, .int .i64 0, .slice ax 0 cx, .slice ay 0 cy] 33)).heap.size (w9.alloc (.cells #[.int .i64 0, .int .i64 0, .int .i64 0, .slice ax 0 cx, .slice ay 0 cy] 33)) (w9.alloc (.cells #[.int .i64 0, .int .i64 0, .int .i64 0, .slice ax 0 cx, .slice ay 0 cy] 33)).drew := (Below.refl _ _).drew
      have HC : Hid (∀ w' : World, Below (w9.alloc (.cells #[.int .i64 0, .int .i64 0, .int .i64 0, .slice ax 0 cx, .slice ay 0 cy] 33)).heap.size (w9.alloc (.cells #[.int .i64 0, .int .i64 0, .int .i64 0, .slice ax 0 cx, .slice ay 0 cy] 33)) w' → w'.cell? ⟨eb, 0, none⟩ = some (.int .i64 O) ∧ w'.cell? ⟨eb, 1, none⟩ = some (.int .i64 E) ∧ w'.cell? ⟨eb, 2, none⟩ = some (.int .i64 M) ∧ w'.cell? ⟨eb, 3, none⟩ = some (.slice ap ps.length cp) ∧ w'.cell? ⟨eb, 4, none⟩ = some (.slice ac cs.length cc) ∧ w'.cell? ⟨eb + 1, 0, none⟩ = some (.int .i64 O) ∧ w'.cell? ⟨eb + 1, 1, none⟩ = some (.int .i64 E) ∧ w'.cell? ⟨eb + 1, 2, none⟩ = some (.int .i64 M) ∧ w'.cell? ⟨eb + 1, 3, none⟩ = some (.slice aq ps'.length cq) ∧ w'.cell? ⟨eb + 1, 4, none⟩ = some (.slice ar cs'.length cr) ∧ w'.cell? ⟨w9.heap.size, 0, none⟩ = some (.int .i64 0) ∧ w'.cell? ⟨w9.heap.size, 1, none⟩ = some (.int .i64 0) ∧ w'.cell? ⟨w9.heap.size, 2, none⟩ = some (.int .i64 0) ∧ w'.cell? ⟨w9.heap.size, 3, none⟩ = some (.slice ax 0 cx) ∧ w'.cell? ⟨w9.heap.size, 4, none⟩ = some (.slice ay 0 cy)) := fun w' hb => ⟨keep_below hb e0, keep_below hb e1, keep_below hb e2, keep_below hb e3, keep_below hb e4, keep_below hb n0, keep_below hb n1, keep_below hb n2, keep_below hb n3, keep_below hb n4, keep_below hb x0, keep_below hb x1, keep_below hb x2, keep_below hb x3, keep_below hb x4⟩
      go_upto_region 24 with fail
      clear e0 e1 e2 e3 e4 elt n0 n1 n2 n3 n4 nlt x0 x1 x2 x3 x4 xlt
      have hnI : (n : Int) ≤ (s.size : Int) := by omega
      have hn0 : (0 : Int) ≤ (n : Int) := by omega
      obtain ⟨T, hT⟩ : ∃ T, jtxt zs = T := ⟨_, rfl⟩
      have HT := Lib.hid hT
      have hTs : T = s.extract 0 n := by
       rw [← hT, jtxt_yes HOKJ.out, ← ba_tl (jcat zs), HBK.out, ← tl_extr, ba_tl]
      have hTT := str_eq hTs
      have HLZ2 : Hid (zs.length ≤ 1048576) := by unfold Hid; rw [HLZ.out]; omega
      have HDM : Hid (∀ z ∈ zs, z.2.2.size ≤ maxLen) := fun z hz => by obtain ⟨j, hj⟩ := List.mem_iff_getElem?.1 hz; exact HDL.out j z hj
      clear hT hTs
      refine wp_region_held_drew (S := fun w' => w'.cell? ⟨eb, 0, none⟩ = some (.int .i64 O) ∧ w'.cell? ⟨eb, 1, none⟩ = some (.int .i64 E) ∧ w'.cell? ⟨eb, 2, none⟩ = some (.int .i64 M) ∧ w'.cell? ⟨eb, 3, none⟩ = some (.slice ap ps.length cp) ∧ w'.cell? ⟨eb, 4, none⟩ = some (.slice ac cs.length cc) ∧ w'.cell? ⟨eb + 1, 0, none⟩ = some (.int .i64 O) ∧ w'.cell? ⟨eb + 1, 1, none⟩ = some (.int .i64 E) ∧ w'.cell? ⟨eb + 1, 2, none⟩ = some (.int .i64 M) ∧ w'.cell? ⟨eb + 1, 3, none⟩ = some (.slice aq ps'.length cq) ∧ w'.cell? ⟨eb + 1, 4, none⟩ = some (.slice ar cs'.length cr) ∧ w'.cell? ⟨w9.heap.size, 0, none⟩ = some (.int .i64 0) ∧ w'.cell? ⟨w9.heap.size, 1, none⟩ = some (.int .i64 0) ∧ w'.cell? ⟨w9.heap.size, 2, none⟩ = some (.int .i64 0) ∧ w'.cell? ⟨w9.heap.size, 3, none⟩ = some (.slice ax 0 cx) ∧ w'.cell? ⟨w9.heap.size, 4, none⟩ = some (.slice ay 0 cy)) (by kernel_rfl) (HC.out _ hcS) (fun hHeld => ?_)
      refine take_y 0 132 (v := ?_) rfl ?_ ?_; rotate_left; focus (intro w hSw; (try dsimp only at hSw); go_simp; (try rw [if_neg (by omega)]); (try with_reducible rfl))
      try simp only [Act.put, zp1, zp2, zp3]
      refine take_y 1 133 (v := ?_) rfl ?_ ?_; rotate_left; focus (intro w hSw; (try dsimp only at hSw); go_simp; (try rw [if_neg (by omega)]); (try with_reducible rfl))
      try simp only [Act.put, zp1, zp2, zp3]
      refine take_y 2 134 (v := ?_) rfl ?_ ?_; rotate_left; focus (intro w hSw; (try dsimp only at hSw); go_simp; (try rw [if_neg (by omega)]); (try with_reducible rfl))
      try simp only [Act.put, zp1, zp2, zp3]
      refine take_y 3 135 (v := ?_) rfl ?_ ?_; rotate_left; focus (intro w hSw; (try dsimp only at hSw); go_simp; (try rw [if_neg (by omega)]); (try with_reducible rfl))
      try simp only [Act.put, zp1, zp2, zp3]
      refine take_y 4 136 (v := ?_) rfl ?_ ?_; rotate_left; focus (intro w hSw; (try dsimp only at hSw); go_simp; (try rw [if_neg (by omega)]); (try with_reducible rfl))
      try simp only [Act.put, zp1, zp2, zp3]
      refine take_y 5 137 (v := ?_) rfl ?_ ?_; rotate_left; focus (intro w hSw; (try dsimp only at hSw); go_simp; (try rw [if_neg (by omega)]); (try with_reducible rfl))
      try simp only [Act.put, zp1, zp2, zp3]
      refine take_y 7 139 (v := ?_) rfl ?_ ?_; rotate_left; focus (intro w hSw; (try dsimp only at hSw); go_simp; (try rw [if_neg (by omega)]); (try with_reducible rfl))
      try simp only [Act.put, zp1, zp2, zp3]
      refine take_y 8 140 (v := ?_) rfl ?_ ?_; rotate_left; focus (intro w hSw; (try dsimp only at hSw); go_simp; (try rw [if_neg (by omega)]); (try with_reducible rfl))
      try simp only [Act.put, zp1, zp2, zp3]
      refine take_y 9 141 (v := ?_) rfl ?_ ?_; rotate_left; focus (intro w hSw; (try dsimp only at hSw); go_simp; (try rw [if_neg (by omega)]); (try with_reducible rfl))
      try simp only [Act.put, zp1, zp2, zp3]
      refine wpAnyH_ready (rs := [6]) (by kernel_rfl) (by simp) ?_
      refine AllReadyH.cons rfl (fun K hK => ?_) AllReadyH.nil
      go_simp
      refine (iJournalText_any _ zs _ (HR9.out.below hcS) HLZ2.out HDM.out).mono ?_
      rintro e v1 ⟨rfl, hq1⟩
      rw [HT.out]
      have hc1 : Below (w9.alloc (.cells #[.int .i64 0, .int .i64 0, .int .i64 0, .slice ax 0 cx, .slice ay 0 cy] 33)).heap.size (w9.alloc (.cells #[.int .i64 0, .int .i64 0, .int .i64 0, .slice ax 0 cx, .slice ay 0 cy] 33)) v1 := hcS.trans (Below.mono hq1 hcS.size)
      refine hK.out _ _ (HC.out _ hc1) (fun hHeld2 => ?_)
      clear hHeld hK K; have hHeld := hHeld2; clear hHeld2; try simp only [Act.put, zp1, zp2, zp3]
      refine take_y 10 142 (v := ?_) rfl ?_ ?_; rotate_left; focus (intro w hSw; (try dsimp only at hSw); go_simp; (try rw [if_neg (by omega)]); (try with_reducible rfl))
      try simp only [Act.put, zp1, zp2, zp3]
      refine take_y 11 143 (v := ?_) rfl ?_ ?_; rotate_left; focus (intro w hSw; (try dsimp only at hSw); go_simp; (try rw [if_neg (by omega)]); (try with_reducible rfl))
      try simp only [Act.put, zp1, zp2, zp3]
      refine take_y 12 144 (v := ?_) rfl ?_ ?_; rotate_left; focus (intro w hSw; (try dsimp only at hSw); go_simp; (try rw [if_neg (by omega)]); (try with_reducible rfl))
      try simp only [Act.put, zp1, zp2, zp3]
      refine take_y 13 145 (v := ?_) rfl ?_ ?_; rotate_left; focus (intro w hSw; (try dsimp only at hSw); go_simp; (try rw [if_neg (by omega)]); (try with_reducible rfl))
      try simp only [Act.put, zp1, zp2, zp3]
      refine wpAnyH_ready (rs := [14]) (by kernel_rfl) (by simp) ?_
      refine AllReadyH.cons rfl (fun K hK => ?_) AllReadyH.nil
      go_simp
      refine (sExchangeValid_any O E M _ _ ps cs _ (hE9.rd.below hc1) HL.out).mono ?_
      rintro e v2 ⟨rfl, hq2⟩
      rw [HX.out]
      have hc2 : Below (w9.alloc (.cells #[.int .i64 0, .int .i64 0, .int .i64 0, .slice ax 0 cx, .slice ay 0 cy] 33)).heap.size (w9.alloc (.cells #[.int .i64 0, .int .i64 0, .int .i64 0, .slice ax 0 cx, .slice ay 0 cy] 33)) v2 := hc1.trans (Below.mono hq2 hc1.size)
      refine hK.out _ _ (HC.out _ hc2) (fun hHeld2 => ?_)
      clear hHeld hK K; have hHeld := hHeld2; clear hHeld2; try simp only [Act.put, zp1, zp2, zp3]
      refine take_y 15 147 (v := ?_) rfl ?_ ?_; rotate_left; focus (intro w hSw; (try dsimp only at hSw); go_simp; (try rw [if_neg (by omega)]); (try with_reducible rfl))
      try simp only [Act.put, zp1, zp2, zp3]
      refine take_y 16 148 (v := ?_) rfl ?_ ?_; rotate_left; focus (intro w hSw; (try dsimp only at hSw); go_simp; (try rw [if_neg (by omega)]); (try with_reducible rfl))
      try simp only [Act.put, zp1, zp2, zp3]
      refine take_on (i := 17) (d := some 149) (v := undef) rfl (by rfl) (by kernel_rfl) (by kernel_rfl) (by kernel_rfl) (fun _ _ _ h => h) (Or.inr ⟨by kernel_rfl, rfl⟩) (by assumption) ?_
      try simp only [Act.put, zp1, zp2, zp3]
      refine take_on (i := 18) (d := some 150) (v := undef) rfl (by rfl) (by kernel_rfl) (by kernel_rfl) (by kernel_rfl) (fun _ _ _ h => h) (Or.inr ⟨by kernel_rfl, rfl⟩) (by assumption) ?_
      try simp only [Act.put, zp1, zp2, zp3]
      refine take_on (i := 19) (d := some 151) (v := undef) rfl (by rfl) (by kernel_rfl) (by kernel_rfl) (by kernel_rfl) (fun _ _ _ h => h) (Or.inr ⟨by kernel_rfl, rfl⟩) (by assumption) ?_
      try simp only [Act.put, zp1, zp2, zp3]
      refine take_y 20 152 (v := ?_) rfl ?_ ?_; rotate_left; focus (intro w hSw; (try dsimp only at hSw); go_simp; (try rw [if_neg (by omega)]); (try with_reducible rfl))
      try simp only [Act.put, zp1, zp2, zp3]
      refine take_y 21 153 (v := ?_) rfl ?_ ?_; rotate_left; focus (intro w hSw; (try dsimp only at hSw); go_simp; (try rw [if_neg (by omega)]); (try with_reducible rfl))
      try simp only [Act.put, zp1, zp2, zp3]
      refine take_y 22 154 (v := ?_) rfl ?_ ?_; rotate_left; focus (intro w hSw; (try dsimp only at hSw); go_simp; (try rw [if_neg (by omega)]); (try with_reducible rfl))
      try simp only [Act.put, zp1, zp2, zp3]
      refine wpAnyH_ready (rs := [23]) (by kernel_rfl) (by simp) ?_
      refine AllReadyH.cons rfl (fun K hK => ?_) AllReadyH.nil
      go_simp
      refine (alive_any _).mono ?_
      rintro e v4 ⟨rfl, hq4⟩
      have hc4 : Below (w9.alloc (.cells #[.int .i64 0, .int .i64 0, .int .i64 0, .slice ax 0 cx, .slice ay 0 cy] 33)).heap.size (w9.alloc (.cells #[.int .i64 0, .int .i64 0, .int .i64 0, .slice ax 0 cx, .slice ay 0 cy] 33)) v4 := hc2.trans (Below.mono hq4 hc2.size)
      refine hK.out _ _ (HC.out _ hc4) (fun hHeld2 => ?_)
      clear hHeld hK K; have hHeld := hHeld2; clear hHeld2; try simp only [Act.put, zp1, zp2, zp3]
      refine take_y 24 156 (v := ?_) rfl ?_ ?_; rotate_left; focus (intro w hSw; (try dsimp only at hSw); go_simp; (try rw [if_neg (by omega)]); (try with_reducible rfl))
      try simp only [Act.put, zp1, zp2, zp3]
      refine take_y 25 4 (v := ?_) rfl ?_ ?_; rotate_left; focus (intro w hSw; (try dsimp only at hSw); go_simp; (try rw [if_neg (by omega)]); (try with_reducible rfl))
      try simp only [Act.put, zp1, zp2, zp3]
      refine wpAnyH_done (by kernel_rfl) ?_ _
      clear hHeld
      have hbE := hbB.trans (Below.mono (hbW9.trans (Below.mono hc4 hbW9.size)) hbB.size)
      go_wp2
      go_returns
      exact ⟨rfl, hbE⟩
     case true =>
      have hEt := hEB.below hbW
      obtain ⟨e0, e1, e2, e3, e4, -, -, -, -, -, elt⟩ := hEt.box.five
      have HRt : Hid (Rds wr (.slice a6 lz c6) zs.length 3 (dcells zs)) := by have h := HRB.out.below hbW; unfold Hid; rw [HLZ.out]; exact h
      go_wp2_with fail
      refine (iExRun_any O E M _ _ _ ps cs zs _ hEt.rd HSV.out HL.out HRt.out HDL.out).mono ?_
      intro e w9 hq
      rw [runX_yes HX.out] at hq
      obtain ⟨⟨⟨pz, cz⟩, nz⟩, hz⟩ : ∃ r, runL E M ps cs zs = r := ⟨_, rfl⟩
      have hzz : (pz, cz) = (ps', cs') := by
       have h := HRN.out
       rw [List.take_of_length_le (by rw [HLZ.out]; omega), hz] at h
       exact h
      simp only [Prod.mk.injEq] at hzz
      obtain ⟨rfl, rfl⟩ := hzz
      rw [hz] at hq
      clear hz
      unfold RunPost at hq
      simp only at hq
      obtain ⟨vx, vy, rfl, ho9, hc⟩ := hq
      obtain ⟨ax, cx, ay, cy, hvx, hvy⟩ := agg_parts ho9
      have hvx2 : vx = .slice ax pz.length cx := hvx
      have hvy2 : vy = .slice ay cz.length cy := hvy
      clear hvx hvy
      subst hvx2 hvy2
      clear e0 e1 e2 e3 e4 elt
      have hal9 : Below w9.heap.size w9 (w9.alloc (.cells #[.int .i64 O, .int .i64 E, .int .i64 M, .slice ax pz.length cx, .slice ay cz.length cy] 33)) := (Below.refl _ _).alloc (Nat.le_refl _) _
      have hX9 : EBx (w9.alloc (.cells #[.int .i64 O, .int .i64 E, .int .i64 M, .slice ax pz.length cx, .slice ay cz.length cy] 33)) w9.heap.size O E M (.slice ax pz.length cx) (.slice ay cz.length cy) pz cz := EBx.new (O := O) (E := E) (M := M) ho9.rd
      have hb9 := hc.trans (Below.mono hal9 hc.size)
      have hN9 := hN.below hb9
      have hbW9 := hbW.trans (Below.mono hb9 hbW.size)
      have hE9 := hEB.below hbW9
      have HR9 : Hid (Rds _ (.slice a6 lz c6) zs.length 3 (dcells zs)) := HRt.out.below hb9
      clear hEt HRt hc hal9 hb9 ho9
      obtain ⟨e0, e1, e2, e3, e4, -, -, -, -, -, elt⟩ := hE9.box.five
      obtain ⟨n0, n1, n2, n3, n4, -, -, -, -, -, nlt⟩ := hN9.box.five
      obtain ⟨x0, x1, x2, x3, x4, -, -, -, -, -, xlt⟩ := hX9.box.five
      have hcS : Below (w9.alloc (.cells #[.int .i64 O, .int .i64 E, .int .i64 M, .slice ax pz.length cx, .slice ay cz.length cy] 33)).heap.size (w9.alloc (.cells #[.int .i64 O, .int .i64 E, .int .i64 M, .slice ax pz.length cx, .slice ay cz.length cy] 33)) (w9.alloc (.cells #[.int .i64 O, .int .i64 E, .int .i64 M, .slice ax pz.length cx, .slice ay cz.length cy] 33)).drew := (Below.refl _ _).drew
      have HC : Hid (∀ w' : World, Below (w9.alloc (.cells #[.int .i64 O, .int .i64 E, .int .i64 M, .slice ax pz.length cx, .slice ay cz.length cy] 33)).heap.size (w9.alloc (.cells #[.int .i64 O, .int .i64 E, .int .i64 M, .slice ax pz.length cx, .slice ay cz.length cy] 33)) w' → w'.cell? ⟨eb, 0, none⟩ = some (.int .i64 O) ∧ w'.cell? ⟨eb, 1, none⟩ = some (.int .i64 E) ∧ w'.cell? ⟨eb, 2, none⟩ = some (.int .i64 M) ∧ w'.cell? ⟨eb, 3, none⟩ = some (.slice ap ps.length cp) ∧ w'.cell? ⟨eb, 4, none⟩ = some (.slice ac cs.length cc) ∧ w'.cell? ⟨eb + 1, 0, none⟩ = some (.int .i64 O) ∧ w'.cell? ⟨eb + 1, 1, none⟩ = some (.int .i64 E) ∧ w'.cell? ⟨eb + 1, 2, none⟩ = some (.int .i64 M) ∧ w'.cell? ⟨eb + 1, 3, none⟩ = some (.slice aq pz.length cq) ∧ w'.cell? ⟨eb + 1, 4, none⟩ = some (.slice ar cz.length cr) ∧ w'.cell? ⟨w9.heap.size, 0, none⟩ = some (.int .i64 O) ∧ w'.cell? ⟨w9.heap.size, 1, none⟩ = some (.int .i64 E) ∧ w'.cell? ⟨w9.heap.size, 2, none⟩ = some (.int .i64 M) ∧ w'.cell? ⟨w9.heap.size, 3, none⟩ = some (.slice ax pz.length cx) ∧ w'.cell? ⟨w9.heap.size, 4, none⟩ = some (.slice ay cz.length cy)) := fun w' hb => ⟨keep_below hb e0, keep_below hb e1, keep_below hb e2, keep_below hb e3, keep_below hb e4, keep_below hb n0, keep_below hb n1, keep_below hb n2, keep_below hb n3, keep_below hb n4, keep_below hb x0, keep_below hb x1, keep_below hb x2, keep_below hb x3, keep_below hb x4⟩
      go_upto_region 24 with fail
      clear e0 e1 e2 e3 e4 elt n0 n1 n2 n3 n4 nlt x0 x1 x2 x3 x4 xlt
      have hnI : (n : Int) ≤ (s.size : Int) := by omega
      have hn0 : (0 : Int) ≤ (n : Int) := by omega
      obtain ⟨T, hT⟩ : ∃ T, jtxt zs = T := ⟨_, rfl⟩
      have HT := Lib.hid hT
      have hTs : T = s.extract 0 n := by
       rw [← hT, jtxt_yes HOKJ.out, ← ba_tl (jcat zs), HBK.out, ← tl_extr, ba_tl]
      have hTT := str_eq hTs
      have HLZ2 : Hid (zs.length ≤ 1048576) := by unfold Hid; rw [HLZ.out]; omega
      have HDM : Hid (∀ z ∈ zs, z.2.2.size ≤ maxLen) := fun z hz => by obtain ⟨j, hj⟩ := List.mem_iff_getElem?.1 hz; exact HDL.out j z hj
      clear hT hTs
      refine wp_region_held_drew (S := fun w' => w'.cell? ⟨eb, 0, none⟩ = some (.int .i64 O) ∧ w'.cell? ⟨eb, 1, none⟩ = some (.int .i64 E) ∧ w'.cell? ⟨eb, 2, none⟩ = some (.int .i64 M) ∧ w'.cell? ⟨eb, 3, none⟩ = some (.slice ap ps.length cp) ∧ w'.cell? ⟨eb, 4, none⟩ = some (.slice ac cs.length cc) ∧ w'.cell? ⟨eb + 1, 0, none⟩ = some (.int .i64 O) ∧ w'.cell? ⟨eb + 1, 1, none⟩ = some (.int .i64 E) ∧ w'.cell? ⟨eb + 1, 2, none⟩ = some (.int .i64 M) ∧ w'.cell? ⟨eb + 1, 3, none⟩ = some (.slice aq pz.length cq) ∧ w'.cell? ⟨eb + 1, 4, none⟩ = some (.slice ar cz.length cr) ∧ w'.cell? ⟨w9.heap.size, 0, none⟩ = some (.int .i64 O) ∧ w'.cell? ⟨w9.heap.size, 1, none⟩ = some (.int .i64 E) ∧ w'.cell? ⟨w9.heap.size, 2, none⟩ = some (.int .i64 M) ∧ w'.cell? ⟨w9.heap.size, 3, none⟩ = some (.slice ax pz.length cx) ∧ w'.cell? ⟨w9.heap.size, 4, none⟩ = some (.slice ay cz.length cy)) (by kernel_rfl) (HC.out _ hcS) (fun hHeld => ?_)
      refine take_y 0 132 (v := ?_) rfl ?_ ?_; rotate_left; focus (intro w hSw; (try dsimp only at hSw); go_simp; (try rw [if_neg (by omega)]); (try with_reducible rfl))
      try simp only [Act.put, zp1, zp2, zp3]
      refine take_y 1 133 (v := ?_) rfl ?_ ?_; rotate_left; focus (intro w hSw; (try dsimp only at hSw); go_simp; (try rw [if_neg (by omega)]); (try with_reducible rfl))
      try simp only [Act.put, zp1, zp2, zp3]
      refine take_y 2 134 (v := ?_) rfl ?_ ?_; rotate_left; focus (intro w hSw; (try dsimp only at hSw); go_simp; (try rw [if_neg (by omega)]); (try with_reducible rfl))
      try simp only [Act.put, zp1, zp2, zp3]
      refine take_y 3 135 (v := ?_) rfl ?_ ?_; rotate_left; focus (intro w hSw; (try dsimp only at hSw); go_simp; (try rw [if_neg (by omega)]); (try with_reducible rfl))
      try simp only [Act.put, zp1, zp2, zp3]
      refine take_y 4 136 (v := ?_) rfl ?_ ?_; rotate_left; focus (intro w hSw; (try dsimp only at hSw); go_simp; (try rw [if_neg (by omega)]); (try with_reducible rfl))
      try simp only [Act.put, zp1, zp2, zp3]
      refine take_y 5 137 (v := ?_) rfl ?_ ?_; rotate_left; focus (intro w hSw; (try dsimp only at hSw); go_simp; (try rw [if_neg (by omega)]); (try with_reducible rfl))
      try simp only [Act.put, zp1, zp2, zp3]
      refine take_y 7 139 (v := ?_) rfl ?_ ?_; rotate_left; focus (intro w hSw; (try dsimp only at hSw); go_simp; (try rw [if_neg (by omega)]); (try with_reducible rfl))
      try simp only [Act.put, zp1, zp2, zp3]
      refine take_y 8 140 (v := ?_) rfl ?_ ?_; rotate_left; focus (intro w hSw; (try dsimp only at hSw); go_simp; (try rw [if_neg (by omega)]); (try with_reducible rfl))
      try simp only [Act.put, zp1, zp2, zp3]
      refine take_y 9 141 (v := ?_) rfl ?_ ?_; rotate_left; focus (intro w hSw; (try dsimp only at hSw); go_simp; (try rw [if_neg (by omega)]); (try with_reducible rfl))
      try simp only [Act.put, zp1, zp2, zp3]
      refine wpAnyH_ready (rs := [6]) (by kernel_rfl) (by simp) ?_
      refine AllReadyH.cons rfl (fun K hK => ?_) AllReadyH.nil
      go_simp
      refine (iJournalText_any _ zs _ (HR9.out.below hcS) HLZ2.out HDM.out).mono ?_
      rintro e v1 ⟨rfl, hq1⟩
      rw [HT.out]
      have hc1 : Below (w9.alloc (.cells #[.int .i64 O, .int .i64 E, .int .i64 M, .slice ax pz.length cx, .slice ay cz.length cy] 33)).heap.size (w9.alloc (.cells #[.int .i64 O, .int .i64 E, .int .i64 M, .slice ax pz.length cx, .slice ay cz.length cy] 33)) v1 := hcS.trans (Below.mono hq1 hcS.size)
      refine hK.out _ _ (HC.out _ hc1) (fun hHeld2 => ?_)
      clear hHeld hK K; have hHeld := hHeld2; clear hHeld2; try simp only [Act.put, zp1, zp2, zp3]
      refine take_y 10 142 (v := ?_) rfl ?_ ?_; rotate_left; focus (intro w hSw; (try dsimp only at hSw); go_simp; (try rw [if_neg (by omega)]); (try with_reducible rfl))
      try simp only [Act.put, zp1, zp2, zp3]
      refine take_y 11 143 (v := ?_) rfl ?_ ?_; rotate_left; focus (intro w hSw; (try dsimp only at hSw); go_simp; (try rw [if_neg (by omega)]); (try with_reducible rfl))
      try simp only [Act.put, zp1, zp2, zp3]
      refine take_y 12 144 (v := ?_) rfl ?_ ?_; rotate_left; focus (intro w hSw; (try dsimp only at hSw); go_simp; (try rw [if_neg (by omega)]); (try with_reducible rfl))
      try simp only [Act.put, zp1, zp2, zp3]
      refine take_y 13 145 (v := ?_) rfl ?_ ?_; rotate_left; focus (intro w hSw; (try dsimp only at hSw); go_simp; (try rw [if_neg (by omega)]); (try with_reducible rfl))
      try simp only [Act.put, zp1, zp2, zp3]
      refine wpAnyH_ready (rs := [14]) (by kernel_rfl) (by simp) ?_
      refine AllReadyH.cons rfl (fun K hK => ?_) AllReadyH.nil
      go_simp
      refine (sExchangeValid_any O E M _ _ ps cs _ (hE9.rd.below hc1) HL.out).mono ?_
      rintro e v2 ⟨rfl, hq2⟩
      rw [HX.out]
      have hc2 : Below (w9.alloc (.cells #[.int .i64 O, .int .i64 E, .int .i64 M, .slice ax pz.length cx, .slice ay cz.length cy] 33)).heap.size (w9.alloc (.cells #[.int .i64 O, .int .i64 E, .int .i64 M, .slice ax pz.length cx, .slice ay cz.length cy] 33)) v2 := hc1.trans (Below.mono hq2 hc1.size)
      refine hK.out _ _ (HC.out _ hc2) (fun hHeld2 => ?_)
      clear hHeld hK K; have hHeld := hHeld2; clear hHeld2; try simp only [Act.put, zp1, zp2, zp3]
      refine take_y 15 147 (v := ?_) rfl ?_ ?_; rotate_left; focus (intro w hSw; (try dsimp only at hSw); go_simp; (try rw [if_neg (by omega)]); (try with_reducible rfl))
      try simp only [Act.put, zp1, zp2, zp3]
      refine take_y 16 148 (v := ?_) rfl ?_ ?_; rotate_left; focus (intro w hSw; (try dsimp only at hSw); go_simp; (try rw [if_neg (by omega)]); (try with_reducible rfl))
      try simp only [Act.put, zp1, zp2, zp3]
      refine take_y 17 149 (v := ?_) rfl ?_ ?_; rotate_left; focus (intro w hSw; (try dsimp only at hSw); go_simp; (try rw [if_neg (by omega)]); (try with_reducible rfl))
      try simp only [Act.put, zp1, zp2, zp3]
      refine take_y 18 150 (v := ?_) rfl ?_ ?_; rotate_left; focus (intro w hSw; (try dsimp only at hSw); go_simp; (try rw [if_neg (by omega)]); (try with_reducible rfl))
      try simp only [Act.put, zp1, zp2, zp3]
      refine wpAnyH_ready (rs := [19]) (by kernel_rfl) (by simp) ?_
      refine AllReadyH.cons rfl (fun K hK => ?_) AllReadyH.nil
      go_simp
      refine (sameExchange_any O E M O E M _ _ _ _ pz pz cz cz _ (hN9.rd.below hc2) (hX9.rd.below hc2)).mono ?_
      rintro e v3 ⟨rfl, hq3⟩
      rw [sameB_yes]
      have hc3 : Below (w9.alloc (.cells #[.int .i64 O, .int .i64 E, .int .i64 M, .slice ax pz.length cx, .slice ay cz.length cy] 33)).heap.size (w9.alloc (.cells #[.int .i64 O, .int .i64 E, .int .i64 M, .slice ax pz.length cx, .slice ay cz.length cy] 33)) v3 := hc2.trans (Below.mono hq3 hc2.size)
      refine hK.out _ _ (HC.out _ hc3) (fun hHeld2 => ?_)
      clear hHeld hK K; have hHeld := hHeld2; clear hHeld2; try simp only [Act.put, zp1, zp2, zp3]
      refine take_y 20 152 (v := ?_) rfl ?_ ?_; rotate_left; focus (intro w hSw; (try dsimp only at hSw); go_simp; (try rw [if_neg (by omega)]); (try with_reducible rfl))
      try simp only [Act.put, zp1, zp2, zp3]
      refine take_y 21 153 (v := ?_) rfl ?_ ?_; rotate_left; focus (intro w hSw; (try dsimp only at hSw); go_simp; (try rw [if_neg (by omega)]); (try with_reducible rfl))
      try simp only [Act.put, zp1, zp2, zp3]
      refine take_y 22 154 (v := ?_) rfl ?_ ?_; rotate_left; focus (intro w hSw; (try dsimp only at hSw); go_simp; (try rw [if_neg (by omega)]); (try with_reducible rfl))
      try simp only [Act.put, zp1, zp2, zp3]
      refine wpAnyH_ready (rs := [23]) (by kernel_rfl) (by simp) ?_
      refine AllReadyH.cons rfl (fun K hK => ?_) AllReadyH.nil
      go_simp
      refine (alive_any _).mono ?_
      rintro e v4 ⟨rfl, hq4⟩
      have hc4 : Below (w9.alloc (.cells #[.int .i64 O, .int .i64 E, .int .i64 M, .slice ax pz.length cx, .slice ay cz.length cy] 33)).heap.size (w9.alloc (.cells #[.int .i64 O, .int .i64 E, .int .i64 M, .slice ax pz.length cx, .slice ay cz.length cy] 33)) v4 := hc3.trans (Below.mono hq4 hc3.size)
      refine hK.out _ _ (HC.out _ hc4) (fun hHeld2 => ?_)
      clear hHeld hK K; have hHeld := hHeld2; clear hHeld2; try simp only [Act.put, zp1, zp2, zp3]
      refine take_y 24 156 (v := ?_) rfl ?_ ?_; rotate_left; focus (intro w hSw; (try dsimp only at hSw); go_simp; (try rw [if_neg (by omega)]); (try with_reducible rfl))
      try simp only [Act.put, zp1, zp2, zp3]
      refine take_y 25 4 (v := ?_) rfl ?_ ?_; rotate_left; focus (intro w hSw; (try dsimp only at hSw); go_simp; (try rw [if_neg (by omega)]); (try with_reducible rfl))
      try simp only [Act.put, zp1, zp2, zp3]
      refine wpAnyH_done (by kernel_rfl) ?_ _
      clear hHeld
      have hbE := hbB.trans (Below.mono (hbW9.trans (Below.mono hc4 hbW9.size)) hbB.size)
      go_wp2
      go_returns
      exact ⟨rfl, hbE⟩

end Go.Proofs.YtedadhoneebfnaaGreatDoor
