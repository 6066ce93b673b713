/- Deeds of an exchange, plain: what they do, and that they keep it valid. No program in sight. -/
import Derived.Test.YtedadhoneebfnaaExP
set_option linter.unusedSimpArgs false
set_option linter.unusedVariables false
namespace Go.Proofs.Ytedadhoneebfnaa

/-- All ends of calls are different lines. -/
theorem ExOk.only {O E M : Int} {ps : List ByteArray} {cs : List Cl} (h : ExOk O E M ps cs) {c d : Cl} {x : Int} (hc : c ∈ cs) (hd : d ∈ cs) (h1 : hasE x c = true) (h2 : hasE x d = true) : c = d := by
  simp only [hasE, Bool.or_eq_true, decide_eq_true_eq] at h1 h2
  rcases h1 with h1 | h1 <;> rcases h2 with h2 | h2
  · exact h.calls.one hc hd (.inl (by omega))
  · exact absurd (show c.1 = d.2.1 by omega) (h.part c hc d hd)
  · exact absurd (show d.1 = c.2.1 by omega) (h.part d hd c hc)
  · exact h.calls.one hc hd (.inr (by omega))
theorem ExOk.apart {O E M : Int} {ps : List ByteArray} {cs : List Cl} (h : ExOk O E M ps cs) {c : Cl} (hc : c ∈ cs) : c.1 ≠ c.2.1 := h.part c hc c hc
theorem ExOk.bare {O E M : Int} {ps : List ByteArray} {cs : List Cl} (h : ExOk O E M ps cs) : ExOk O E M ps [] :=
  ⟨⟨h.calls.sh, fun k c hc => by simp at hc, fun j k d c _ hd => by simp at hd⟩, h.en, h.plan, h.len, fun c hc => by simp at hc⟩
/-- A call found is the call that there is. -/
theorem ExOk.find {O E M : Int} {ps : List ByteArray} {cs : List Cl} (h : ExOk O E M ps cs) {c : Cl} {x : Int} (hc : c ∈ cs) (h1 : hasE x c = true) : cs.find? (hasE x) = some c := by
  cases hf : cs.find? (hasE x) with
  | none =>
    rw [List.find?_eq_none] at hf
    exact absurd h1 (hf c hc)
  | some d => rw [h.only hc (List.mem_of_find?_eq_some hf) h1 (List.find?_some hf)]
theorem hasE_in (c : Cl) : hasE c.1 c = true := by simp [hasE]
theorem hasE_out (c : Cl) : hasE c.2.1 c = true := by simp [hasE]
theorem ExOk.peer_peer {O E M : Int} {ps : List ByteArray} {cs : List Cl} (h : ExOk O E M ps cs) {x : Int} (hx : 0 ≤ peerL cs x) : peerL cs (peerL cs x) = x ∧ peerL cs x ≠ x ∧ peerL cs x < ps.length := by
  rcases peer_neg h.calls x with ⟨h1, _⟩ | ⟨c, hf, hc, h2, h3, h4⟩
  · omega
  · have hl := h.len
    have ha := h.apart hc
    rcases h2 with ⟨e1, e2⟩ | ⟨e1, e2⟩
    · rw [e2, peer_some (h.find hc (hasE_out c))]
      exact ⟨by omega, by omega, by omega⟩
    · rw [e2, peer_some (h.find hc (hasE_in c))]
      exact ⟨by omega, by omega, by omega⟩

/-! The ends alone. -/
def ends (c : Cl) : Int × Int := (c.1, c.2.1)
def hasP (x : Int) (p : Int × Int) : Bool := decide (p.1 = x) || decide (p.2 = x)
theorem flip_ends (a b : Int) (ch : List Nat) (cs : List Cl) : (flipL a b ch cs).map ends = cs.map ends := by
  apply List.ext_getElem?
  intro k
  cases hk : cs[k]? with
  | none =>
    have : cs.length ≤ k := by rw [List.getElem?_eq_none_iff] at hk; exact hk
    rw [List.getElem?_eq_none (by simp [flipL]; omega), List.getElem?_eq_none (by simp; omega)]
  | some c => rw [List.getElem?_map, List.getElem?_map, flipL_at hk, hk]; rfl
theorem move_ends (E M : Int) (cs : List Cl) (x y : Int) : (moveL E M cs x y).map ends = cs.map ends ++ [(x, y)] := by
  unfold moveL
  split
  · simp [ends]
  · simp only [List.map_append, flip_ends]; simp [ends]
theorem peer_ends (cs : List Cl) (x : Int) : peerL cs x = match (cs.map ends).find? (hasP x) with
    | some p => p.1 + p.2 - x
    | none => -1 := by
  unfold peerL
  rw [List.find?_map]
  have : (hasP x ∘ ends) = hasE x := rfl
  rw [this]
  cases cs.find? (hasE x) <;> rfl
theorem mem_ends {cs : List Cl} {p : Int × Int} : p ∈ cs.map ends ↔ ∃ c ∈ cs, ends c = p := by simp [List.mem_map]
theorem part_ends {cs : List Cl} : PartOk cs ↔ ∀ p ∈ cs.map ends, ∀ q ∈ cs.map ends, p.1 ≠ q.2 := by
  constructor
  · intro h p hp q hq
    obtain ⟨c, hc, rfl⟩ := mem_ends.1 hp
    obtain ⟨d, hd, rfl⟩ := mem_ends.1 hq
    exact h c hc d hd
  · intro h c hc d hd
    exact h (ends c) (mem_ends.2 ⟨c, hc, rfl⟩) (ends d) (mem_ends.2 ⟨d, hd, rfl⟩)
theorem find_free {cs : List Cl} {x : Int} (h : cs.find? (hasE x) = none) : ∀ c ∈ cs, c.1 ≠ x ∧ c.2.1 ≠ x := by
  intro c hc
  rw [List.find?_eq_none] at h
  have := h c hc
  simp [hasE] at this
  exact this

/-! Deeds. -/
def dropL (cs : List Cl) (x : Int) : List Cl := cs.filter fun c => !decide (c.1 = x)
noncomputable def doL (E M : Int) (ps : List ByteArray) (cs : List Cl) (kind line : Int) (num : ByteArray) : Option (List ByteArray × List Cl) :=
  if line < 0 ∨ (ps.length : Int) ≤ line then none
  else if kind = 0 then
    (if lineL ps num < 0 ∨ lineL ps num = line ∨ 0 ≤ peerL cs line ∨ 0 ≤ peerL cs (lineL ps num) then none else some (ps, moveL E M cs line (lineL ps num)))
  else if kind = 1 then
    (if num ≠ ByteArray.empty then none else match cs.find? (hasE line) with
      | none => none
      | some c => some (ps, dropL cs c.1))
  else if kind = 2 then
    (if ps[line.toNat]? = some num ∨ planB (ps.set line.toNat num) = false then none else some (ps.set line.toNat num, cs))
  else none
theorem dropL_ok {O E M : Int} {cs : List Cl} (h : CallsOk O E M cs) (x : Int) : CallsOk O E M (dropL cs x) := by
  have hp : (dropL cs x).Pairwise fun d c => d.1 ≠ c.1 ∧ d.2.1 ≠ c.2.1 ∧ ∀ s, swC E s d = swC E s c → d.2.2 ≠ c.2.2 := by
    refine List.Pairwise.filter _ ?_
    rw [List.pairwise_iff_getElem]
    intro i j hi hj hij
    exact h.apart i j _ _ hij (List.getElem?_eq_getElem hi) (List.getElem?_eq_getElem hj)
  refine ⟨h.sh, fun k c hc => ?_, fun j k d c hjk hd hc => ?_⟩
  · exact h.mem (List.mem_filter.1 (List.mem_of_getElem? hc)).1
  · obtain ⟨hj, rfl⟩ := List.getElem?_eq_some_iff.1 hd
    obtain ⟨hk, rfl⟩ := List.getElem?_eq_some_iff.1 hc
    exact List.pairwise_iff_getElem.1 hp j k hj hk hjk
theorem dropL_mem {cs : List Cl} {x : Int} {c : Cl} : c ∈ dropL cs x ↔ c ∈ cs ∧ c.1 ≠ x := by simp [dropL, List.mem_filter]
theorem dropL_len {cs : List Cl} {x : Int} : (dropL cs x).length ≤ cs.length := List.length_filter_le _ _
theorem dropL_lt {cs : List Cl} {c : Cl} (hc : c ∈ cs) : (dropL cs c.1).length < cs.length := by
  unfold dropL
  rw [List.length_filter_lt_length_iff_exists]
  exact ⟨c, hc, by simp⟩
theorem free_of {cs : List Cl} {x : Int} (hok : ∃ O E M, CallsOk O E M cs) (h : ¬ 0 ≤ peerL cs x) : cs.find? (hasE x) = none := by
  obtain ⟨O, E, M, hok⟩ := hok
  rcases peer_neg hok x with ⟨_, h2⟩ | ⟨c, _, _, _, h3, _⟩
  · exact h2
  · omega
theorem do_call {O E M : Int} {ps : List ByteArray} {cs : List Cl} (h : ExOk O E M ps cs) {x y : Int} (hx : 0 ≤ x ∧ x < ps.length) (hy : 0 ≤ y ∧ y < ps.length) (hxy : y ≠ x) (h1 : cs.find? (hasE x) = none) (h2 : cs.find? (hasE y) = none) : ExOk O E M ps (moveL E M cs x y) := by
  have f1 := find_free h1
  have f2 := find_free h2
  have hl := h.len
  refine ⟨moveL_ok h.calls h.en (by omega) (by omega) (fun c hc => ⟨(f1 c hc).1, (f2 c hc).2⟩), h.en, h.plan, h.len, ?_⟩
  rw [part_ends, move_ends]
  intro p hp q hq
  rcases List.mem_append.1 hp with hp | hp <;> rcases List.mem_append.1 hq with hq | hq
  · exact part_ends.1 h.part p hp q hq
  · obtain ⟨c, hc, rfl⟩ := mem_ends.1 hp
    simp at hq; subst hq
    exact (f2 c hc).1
  · obtain ⟨c, hc, rfl⟩ := mem_ends.1 hq
    simp at hp; subst hp
    exact fun e => (f1 c hc).2 e.symm
  · simp at hp hq; subst hp; subst hq
    exact fun e => hxy e.symm
theorem line_lt {ps : List ByteArray} {s : ByteArray} (h : 0 ≤ lineL ps s) : lineL ps s < ps.length := by
  rcases line_is (ps := ps) (s := s) with ⟨h1, _⟩ | ⟨k, h1, h2, _⟩
  · omega
  · have := (List.getElem?_eq_some_iff.1 h2).1; omega
theorem do_ok {O E M : Int} {ps : List ByteArray} {cs : List Cl} (h : ExOk O E M ps cs) {kind line : Int} {num : ByteArray} {ps' : List ByteArray} {cs' : List Cl} (hd : doL E M ps cs kind line num = some (ps', cs')) : ExOk O E M ps' cs' := by
  unfold doL at hd
  split at hd
  · cases hd
  rename_i hl
  split at hd
  · split at hd
    · cases hd
    rename_i hc
    simp only [not_or] at hc hl
    cases hd
    exact do_call h (by omega) ⟨by omega, line_lt (by omega)⟩ hc.2.1 (free_of ⟨O, E, M, h.calls⟩ hc.2.2.1) (free_of ⟨O, E, M, h.calls⟩ hc.2.2.2)
  split at hd
  · split at hd
    · cases hd
    split at hd
    · cases hd
    · cases hd
      exact ⟨dropL_ok h.calls _, h.en, h.plan, h.len, fun c hc d hd => h.part c (dropL_mem.1 hc).1 d (dropL_mem.1 hd).1⟩
  split at hd
  · split at hd
    · cases hd
    rename_i hc
    cases hd
    simp only [not_or, Bool.not_eq_false] at hc
    exact ⟨h.calls, h.en, (planB_iff _).1 hc.2, by rw [List.length_set]; exact h.len, h.part⟩
  · cases hd

/-! Deeds one after the other. -/
abbrev Dd := Int × Int × ByteArray
noncomputable def stepL (E M : Int) (x : (List ByteArray × List Cl) × Nat) (d : Dd) : (List ByteArray × List Cl) × Nat :=
  match doL E M x.1.1 x.1.2 d.1 d.2.1 d.2.2 with
  | some y => (y, x.2 + 1)
  | none => x
noncomputable def runL (E M : Int) (ps : List ByteArray) (cs : List Cl) (ds : List Dd) : (List ByteArray × List Cl) × Nat := ds.foldl (stepL E M) ((ps, cs), 0)
theorem run_snoc {E M : Int} {ps : List ByteArray} {cs : List Cl} {ds : List Dd} {k : Nat} {d : Dd} (h : ds[k]? = some d) : runL E M ps cs (ds.take (k + 1)) = stepL E M (runL E M ps cs (ds.take k)) d := by
  obtain ⟨hk, rfl⟩ := List.getElem?_eq_some_iff.1 h
  unfold runL
  rw [List.take_succ_eq_append_getElem hk, List.foldl_append]; rfl
theorem step_ok {O E M : Int} {x : (List ByteArray × List Cl) × Nat} {d : Dd} (h : ExOk O E M x.1.1 x.1.2) : ExOk O E M (stepL E M x d).1.1 (stepL E M x d).1.2 := by
  unfold stepL
  split
  · rename_i y hy
    exact do_ok h hy
  · exact h
theorem fold_ok {O E M : Int} (ds : List Dd) : ∀ (x : (List ByteArray × List Cl) × Nat), ExOk O E M x.1.1 x.1.2 → ExOk O E M (ds.foldl (stepL E M) x).1.1 (ds.foldl (stepL E M) x).1.2 := by
  induction ds with
  | nil => intro x h; exact h
  | cons d ds ih => intro x h; exact ih _ (step_ok h)
theorem run_ok {O E M : Int} {ps : List ByteArray} {cs : List Cl} (h : ExOk O E M ps cs) (ds : List Dd) : ExOk O E M (runL E M ps cs ds).1.1 (runL E M ps cs ds).1.2 := fold_ok ds _ h
theorem step_count {E M : Int} (x : (List ByteArray × List Cl)) (n : Nat) (d : Dd) : stepL E M (x, n) d = ((stepL E M (x, 0) d).1, n + (stepL E M (x, 0) d).2) := by
  unfold stepL
  simp only
  split <;> simp
theorem fold_count {E M : Int} (ds : List Dd) : ∀ (x : (List ByteArray × List Cl)) (n : Nat), ds.foldl (stepL E M) (x, n) = ((ds.foldl (stepL E M) (x, 0)).1, n + (ds.foldl (stepL E M) (x, 0)).2) := by
  induction ds with
  | nil => intro x n; simp
  | cons d ds ih =>
    intro x n
    simp only [List.foldl_cons]
    rw [step_count x n d]
    obtain ⟨y, m⟩ : ∃ y, stepL E M (x, 0) d = y := ⟨_, rfl⟩
    rw [m]
    obtain ⟨z, k⟩ := y
    rw [ih z (n + k), ih z k]
    simp [Nat.add_assoc]
theorem run_app {E M : Int} (ps : List ByteArray) (cs : List Cl) (ds es : List Dd) : runL E M ps cs (ds ++ es) = ((runL E M (runL E M ps cs ds).1.1 (runL E M ps cs ds).1.2 es).1, (runL E M ps cs ds).2 + (runL E M (runL E M ps cs ds).1.1 (runL E M ps cs ds).1.2 es).2) := by
  unfold runL
  rw [List.foldl_append]
  obtain ⟨y, hy⟩ : ∃ y, ds.foldl (stepL E M) ((ps, cs), 0) = y := ⟨_, rfl⟩
  rw [hy]
  obtain ⟨⟨p, c⟩, n⟩ := y
  exact fold_count es (p, c) n
theorem fold_le {E M : Int} (ds : List Dd) : ∀ (x : (List ByteArray × List Cl) × Nat), x.2 ≤ (ds.foldl (stepL E M) x).2 ∧ (ds.foldl (stepL E M) x).2 ≤ x.2 + ds.length := by
  induction ds with
  | nil => intro x; simp
  | cons d ds ih =>
    intro x
    have h1 := ih (stepL E M x d)
    have h2 : x.2 ≤ (stepL E M x d).2 ∧ (stepL E M x d).2 ≤ x.2 + 1 := by unfold stepL; split <;> simp
    simp only [List.foldl_cons, List.length_cons]
    omega
theorem run_le {E M : Int} (ps : List ByteArray) (cs : List Cl) (ds : List Dd) : (runL E M ps cs ds).2 ≤ ds.length := by
  have := (fold_le (E := E) (M := M) ds ((ps, cs), 0)).2
  simpa [runL] using this
theorem do_plan_len {E M : Int} {ps : List ByteArray} {cs : List Cl} {kind line : Int} {num : ByteArray} {ps' : List ByteArray} {cs' : List Cl} (hd : doL E M ps cs kind line num = some (ps', cs')) : ps'.length = ps.length := by
  unfold doL at hd
  split at hd
  · cases hd
  split at hd
  · split at hd
    · cases hd
    · cases hd; rfl
  split at hd
  · split at hd
    · cases hd
    split at hd
    · cases hd
    · cases hd; rfl
  split at hd
  · split at hd
    · cases hd
    · cases hd; simp
  · cases hd

/-! The night. -/
def nightL (cs : List Cl) : List Dd := cs.map fun c => (1, c.1, ByteArray.empty)
theorem night_fold {O E M : Int} {ps : List ByteArray} : ∀ (cs : List Cl) (n : Nat), ExOk O E M ps cs → (nightL cs).foldl (stepL E M) ((ps, cs), n) = ((ps, []), n + cs.length) := by
  intro cs
  induction cs with
  | nil => intro n _; rfl
  | cons c cs ih =>
    intro n h
    have hl := h.len
    have hm := h.calls.mem (c := c) (by simp)
    have hf : (c :: cs).find? (hasE c.1) = some c := by simp [List.find?_cons, hasE_in]
    have hdr : dropL (c :: cs) c.1 = cs := by
      unfold dropL
      rw [List.filter_cons_of_neg (by simp), List.filter_eq_self]
      intro d hd
      simp only [Bool.not_eq_eq_eq_not, Bool.not_true, decide_eq_false_iff_not]
      intro e
      have h1 := h.calls.ins.1
      simp only [List.map_cons, List.nodup_cons] at h1
      exact h1.1 (List.mem_map.2 ⟨d, hd, e⟩)
    have hdo : doL E M ps (c :: cs) 1 c.1 ByteArray.empty = some (ps, cs) := by
      unfold doL
      rw [if_neg (by omega), if_neg (by omega), if_pos rfl, if_neg (by simp), hf]
      simp only [hdr]
    have hst : stepL E M ((ps, c :: cs), n) (1, c.1, ByteArray.empty) = ((ps, cs), n + 1) := by
      unfold stepL; simp only [hdo]
    have hok : ExOk O E M ps cs := do_ok h hdo
    simp only [nightL, List.map_cons, List.foldl_cons] at ih ⊢
    rw [hst, ih (n + 1) hok]
    simp [Nat.add_assoc, Nat.add_comm 1]
theorem night_run {O E M : Int} {ps : List ByteArray} {cs : List Cl} (h : ExOk O E M ps cs) : runL E M ps cs (nightL cs) = ((ps, []), cs.length) := by
  unfold runL
  rw [night_fold cs 0 h]; simp

end Go.Proofs.Ytedadhoneebfnaa
