/-
  No cell of these rows narrows 'for every input' (looked for: loops, veiled, ifaces, maps, wideKeys, modest, calm, conditions, laid).
  DERIVED. THE GIVEN ROWS OF THIS SEAT. 14 by the template 'for every input the law returns true; each argument reads behind the call as it read before'; 0 by the template 'total and deterministic' (their statements: YtedadhoneebfnaaTotals.lean).
  GIVEN WITH THE SEED: the statements are not yours to turn. If you find one false, say at which input.
  Laid BY PROGRAM, IN A SANDBOX (cutbox-rows.mjs): the forced cells as the released guide's own fill.sh prints them over the translation fe4c106790e35c55… (all of the seat's roots in one cut). By AI agents, Wed Nov 11 2026. No macro, syntax, notation, axiom, sorry.
-/
import Derived.Test.YtedadhoneebfnaaChecked
import GoSem.Claim
import GoSem.ClaimJoined
import GoSem.ClaimMapViews
import Derived.JoinedTies
import Derived.KernelRfl
namespace Go.Proofs.Ytedadhoneebfnaa
/- THE CELL 'sum', in the pinned program and in every row, IS THE sha256 OF THE DUMP (.gsa) THAT YtedadhoneebfnaaProg.lean LOADS. Nothing in Lean hashes anything: it is a label: what it is worth is what the hold of that sum in a sandbox is worth. -/
noncomputable def Try.pinned : Pinned := { name := "ytedadhoneebfnaa", sum := "fe4c106790e35c5585ee21f89126d6444e5b3ed4b7b0d075d268d69782f95a9f", checked := Try.checked }
namespace Rows
def none {H : Type} : Left H := { results := [], args := [] }

/-- 'laws.FnExactExchangeValid': WHATEVER THE INPUT: true; the input reads as it did. -/
def fnExactExchangeValidSpec : ChangeSpec := { name := "fnExactExchangeValid", fn := fun _ => fun
  | [d] => { results := [.lit (.bool true)], args := [d] }
  | _ => none }
def fnExactExchangeValidRow : OpenClaim := { program := "ytedadhoneebfnaa", sum := "fe4c106790e35c5585ee21f89126d6444e5b3ed4b7b0d075d268d69782f95a9f", func := "loop.example/circuitswitching/laws.FnExactExchangeValid", spec := "fnExactExchangeValid", apart := false }
def FnExactExchangeValidSaid : Prop := fnExactExchangeValidRow.holds Try.pinned (OpenSpec.ofChange fnExactExchangeValidSpec)

/-- ITS FALSE NEIGHBOUR: 'it returns false'. Refute it at one input. -/
def fnExactExchangeValidWrong : ChangeSpec := { name := "fnExactExchangeValid", fn := fun _ => fun
  | [d] => { results := [.lit (.bool false)], args := [d] }
  | _ => none }
def FnExactExchangeValidWrongFalsely : Prop := fnExactExchangeValidRow.holds Try.pinned (OpenSpec.ofChange fnExactExchangeValidWrong)

/-- 'laws.FnExactLineOf': WHATEVER THE INPUT: true; the input reads as it did. -/
def fnExactLineOfSpec : ChangeSpec := { name := "fnExactLineOf", fn := fun _ => fun
  | [d1, d2] => { results := [.lit (.bool true)], args := [d1, d2] }
  | _ => none }
def fnExactLineOfRow : OpenClaim := { program := "ytedadhoneebfnaa", sum := "fe4c106790e35c5585ee21f89126d6444e5b3ed4b7b0d075d268d69782f95a9f", func := "loop.example/circuitswitching/laws.FnExactLineOf", spec := "fnExactLineOf", apart := false }
def FnExactLineOfSaid : Prop := fnExactLineOfRow.holds Try.pinned (OpenSpec.ofChange fnExactLineOfSpec)

/-- ITS FALSE NEIGHBOUR: 'it returns false'. Refute it at one input. -/
def fnExactLineOfWrong : ChangeSpec := { name := "fnExactLineOf", fn := fun _ => fun
  | [d1, d2] => { results := [.lit (.bool false)], args := [d1, d2] }
  | _ => none }
def FnExactLineOfWrongFalsely : Prop := fnExactLineOfRow.holds Try.pinned (OpenSpec.ofChange fnExactLineOfWrong)

/-- 'laws.FnExactPeerOf': WHATEVER THE INPUT: true; the input reads as it did. -/
def fnExactPeerOfSpec : ChangeSpec := { name := "fnExactPeerOf", fn := fun _ => fun
  | [d1, d2] => { results := [.lit (.bool true)], args := [d1, d2] }
  | _ => none }
def fnExactPeerOfRow : OpenClaim := { program := "ytedadhoneebfnaa", sum := "fe4c106790e35c5585ee21f89126d6444e5b3ed4b7b0d075d268d69782f95a9f", func := "loop.example/circuitswitching/laws.FnExactPeerOf", spec := "fnExactPeerOf", apart := false }
def FnExactPeerOfSaid : Prop := fnExactPeerOfRow.holds Try.pinned (OpenSpec.ofChange fnExactPeerOfSpec)

/-- ITS FALSE NEIGHBOUR: 'it returns false'. Refute it at one input. -/
def fnExactPeerOfWrong : ChangeSpec := { name := "fnExactPeerOf", fn := fun _ => fun
  | [d1, d2] => { results := [.lit (.bool false)], args := [d1, d2] }
  | _ => none }
def FnExactPeerOfWrongFalsely : Prop := fnExactPeerOfRow.holds Try.pinned (OpenSpec.ofChange fnExactPeerOfWrong)

/-- 'laws.FnExactExchangeNew': WHATEVER THE INPUT: true; the input reads as it did. -/
def fnExactExchangeNewSpec : ChangeSpec := { name := "fnExactExchangeNew", fn := fun _ => fun
  | [d1, d2] => { results := [.lit (.bool true)], args := [d1, d2] }
  | _ => none }
def fnExactExchangeNewRow : OpenClaim := { program := "ytedadhoneebfnaa", sum := "fe4c106790e35c5585ee21f89126d6444e5b3ed4b7b0d075d268d69782f95a9f", func := "loop.example/circuitswitching/laws.FnExactExchangeNew", spec := "fnExactExchangeNew", apart := false }
def FnExactExchangeNewSaid : Prop := fnExactExchangeNewRow.holds Try.pinned (OpenSpec.ofChange fnExactExchangeNewSpec)

/-- ITS FALSE NEIGHBOUR: 'it returns false'. Refute it at one input. -/
def fnExactExchangeNewWrong : ChangeSpec := { name := "fnExactExchangeNew", fn := fun _ => fun
  | [d1, d2] => { results := [.lit (.bool false)], args := [d1, d2] }
  | _ => none }
def FnExactExchangeNewWrongFalsely : Prop := fnExactExchangeNewRow.holds Try.pinned (OpenSpec.ofChange fnExactExchangeNewWrong)

/-- 'laws.FnExactNightDeeds': WHATEVER THE INPUT: true; the input reads as it did. -/
def fnExactNightDeedsSpec : ChangeSpec := { name := "fnExactNightDeeds", fn := fun _ => fun
  | [d] => { results := [.lit (.bool true)], args := [d] }
  | _ => none }
def fnExactNightDeedsRow : OpenClaim := { program := "ytedadhoneebfnaa", sum := "fe4c106790e35c5585ee21f89126d6444e5b3ed4b7b0d075d268d69782f95a9f", func := "loop.example/circuitswitching/laws.FnExactNightDeeds", spec := "fnExactNightDeeds", apart := false }
def FnExactNightDeedsSaid : Prop := fnExactNightDeedsRow.holds Try.pinned (OpenSpec.ofChange fnExactNightDeedsSpec)

/-- ITS FALSE NEIGHBOUR: 'it returns false'. Refute it at one input. -/
def fnExactNightDeedsWrong : ChangeSpec := { name := "fnExactNightDeeds", fn := fun _ => fun
  | [d] => { results := [.lit (.bool false)], args := [d] }
  | _ => none }
def FnExactNightDeedsWrongFalsely : Prop := fnExactNightDeedsRow.holds Try.pinned (OpenSpec.ofChange fnExactNightDeedsWrong)

/-- 'laws.FnExchangeValid': WHATEVER THE INPUT: true; the input reads as it did. -/
def fnExchangeValidSpec : ChangeSpec := { name := "fnExchangeValid", fn := fun _ => fun
  | [d] => { results := [.lit (.bool true)], args := [d] }
  | _ => none }
def fnExchangeValidRow : OpenClaim := { program := "ytedadhoneebfnaa", sum := "fe4c106790e35c5585ee21f89126d6444e5b3ed4b7b0d075d268d69782f95a9f", func := "loop.example/circuitswitching/laws.FnExchangeValid", spec := "fnExchangeValid", apart := false }
def FnExchangeValidSaid : Prop := fnExchangeValidRow.holds Try.pinned (OpenSpec.ofChange fnExchangeValidSpec)

/-- ITS FALSE NEIGHBOUR: 'it returns false'. Refute it at one input. -/
def fnExchangeValidWrong : ChangeSpec := { name := "fnExchangeValid", fn := fun _ => fun
  | [d] => { results := [.lit (.bool false)], args := [d] }
  | _ => none }
def FnExchangeValidWrongFalsely : Prop := fnExchangeValidRow.holds Try.pinned (OpenSpec.ofChange fnExchangeValidWrong)

/-- 'laws.FnPeerOf': WHATEVER THE INPUT: true; the input reads as it did. -/
def fnPeerOfSpec : ChangeSpec := { name := "fnPeerOf", fn := fun _ => fun
  | [d] => { results := [.lit (.bool true)], args := [d] }
  | _ => none }
def fnPeerOfRow : OpenClaim := { program := "ytedadhoneebfnaa", sum := "fe4c106790e35c5585ee21f89126d6444e5b3ed4b7b0d075d268d69782f95a9f", func := "loop.example/circuitswitching/laws.FnPeerOf", spec := "fnPeerOf", apart := false }
def FnPeerOfSaid : Prop := fnPeerOfRow.holds Try.pinned (OpenSpec.ofChange fnPeerOfSpec)

/-- ITS FALSE NEIGHBOUR: 'it returns false'. Refute it at one input. -/
def fnPeerOfWrong : ChangeSpec := { name := "fnPeerOf", fn := fun _ => fun
  | [d] => { results := [.lit (.bool false)], args := [d] }
  | _ => none }
def FnPeerOfWrongFalsely : Prop := fnPeerOfRow.holds Try.pinned (OpenSpec.ofChange fnPeerOfWrong)

/-- 'laws.FnLineOf': WHATEVER THE INPUT: true; the input reads as it did. -/
def fnLineOfSpec : ChangeSpec := { name := "fnLineOf", fn := fun _ => fun
  | [d] => { results := [.lit (.bool true)], args := [d] }
  | _ => none }
def fnLineOfRow : OpenClaim := { program := "ytedadhoneebfnaa", sum := "fe4c106790e35c5585ee21f89126d6444e5b3ed4b7b0d075d268d69782f95a9f", func := "loop.example/circuitswitching/laws.FnLineOf", spec := "fnLineOf", apart := false }
def FnLineOfSaid : Prop := fnLineOfRow.holds Try.pinned (OpenSpec.ofChange fnLineOfSpec)

/-- ITS FALSE NEIGHBOUR: 'it returns false'. Refute it at one input. -/
def fnLineOfWrong : ChangeSpec := { name := "fnLineOf", fn := fun _ => fun
  | [d] => { results := [.lit (.bool false)], args := [d] }
  | _ => none }
def FnLineOfWrongFalsely : Prop := fnLineOfRow.holds Try.pinned (OpenSpec.ofChange fnLineOfWrong)

/-- 'laws.FnExchangeNew': WHATEVER THE INPUT: true; the input reads as it did. -/
def fnExchangeNewSpec : ChangeSpec := { name := "fnExchangeNew", fn := fun _ => fun
  | [d] => { results := [.lit (.bool true)], args := [d] }
  | _ => none }
def fnExchangeNewRow : OpenClaim := { program := "ytedadhoneebfnaa", sum := "fe4c106790e35c5585ee21f89126d6444e5b3ed4b7b0d075d268d69782f95a9f", func := "loop.example/circuitswitching/laws.FnExchangeNew", spec := "fnExchangeNew", apart := false }
def FnExchangeNewSaid : Prop := fnExchangeNewRow.holds Try.pinned (OpenSpec.ofChange fnExchangeNewSpec)

/-- ITS FALSE NEIGHBOUR: 'it returns false'. Refute it at one input. -/
def fnExchangeNewWrong : ChangeSpec := { name := "fnExchangeNew", fn := fun _ => fun
  | [d] => { results := [.lit (.bool false)], args := [d] }
  | _ => none }
def FnExchangeNewWrongFalsely : Prop := fnExchangeNewRow.holds Try.pinned (OpenSpec.ofChange fnExchangeNewWrong)

/-- 'laws.FnExDo': WHATEVER THE INPUT: true; the input reads as it did. -/
def fnExDoSpec : ChangeSpec := { name := "fnExDo", fn := fun _ => fun
  | [d] => { results := [.lit (.bool true)], args := [d] }
  | _ => none }
def fnExDoRow : OpenClaim := { program := "ytedadhoneebfnaa", sum := "fe4c106790e35c5585ee21f89126d6444e5b3ed4b7b0d075d268d69782f95a9f", func := "loop.example/circuitswitching/laws.FnExDo", spec := "fnExDo", apart := false }
def FnExDoSaid : Prop := fnExDoRow.holds Try.pinned (OpenSpec.ofChange fnExDoSpec)

/-- ITS FALSE NEIGHBOUR: 'it returns false'. Refute it at one input. -/
def fnExDoWrong : ChangeSpec := { name := "fnExDo", fn := fun _ => fun
  | [d] => { results := [.lit (.bool false)], args := [d] }
  | _ => none }
def FnExDoWrongFalsely : Prop := fnExDoRow.holds Try.pinned (OpenSpec.ofChange fnExDoWrong)

/-- 'laws.FnExactExDo': WHATEVER THE INPUT: true; the input reads as it did. -/
def fnExactExDoSpec : ChangeSpec := { name := "fnExactExDo", fn := fun _ => fun
  | [d1, d2] => { results := [.lit (.bool true)], args := [d1, d2] }
  | _ => none }
def fnExactExDoRow : OpenClaim := { program := "ytedadhoneebfnaa", sum := "fe4c106790e35c5585ee21f89126d6444e5b3ed4b7b0d075d268d69782f95a9f", func := "loop.example/circuitswitching/laws.FnExactExDo", spec := "fnExactExDo", apart := false }
def FnExactExDoSaid : Prop := fnExactExDoRow.holds Try.pinned (OpenSpec.ofChange fnExactExDoSpec)

/-- ITS FALSE NEIGHBOUR: 'it returns false'. Refute it at one input. -/
def fnExactExDoWrong : ChangeSpec := { name := "fnExactExDo", fn := fun _ => fun
  | [d1, d2] => { results := [.lit (.bool false)], args := [d1, d2] }
  | _ => none }
def FnExactExDoWrongFalsely : Prop := fnExactExDoRow.holds Try.pinned (OpenSpec.ofChange fnExactExDoWrong)

/-- 'laws.FnNightDeeds': WHATEVER THE INPUT: true; the input reads as it did. -/
def fnNightDeedsSpec : ChangeSpec := { name := "fnNightDeeds", fn := fun _ => fun
  | [d] => { results := [.lit (.bool true)], args := [d] }
  | _ => none }
def fnNightDeedsRow : OpenClaim := { program := "ytedadhoneebfnaa", sum := "fe4c106790e35c5585ee21f89126d6444e5b3ed4b7b0d075d268d69782f95a9f", func := "loop.example/circuitswitching/laws.FnNightDeeds", spec := "fnNightDeeds", apart := false }
def FnNightDeedsSaid : Prop := fnNightDeedsRow.holds Try.pinned (OpenSpec.ofChange fnNightDeedsSpec)

/-- ITS FALSE NEIGHBOUR: 'it returns false'. Refute it at one input. -/
def fnNightDeedsWrong : ChangeSpec := { name := "fnNightDeeds", fn := fun _ => fun
  | [d] => { results := [.lit (.bool false)], args := [d] }
  | _ => none }
def FnNightDeedsWrongFalsely : Prop := fnNightDeedsRow.holds Try.pinned (OpenSpec.ofChange fnNightDeedsWrong)

/-- 'laws.FnExRun': WHATEVER THE INPUT: true; the input reads as it did. -/
def fnExRunSpec : ChangeSpec := { name := "fnExRun", fn := fun _ => fun
  | [d] => { results := [.lit (.bool true)], args := [d] }
  | _ => none }
def fnExRunRow : OpenClaim := { program := "ytedadhoneebfnaa", sum := "fe4c106790e35c5585ee21f89126d6444e5b3ed4b7b0d075d268d69782f95a9f", func := "loop.example/circuitswitching/laws.FnExRun", spec := "fnExRun", apart := false }
def FnExRunSaid : Prop := fnExRunRow.holds Try.pinned (OpenSpec.ofChange fnExRunSpec)

/-- ITS FALSE NEIGHBOUR: 'it returns false'. Refute it at one input. -/
def fnExRunWrong : ChangeSpec := { name := "fnExRun", fn := fun _ => fun
  | [d] => { results := [.lit (.bool false)], args := [d] }
  | _ => none }
def FnExRunWrongFalsely : Prop := fnExRunRow.holds Try.pinned (OpenSpec.ofChange fnExRunWrong)

/-- 'laws.FnExactExRun': WHATEVER THE INPUT: true; the input reads as it did. -/
def fnExactExRunSpec : ChangeSpec := { name := "fnExactExRun", fn := fun _ => fun
  | [d1, d2] => { results := [.lit (.bool true)], args := [d1, d2] }
  | _ => none }
def fnExactExRunRow : OpenClaim := { program := "ytedadhoneebfnaa", sum := "fe4c106790e35c5585ee21f89126d6444e5b3ed4b7b0d075d268d69782f95a9f", func := "loop.example/circuitswitching/laws.FnExactExRun", spec := "fnExactExRun", apart := false }
def FnExactExRunSaid : Prop := fnExactExRunRow.holds Try.pinned (OpenSpec.ofChange fnExactExRunSpec)

/-- ITS FALSE NEIGHBOUR: 'it returns false'. Refute it at one input. -/
def fnExactExRunWrong : ChangeSpec := { name := "fnExactExRun", fn := fun _ => fun
  | [d1, d2] => { results := [.lit (.bool false)], args := [d1, d2] }
  | _ => none }
def FnExactExRunWrongFalsely : Prop := fnExactExRunRow.holds Try.pinned (OpenSpec.ofChange fnExactExRunWrong)

/- THE SECOND FORM. 'bulk': how many values and letters a reading holds, each counted each time it is reached (what is shared counts as often as it is met; a slice's spare places count too). A statement '..UptoSaid' is the law's where the arguments, and the package variables that the reading takes, are together of bulk at most 1048576: NARROWER than '..Said'. Prove '..Said' where nothing that the law and all that it calls make is longer than what came in: it says more and counts as full. Else prove '..UptoSaid'. A law counts once. -/
mutual
def uptoBulk {H : Type} : DataW H → Nat
  | .lit (.string bytes) => bytes.length + 1
  | .lit _ => 1
  | .nil => 1
  | .ptr d => uptoBulk d + 1
  | .slice elems spare => uptoBulkAll elems + uptoBulkAll spare + 1
  | .agg parts => uptoBulkAll parts + 1
  | .iface _ d => uptoBulk d + 1
  | .map entries => uptoBulkEntries entries + 1
  | .held _ => 1
def uptoBulkAll {H : Type} : List (DataW H) → Nat
  | [] => 0
  | d :: r => uptoBulk d + uptoBulkAll r
def uptoBulkEntries {H : Type} : List (Lit × DataW H) → Nat
  | [] => 0
  | x :: r => uptoBulkEntry x + uptoBulkEntries r
def uptoBulkEntry {H : Type} : Lit × DataW H → Nat
  | (.string bytes, d) => bytes.length + uptoBulk d + 1
  | (_, d) => uptoBulk d + 1
 end
def uptoSmall : (H : Type) → List (DataW H) → Bool := fun _ ds => decide (uptoBulkAll ds ≤ 1048576)
def OpenSpec.upto (s : _root_.Go.ChangeSpec) : _root_.Go.OpenSpec := { _root_.Go.OpenSpec.ofChange s with cond := some uptoSmall }

/-- 'laws.FnExactExchangeValid', WHERE WHAT IT READS IS OF BULK AT MOST 1048576: true; the input reads as it did. -/
def fnExactExchangeValidUptoRow : OpenClaim := { program := "ytedadhoneebfnaa", sum := "fe4c106790e35c5585ee21f89126d6444e5b3ed4b7b0d075d268d69782f95a9f", func := "loop.example/circuitswitching/laws.FnExactExchangeValid", spec := "fnExactExchangeValid", apart := false, narrowed := true }
def FnExactExchangeValidUptoSaid : Prop := fnExactExchangeValidUptoRow.holds Try.pinned (OpenSpec.upto fnExactExchangeValidSpec)

/-- 'laws.FnExactLineOf', WHERE WHAT IT READS IS OF BULK AT MOST 1048576: true; the input reads as it did. -/
def fnExactLineOfUptoRow : OpenClaim := { program := "ytedadhoneebfnaa", sum := "fe4c106790e35c5585ee21f89126d6444e5b3ed4b7b0d075d268d69782f95a9f", func := "loop.example/circuitswitching/laws.FnExactLineOf", spec := "fnExactLineOf", apart := false, narrowed := true }
def FnExactLineOfUptoSaid : Prop := fnExactLineOfUptoRow.holds Try.pinned (OpenSpec.upto fnExactLineOfSpec)

/-- 'laws.FnExactPeerOf', WHERE WHAT IT READS IS OF BULK AT MOST 1048576: true; the input reads as it did. -/
def fnExactPeerOfUptoRow : OpenClaim := { program := "ytedadhoneebfnaa", sum := "fe4c106790e35c5585ee21f89126d6444e5b3ed4b7b0d075d268d69782f95a9f", func := "loop.example/circuitswitching/laws.FnExactPeerOf", spec := "fnExactPeerOf", apart := false, narrowed := true }
def FnExactPeerOfUptoSaid : Prop := fnExactPeerOfUptoRow.holds Try.pinned (OpenSpec.upto fnExactPeerOfSpec)

/-- 'laws.FnExactExchangeNew', WHERE WHAT IT READS IS OF BULK AT MOST 1048576: true; the input reads as it did. -/
def fnExactExchangeNewUptoRow : OpenClaim := { program := "ytedadhoneebfnaa", sum := "fe4c106790e35c5585ee21f89126d6444e5b3ed4b7b0d075d268d69782f95a9f", func := "loop.example/circuitswitching/laws.FnExactExchangeNew", spec := "fnExactExchangeNew", apart := false, narrowed := true }
def FnExactExchangeNewUptoSaid : Prop := fnExactExchangeNewUptoRow.holds Try.pinned (OpenSpec.upto fnExactExchangeNewSpec)

/-- 'laws.FnExactNightDeeds', WHERE WHAT IT READS IS OF BULK AT MOST 1048576: true; the input reads as it did. -/
def fnExactNightDeedsUptoRow : OpenClaim := { program := "ytedadhoneebfnaa", sum := "fe4c106790e35c5585ee21f89126d6444e5b3ed4b7b0d075d268d69782f95a9f", func := "loop.example/circuitswitching/laws.FnExactNightDeeds", spec := "fnExactNightDeeds", apart := false, narrowed := true }
def FnExactNightDeedsUptoSaid : Prop := fnExactNightDeedsUptoRow.holds Try.pinned (OpenSpec.upto fnExactNightDeedsSpec)

/-- 'laws.FnExchangeValid', WHERE WHAT IT READS IS OF BULK AT MOST 1048576: true; the input reads as it did. -/
def fnExchangeValidUptoRow : OpenClaim := { program := "ytedadhoneebfnaa", sum := "fe4c106790e35c5585ee21f89126d6444e5b3ed4b7b0d075d268d69782f95a9f", func := "loop.example/circuitswitching/laws.FnExchangeValid", spec := "fnExchangeValid", apart := false, narrowed := true }
def FnExchangeValidUptoSaid : Prop := fnExchangeValidUptoRow.holds Try.pinned (OpenSpec.upto fnExchangeValidSpec)

/-- 'laws.FnPeerOf', WHERE WHAT IT READS IS OF BULK AT MOST 1048576: true; the input reads as it did. -/
def fnPeerOfUptoRow : OpenClaim := { program := "ytedadhoneebfnaa", sum := "fe4c106790e35c5585ee21f89126d6444e5b3ed4b7b0d075d268d69782f95a9f", func := "loop.example/circuitswitching/laws.FnPeerOf", spec := "fnPeerOf", apart := false, narrowed := true }
def FnPeerOfUptoSaid : Prop := fnPeerOfUptoRow.holds Try.pinned (OpenSpec.upto fnPeerOfSpec)

/-- 'laws.FnLineOf', WHERE WHAT IT READS IS OF BULK AT MOST 1048576: true; the input reads as it did. -/
def fnLineOfUptoRow : OpenClaim := { program := "ytedadhoneebfnaa", sum := "fe4c106790e35c5585ee21f89126d6444e5b3ed4b7b0d075d268d69782f95a9f", func := "loop.example/circuitswitching/laws.FnLineOf", spec := "fnLineOf", apart := false, narrowed := true }
def FnLineOfUptoSaid : Prop := fnLineOfUptoRow.holds Try.pinned (OpenSpec.upto fnLineOfSpec)

/-- 'laws.FnExchangeNew', WHERE WHAT IT READS IS OF BULK AT MOST 1048576: true; the input reads as it did. -/
def fnExchangeNewUptoRow : OpenClaim := { program := "ytedadhoneebfnaa", sum := "fe4c106790e35c5585ee21f89126d6444e5b3ed4b7b0d075d268d69782f95a9f", func := "loop.example/circuitswitching/laws.FnExchangeNew", spec := "fnExchangeNew", apart := false, narrowed := true }
def FnExchangeNewUptoSaid : Prop := fnExchangeNewUptoRow.holds Try.pinned (OpenSpec.upto fnExchangeNewSpec)

/-- 'laws.FnExDo', WHERE WHAT IT READS IS OF BULK AT MOST 1048576: true; the input reads as it did. -/
def fnExDoUptoRow : OpenClaim := { program := "ytedadhoneebfnaa", sum := "fe4c106790e35c5585ee21f89126d6444e5b3ed4b7b0d075d268d69782f95a9f", func := "loop.example/circuitswitching/laws.FnExDo", spec := "fnExDo", apart := false, narrowed := true }
def FnExDoUptoSaid : Prop := fnExDoUptoRow.holds Try.pinned (OpenSpec.upto fnExDoSpec)

/-- 'laws.FnExactExDo', WHERE WHAT IT READS IS OF BULK AT MOST 1048576: true; the input reads as it did. -/
def fnExactExDoUptoRow : OpenClaim := { program := "ytedadhoneebfnaa", sum := "fe4c106790e35c5585ee21f89126d6444e5b3ed4b7b0d075d268d69782f95a9f", func := "loop.example/circuitswitching/laws.FnExactExDo", spec := "fnExactExDo", apart := false, narrowed := true }
def FnExactExDoUptoSaid : Prop := fnExactExDoUptoRow.holds Try.pinned (OpenSpec.upto fnExactExDoSpec)

/-- 'laws.FnNightDeeds', WHERE WHAT IT READS IS OF BULK AT MOST 1048576: true; the input reads as it did. -/
def fnNightDeedsUptoRow : OpenClaim := { program := "ytedadhoneebfnaa", sum := "fe4c106790e35c5585ee21f89126d6444e5b3ed4b7b0d075d268d69782f95a9f", func := "loop.example/circuitswitching/laws.FnNightDeeds", spec := "fnNightDeeds", apart := false, narrowed := true }
def FnNightDeedsUptoSaid : Prop := fnNightDeedsUptoRow.holds Try.pinned (OpenSpec.upto fnNightDeedsSpec)

/-- 'laws.FnExRun', WHERE WHAT IT READS IS OF BULK AT MOST 1048576: true; the input reads as it did. -/
def fnExRunUptoRow : OpenClaim := { program := "ytedadhoneebfnaa", sum := "fe4c106790e35c5585ee21f89126d6444e5b3ed4b7b0d075d268d69782f95a9f", func := "loop.example/circuitswitching/laws.FnExRun", spec := "fnExRun", apart := false, narrowed := true }
def FnExRunUptoSaid : Prop := fnExRunUptoRow.holds Try.pinned (OpenSpec.upto fnExRunSpec)

/-- 'laws.FnExactExRun', WHERE WHAT IT READS IS OF BULK AT MOST 1048576: true; the input reads as it did. -/
def fnExactExRunUptoRow : OpenClaim := { program := "ytedadhoneebfnaa", sum := "fe4c106790e35c5585ee21f89126d6444e5b3ed4b7b0d075d268d69782f95a9f", func := "loop.example/circuitswitching/laws.FnExactExRun", spec := "fnExactExRun", apart := false, narrowed := true }
def FnExactExRunUptoSaid : Prop := fnExactExRunUptoRow.holds Try.pinned (OpenSpec.upto fnExactExRunSpec)

end Rows
end Go.Proofs.Ytedadhoneebfnaa
