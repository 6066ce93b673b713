/-
  No cell of these rows narrows 'for every input' (looked for: loops, veiled, ifaces, maps, wideKeys, modest, calm, conditions, laid).
  DERIVED. THE GIVEN ROWS OF THIS SEAT. 17 by the template 'for every input the law returns true; each argument reads behind the call as it read before'; 0 by the template 'total and deterministic' (their statements: YtcacedcbboidoaaTotals.lean).
  GIVEN WITH THE SEED: the statements are not yours to turn. If you find one false, say at which input.
  Laid BY PROGRAM, IN A SANDBOX (cutbox-rows.mjs): the forced cells as the released guide's own fill.sh prints them over the translation 2883610e26b33436… (all of the seat's roots in one cut). By AI agents, Wed Nov 11 2026. No macro, syntax, notation, axiom, sorry.
-/
import Derived.Test.YtcacedcbboidoaaChecked
import GoSem.Claim
import GoSem.ClaimJoined
import GoSem.ClaimMapViews
import Derived.JoinedTies
import Derived.KernelRfl
namespace Go.Proofs.Ytcacedcbboidoaa
/- THE CELL 'sum', in the pinned program and in every row, IS THE sha256 OF THE DUMP (.gsa) THAT YtcacedcbboidoaaProg.lean LOADS. Nothing in Lean hashes anything: it is a label: what it is worth is what the hold of that sum in a sandbox is worth. -/
noncomputable def Try.pinned : Pinned := { name := "ytcacedcbboidoaa", sum := "2883610e26b334360e29c4a985454b767d6744c706aa4168e3df0c5151f3cb03", checked := Try.checked }
namespace Rows
def none {H : Type} : Left H := { results := [], args := [] }

/-- 'laws.FnShareSum': WHATEVER THE INPUT: true; the input reads as it did. -/
def fnShareSumSpec : ChangeSpec := { name := "fnShareSum", fn := fun _ => fun
  | [d] => { results := [.lit (.bool true)], args := [d] }
  | _ => none }
def fnShareSumRow : OpenClaim := { program := "ytcacedcbboidoaa", sum := "2883610e26b334360e29c4a985454b767d6744c706aa4168e3df0c5151f3cb03", func := "loop.example/circuitswitching/laws.FnShareSum", spec := "fnShareSum", apart := false }
def FnShareSumSaid : Prop := fnShareSumRow.holds Try.pinned (OpenSpec.ofChange fnShareSumSpec)

/-- ITS FALSE NEIGHBOUR: 'it returns false'. Refute it at one input. -/
def fnShareSumWrong : ChangeSpec := { name := "fnShareSum", fn := fun _ => fun
  | [d] => { results := [.lit (.bool false)], args := [d] }
  | _ => none }
def FnShareSumWrongFalsely : Prop := fnShareSumRow.holds Try.pinned (OpenSpec.ofChange fnShareSumWrong)

/-- 'laws.FnRoutesValid': WHATEVER THE INPUT: true; the input reads as it did. -/
def fnRoutesValidSpec : ChangeSpec := { name := "fnRoutesValid", fn := fun _ => fun
  | [d] => { results := [.lit (.bool true)], args := [d] }
  | _ => none }
def fnRoutesValidRow : OpenClaim := { program := "ytcacedcbboidoaa", sum := "2883610e26b334360e29c4a985454b767d6744c706aa4168e3df0c5151f3cb03", func := "loop.example/circuitswitching/laws.FnRoutesValid", spec := "fnRoutesValid", apart := false }
def FnRoutesValidSaid : Prop := fnRoutesValidRow.holds Try.pinned (OpenSpec.ofChange fnRoutesValidSpec)

/-- ITS FALSE NEIGHBOUR: 'it returns false'. Refute it at one input. -/
def fnRoutesValidWrong : ChangeSpec := { name := "fnRoutesValid", fn := fun _ => fun
  | [d] => { results := [.lit (.bool false)], args := [d] }
  | _ => none }
def FnRoutesValidWrongFalsely : Prop := fnRoutesValidRow.holds Try.pinned (OpenSpec.ofChange fnRoutesValidWrong)

/-- 'laws.FnExactRouteOf': WHATEVER THE INPUT: true; the input reads as it did. -/
def fnExactRouteOfSpec : ChangeSpec := { name := "fnExactRouteOf", fn := fun _ => fun
  | [d1, d2] => { results := [.lit (.bool true)], args := [d1, d2] }
  | _ => none }
def fnExactRouteOfRow : OpenClaim := { program := "ytcacedcbboidoaa", sum := "2883610e26b334360e29c4a985454b767d6744c706aa4168e3df0c5151f3cb03", func := "loop.example/circuitswitching/laws.FnExactRouteOf", spec := "fnExactRouteOf", apart := false }
def FnExactRouteOfSaid : Prop := fnExactRouteOfRow.holds Try.pinned (OpenSpec.ofChange fnExactRouteOfSpec)

/-- ITS FALSE NEIGHBOUR: 'it returns false'. Refute it at one input. -/
def fnExactRouteOfWrong : ChangeSpec := { name := "fnExactRouteOf", fn := fun _ => fun
  | [d1, d2] => { results := [.lit (.bool false)], args := [d1, d2] }
  | _ => none }
def FnExactRouteOfWrongFalsely : Prop := fnExactRouteOfRow.holds Try.pinned (OpenSpec.ofChange fnExactRouteOfWrong)

/-- 'laws.FnRouteOf': WHATEVER THE INPUT: true; the input reads as it did. -/
def fnRouteOfSpec : ChangeSpec := { name := "fnRouteOf", fn := fun _ => fun
  | [d] => { results := [.lit (.bool true)], args := [d] }
  | _ => none }
def fnRouteOfRow : OpenClaim := { program := "ytcacedcbboidoaa", sum := "2883610e26b334360e29c4a985454b767d6744c706aa4168e3df0c5151f3cb03", func := "loop.example/circuitswitching/laws.FnRouteOf", spec := "fnRouteOf", apart := false }
def FnRouteOfSaid : Prop := fnRouteOfRow.holds Try.pinned (OpenSpec.ofChange fnRouteOfSpec)

/-- ITS FALSE NEIGHBOUR: 'it returns false'. Refute it at one input. -/
def fnRouteOfWrong : ChangeSpec := { name := "fnRouteOf", fn := fun _ => fun
  | [d] => { results := [.lit (.bool false)], args := [d] }
  | _ => none }
def FnRouteOfWrongFalsely : Prop := fnRouteOfRow.holds Try.pinned (OpenSpec.ofChange fnRouteOfWrong)

/-- 'laws.FnExactPlanLengths': WHATEVER THE INPUT: true; the input reads as it did. -/
def fnExactPlanLengthsSpec : ChangeSpec := { name := "fnExactPlanLengths", fn := fun _ => fun
  | [d] => { results := [.lit (.bool true)], args := [d] }
  | _ => none }
def fnExactPlanLengthsRow : OpenClaim := { program := "ytcacedcbboidoaa", sum := "2883610e26b334360e29c4a985454b767d6744c706aa4168e3df0c5151f3cb03", func := "loop.example/circuitswitching/laws.FnExactPlanLengths", spec := "fnExactPlanLengths", apart := false }
def FnExactPlanLengthsSaid : Prop := fnExactPlanLengthsRow.holds Try.pinned (OpenSpec.ofChange fnExactPlanLengthsSpec)

/-- ITS FALSE NEIGHBOUR: 'it returns false'. Refute it at one input. -/
def fnExactPlanLengthsWrong : ChangeSpec := { name := "fnExactPlanLengths", fn := fun _ => fun
  | [d] => { results := [.lit (.bool false)], args := [d] }
  | _ => none }
def FnExactPlanLengthsWrongFalsely : Prop := fnExactPlanLengthsRow.holds Try.pinned (OpenSpec.ofChange fnExactPlanLengthsWrong)

/-- 'laws.FnExactPlanFor': WHATEVER THE INPUT: true; the input reads as it did. -/
def fnExactPlanForSpec : ChangeSpec := { name := "fnExactPlanFor", fn := fun _ => fun
  | [d] => { results := [.lit (.bool true)], args := [d] }
  | _ => none }
def fnExactPlanForRow : OpenClaim := { program := "ytcacedcbboidoaa", sum := "2883610e26b334360e29c4a985454b767d6744c706aa4168e3df0c5151f3cb03", func := "loop.example/circuitswitching/laws.FnExactPlanFor", spec := "fnExactPlanFor", apart := false }
def FnExactPlanForSaid : Prop := fnExactPlanForRow.holds Try.pinned (OpenSpec.ofChange fnExactPlanForSpec)

/-- ITS FALSE NEIGHBOUR: 'it returns false'. Refute it at one input. -/
def fnExactPlanForWrong : ChangeSpec := { name := "fnExactPlanFor", fn := fun _ => fun
  | [d] => { results := [.lit (.bool false)], args := [d] }
  | _ => none }
def FnExactPlanForWrongFalsely : Prop := fnExactPlanForRow.holds Try.pinned (OpenSpec.ofChange fnExactPlanForWrong)

/-- 'laws.FnExactDialAll': WHATEVER THE INPUT: true; the input reads as it did. -/
def fnExactDialAllSpec : ChangeSpec := { name := "fnExactDialAll", fn := fun _ => fun
  | [d1, d2] => { results := [.lit (.bool true)], args := [d1, d2] }
  | _ => none }
def fnExactDialAllRow : OpenClaim := { program := "ytcacedcbboidoaa", sum := "2883610e26b334360e29c4a985454b767d6744c706aa4168e3df0c5151f3cb03", func := "loop.example/circuitswitching/laws.FnExactDialAll", spec := "fnExactDialAll", apart := false }
def FnExactDialAllSaid : Prop := fnExactDialAllRow.holds Try.pinned (OpenSpec.ofChange fnExactDialAllSpec)

/-- ITS FALSE NEIGHBOUR: 'it returns false'. Refute it at one input. -/
def fnExactDialAllWrong : ChangeSpec := { name := "fnExactDialAll", fn := fun _ => fun
  | [d1, d2] => { results := [.lit (.bool false)], args := [d1, d2] }
  | _ => none }
def FnExactDialAllWrongFalsely : Prop := fnExactDialAllRow.holds Try.pinned (OpenSpec.ofChange fnExactDialAllWrong)

/-- 'laws.FnDialOne': WHATEVER THE INPUT: true; the input reads as it did. -/
def fnDialOneSpec : ChangeSpec := { name := "fnDialOne", fn := fun _ => fun
  | [d] => { results := [.lit (.bool true)], args := [d] }
  | _ => none }
def fnDialOneRow : OpenClaim := { program := "ytcacedcbboidoaa", sum := "2883610e26b334360e29c4a985454b767d6744c706aa4168e3df0c5151f3cb03", func := "loop.example/circuitswitching/laws.FnDialOne", spec := "fnDialOne", apart := false }
def FnDialOneSaid : Prop := fnDialOneRow.holds Try.pinned (OpenSpec.ofChange fnDialOneSpec)

/-- ITS FALSE NEIGHBOUR: 'it returns false'. Refute it at one input. -/
def fnDialOneWrong : ChangeSpec := { name := "fnDialOne", fn := fun _ => fun
  | [d] => { results := [.lit (.bool false)], args := [d] }
  | _ => none }
def FnDialOneWrongFalsely : Prop := fnDialOneRow.holds Try.pinned (OpenSpec.ofChange fnDialOneWrong)

/-- 'laws.FnPlanFor': WHATEVER THE INPUT: true; the input reads as it did. -/
def fnPlanForSpec : ChangeSpec := { name := "fnPlanFor", fn := fun _ => fun
  | [d] => { results := [.lit (.bool true)], args := [d] }
  | _ => none }
def fnPlanForRow : OpenClaim := { program := "ytcacedcbboidoaa", sum := "2883610e26b334360e29c4a985454b767d6744c706aa4168e3df0c5151f3cb03", func := "loop.example/circuitswitching/laws.FnPlanFor", spec := "fnPlanFor", apart := false }
def FnPlanForSaid : Prop := fnPlanForRow.holds Try.pinned (OpenSpec.ofChange fnPlanForSpec)

/-- ITS FALSE NEIGHBOUR: 'it returns false'. Refute it at one input. -/
def fnPlanForWrong : ChangeSpec := { name := "fnPlanFor", fn := fun _ => fun
  | [d] => { results := [.lit (.bool false)], args := [d] }
  | _ => none }
def FnPlanForWrongFalsely : Prop := fnPlanForRow.holds Try.pinned (OpenSpec.ofChange fnPlanForWrong)

/-- 'laws.FnPlanValid': WHATEVER THE INPUT: true; the input reads as it did. -/
def fnPlanValidSpec : ChangeSpec := { name := "fnPlanValid", fn := fun _ => fun
  | [d] => { results := [.lit (.bool true)], args := [d] }
  | _ => none }
def fnPlanValidRow : OpenClaim := { program := "ytcacedcbboidoaa", sum := "2883610e26b334360e29c4a985454b767d6744c706aa4168e3df0c5151f3cb03", func := "loop.example/circuitswitching/laws.FnPlanValid", spec := "fnPlanValid", apart := false }
def FnPlanValidSaid : Prop := fnPlanValidRow.holds Try.pinned (OpenSpec.ofChange fnPlanValidSpec)

/-- ITS FALSE NEIGHBOUR: 'it returns false'. Refute it at one input. -/
def fnPlanValidWrong : ChangeSpec := { name := "fnPlanValid", fn := fun _ => fun
  | [d] => { results := [.lit (.bool false)], args := [d] }
  | _ => none }
def FnPlanValidWrongFalsely : Prop := fnPlanValidRow.holds Try.pinned (OpenSpec.ofChange fnPlanValidWrong)

/-- 'laws.FnRoutesLess': WHATEVER THE INPUT: true; the input reads as it did. -/
def fnRoutesLessSpec : ChangeSpec := { name := "fnRoutesLess", fn := fun _ => fun
  | [d] => { results := [.lit (.bool true)], args := [d] }
  | _ => none }
def fnRoutesLessRow : OpenClaim := { program := "ytcacedcbboidoaa", sum := "2883610e26b334360e29c4a985454b767d6744c706aa4168e3df0c5151f3cb03", func := "loop.example/circuitswitching/laws.FnRoutesLess", spec := "fnRoutesLess", apart := false }
def FnRoutesLessSaid : Prop := fnRoutesLessRow.holds Try.pinned (OpenSpec.ofChange fnRoutesLessSpec)

/-- ITS FALSE NEIGHBOUR: 'it returns false'. Refute it at one input. -/
def fnRoutesLessWrong : ChangeSpec := { name := "fnRoutesLess", fn := fun _ => fun
  | [d] => { results := [.lit (.bool false)], args := [d] }
  | _ => none }
def FnRoutesLessWrongFalsely : Prop := fnRoutesLessRow.holds Try.pinned (OpenSpec.ofChange fnRoutesLessWrong)

/-- 'laws.FnExactRoutesLess': WHATEVER THE INPUT: true; the input reads as it did. -/
def fnExactRoutesLessSpec : ChangeSpec := { name := "fnExactRoutesLess", fn := fun _ => fun
  | [d] => { results := [.lit (.bool true)], args := [d] }
  | _ => none }
def fnExactRoutesLessRow : OpenClaim := { program := "ytcacedcbboidoaa", sum := "2883610e26b334360e29c4a985454b767d6744c706aa4168e3df0c5151f3cb03", func := "loop.example/circuitswitching/laws.FnExactRoutesLess", spec := "fnExactRoutesLess", apart := false }
def FnExactRoutesLessSaid : Prop := fnExactRoutesLessRow.holds Try.pinned (OpenSpec.ofChange fnExactRoutesLessSpec)

/-- ITS FALSE NEIGHBOUR: 'it returns false'. Refute it at one input. -/
def fnExactRoutesLessWrong : ChangeSpec := { name := "fnExactRoutesLess", fn := fun _ => fun
  | [d] => { results := [.lit (.bool false)], args := [d] }
  | _ => none }
def FnExactRoutesLessWrongFalsely : Prop := fnExactRoutesLessRow.holds Try.pinned (OpenSpec.ofChange fnExactRoutesLessWrong)

/-- 'laws.FnDialAll': WHATEVER THE INPUT: true; the input reads as it did. -/
def fnDialAllSpec : ChangeSpec := { name := "fnDialAll", fn := fun _ => fun
  | [d] => { results := [.lit (.bool true)], args := [d] }
  | _ => none }
def fnDialAllRow : OpenClaim := { program := "ytcacedcbboidoaa", sum := "2883610e26b334360e29c4a985454b767d6744c706aa4168e3df0c5151f3cb03", func := "loop.example/circuitswitching/laws.FnDialAll", spec := "fnDialAll", apart := false }
def FnDialAllSaid : Prop := fnDialAllRow.holds Try.pinned (OpenSpec.ofChange fnDialAllSpec)

/-- ITS FALSE NEIGHBOUR: 'it returns false'. Refute it at one input. -/
def fnDialAllWrong : ChangeSpec := { name := "fnDialAll", fn := fun _ => fun
  | [d] => { results := [.lit (.bool false)], args := [d] }
  | _ => none }
def FnDialAllWrongFalsely : Prop := fnDialAllRow.holds Try.pinned (OpenSpec.ofChange fnDialAllWrong)

/-- 'laws.FnPlanLengths': WHATEVER THE INPUT: true; the input reads as it did. -/
def fnPlanLengthsSpec : ChangeSpec := { name := "fnPlanLengths", fn := fun _ => fun
  | [d] => { results := [.lit (.bool true)], args := [d] }
  | _ => none }
def fnPlanLengthsRow : OpenClaim := { program := "ytcacedcbboidoaa", sum := "2883610e26b334360e29c4a985454b767d6744c706aa4168e3df0c5151f3cb03", func := "loop.example/circuitswitching/laws.FnPlanLengths", spec := "fnPlanLengths", apart := false }
def FnPlanLengthsSaid : Prop := fnPlanLengthsRow.holds Try.pinned (OpenSpec.ofChange fnPlanLengthsSpec)

/-- ITS FALSE NEIGHBOUR: 'it returns false'. Refute it at one input. -/
def fnPlanLengthsWrong : ChangeSpec := { name := "fnPlanLengths", fn := fun _ => fun
  | [d] => { results := [.lit (.bool false)], args := [d] }
  | _ => none }
def FnPlanLengthsWrongFalsely : Prop := fnPlanLengthsRow.holds Try.pinned (OpenSpec.ofChange fnPlanLengthsWrong)

/-- 'laws.FnExactDialLeast': WHATEVER THE INPUT: true; the input reads as it did. -/
def fnExactDialLeastSpec : ChangeSpec := { name := "fnExactDialLeast", fn := fun _ => fun
  | [d] => { results := [.lit (.bool true)], args := [d] }
  | _ => none }
def fnExactDialLeastRow : OpenClaim := { program := "ytcacedcbboidoaa", sum := "2883610e26b334360e29c4a985454b767d6744c706aa4168e3df0c5151f3cb03", func := "loop.example/circuitswitching/laws.FnExactDialLeast", spec := "fnExactDialLeast", recurses := true, apart := false }
def FnExactDialLeastSaid : Prop := fnExactDialLeastRow.holds Try.pinned (OpenSpec.ofChange fnExactDialLeastSpec)

/-- ITS FALSE NEIGHBOUR: 'it returns false'. Refute it at one input. -/
def fnExactDialLeastWrong : ChangeSpec := { name := "fnExactDialLeast", fn := fun _ => fun
  | [d] => { results := [.lit (.bool false)], args := [d] }
  | _ => none }
def FnExactDialLeastWrongFalsely : Prop := fnExactDialLeastRow.holds Try.pinned (OpenSpec.ofChange fnExactDialLeastWrong)

/-- 'laws.FnDialLeast': WHATEVER THE INPUT: true; the input reads as it did. -/
def fnDialLeastSpec : ChangeSpec := { name := "fnDialLeast", fn := fun _ => fun
  | [d] => { results := [.lit (.bool true)], args := [d] }
  | _ => none }
def fnDialLeastRow : OpenClaim := { program := "ytcacedcbboidoaa", sum := "2883610e26b334360e29c4a985454b767d6744c706aa4168e3df0c5151f3cb03", func := "loop.example/circuitswitching/laws.FnDialLeast", spec := "fnDialLeast", recurses := true, apart := false }
def FnDialLeastSaid : Prop := fnDialLeastRow.holds Try.pinned (OpenSpec.ofChange fnDialLeastSpec)

/-- ITS FALSE NEIGHBOUR: 'it returns false'. Refute it at one input. -/
def fnDialLeastWrong : ChangeSpec := { name := "fnDialLeast", fn := fun _ => fun
  | [d] => { results := [.lit (.bool false)], args := [d] }
  | _ => none }
def FnDialLeastWrongFalsely : Prop := fnDialLeastRow.holds Try.pinned (OpenSpec.ofChange fnDialLeastWrong)

/-- 'laws.FnDialCost': WHATEVER THE INPUT: true; the input reads as it did. -/
def fnDialCostSpec : ChangeSpec := { name := "fnDialCost", fn := fun _ => fun
  | [d] => { results := [.lit (.bool true)], args := [d] }
  | _ => none }
def fnDialCostRow : OpenClaim := { program := "ytcacedcbboidoaa", sum := "2883610e26b334360e29c4a985454b767d6744c706aa4168e3df0c5151f3cb03", func := "loop.example/circuitswitching/laws.FnDialCost", spec := "fnDialCost", recurses := true, apart := false }
def FnDialCostSaid : Prop := fnDialCostRow.holds Try.pinned (OpenSpec.ofChange fnDialCostSpec)

/-- ITS FALSE NEIGHBOUR: 'it returns false'. Refute it at one input. -/
def fnDialCostWrong : ChangeSpec := { name := "fnDialCost", fn := fun _ => fun
  | [d] => { results := [.lit (.bool false)], args := [d] }
  | _ => none }
def FnDialCostWrongFalsely : Prop := fnDialCostRow.holds Try.pinned (OpenSpec.ofChange fnDialCostWrong)

/- THE SECOND FORM. 'bulk': how many values and letters a reading holds, each counted each time it is reached (what is shared counts as often as it is met; a slice's spare places count too). A statement '..UptoSaid' is the law's where the arguments, and the package variables that the reading takes, are together of bulk at most 1048576: NARROWER than '..Said'. Prove '..Said' where nothing that the law and all that it calls make is longer than what came in: it says more and counts as full. Else prove '..UptoSaid'. A law counts once. -/
mutual
def uptoBulk {H : Type} : DataW H → Nat
  | .lit (.string bytes) => bytes.length + 1
  | .lit _ => 1
  | .nil => 1
  | .ptr d => uptoBulk d + 1
  | .slice elems spare => uptoBulkAll elems + uptoBulkAll spare + 1
  | .agg parts => uptoBulkAll parts + 1
  | .iface _ d => uptoBulk d + 1
  | .map entries => uptoBulkEntries entries + 1
  | .held _ => 1
def uptoBulkAll {H : Type} : List (DataW H) → Nat
  | [] => 0
  | d :: r => uptoBulk d + uptoBulkAll r
def uptoBulkEntries {H : Type} : List (Lit × DataW H) → Nat
  | [] => 0
  | x :: r => uptoBulkEntry x + uptoBulkEntries r
def uptoBulkEntry {H : Type} : Lit × DataW H → Nat
  | (.string bytes, d) => bytes.length + uptoBulk d + 1
  | (_, d) => uptoBulk d + 1
 end
def uptoSmall : (H : Type) → List (DataW H) → Bool := fun _ ds => decide (uptoBulkAll ds ≤ 1048576)
def OpenSpec.upto (s : _root_.Go.ChangeSpec) : _root_.Go.OpenSpec := { _root_.Go.OpenSpec.ofChange s with cond := some uptoSmall }

/-- 'laws.FnShareSum', WHERE WHAT IT READS IS OF BULK AT MOST 1048576: true; the input reads as it did. -/
def fnShareSumUptoRow : OpenClaim := { program := "ytcacedcbboidoaa", sum := "2883610e26b334360e29c4a985454b767d6744c706aa4168e3df0c5151f3cb03", func := "loop.example/circuitswitching/laws.FnShareSum", spec := "fnShareSum", apart := false, narrowed := true }
def FnShareSumUptoSaid : Prop := fnShareSumUptoRow.holds Try.pinned (OpenSpec.upto fnShareSumSpec)

/-- 'laws.FnRoutesValid', WHERE WHAT IT READS IS OF BULK AT MOST 1048576: true; the input reads as it did. -/
def fnRoutesValidUptoRow : OpenClaim := { program := "ytcacedcbboidoaa", sum := "2883610e26b334360e29c4a985454b767d6744c706aa4168e3df0c5151f3cb03", func := "loop.example/circuitswitching/laws.FnRoutesValid", spec := "fnRoutesValid", apart := false, narrowed := true }
def FnRoutesValidUptoSaid : Prop := fnRoutesValidUptoRow.holds Try.pinned (OpenSpec.upto fnRoutesValidSpec)

/-- 'laws.FnExactRouteOf', WHERE WHAT IT READS IS OF BULK AT MOST 1048576: true; the input reads as it did. -/
def fnExactRouteOfUptoRow : OpenClaim := { program := "ytcacedcbboidoaa", sum := "2883610e26b334360e29c4a985454b767d6744c706aa4168e3df0c5151f3cb03", func := "loop.example/circuitswitching/laws.FnExactRouteOf", spec := "fnExactRouteOf", apart := false, narrowed := true }
def FnExactRouteOfUptoSaid : Prop := fnExactRouteOfUptoRow.holds Try.pinned (OpenSpec.upto fnExactRouteOfSpec)

/-- 'laws.FnRouteOf', WHERE WHAT IT READS IS OF BULK AT MOST 1048576: true; the input reads as it did. -/
def fnRouteOfUptoRow : OpenClaim := { program := "ytcacedcbboidoaa", sum := "2883610e26b334360e29c4a985454b767d6744c706aa4168e3df0c5151f3cb03", func := "loop.example/circuitswitching/laws.FnRouteOf", spec := "fnRouteOf", apart := false, narrowed := true }
def FnRouteOfUptoSaid : Prop := fnRouteOfUptoRow.holds Try.pinned (OpenSpec.upto fnRouteOfSpec)

/-- 'laws.FnExactPlanLengths', WHERE WHAT IT READS IS OF BULK AT MOST 1048576: true; the input reads as it did. -/
def fnExactPlanLengthsUptoRow : OpenClaim := { program := "ytcacedcbboidoaa", sum := "2883610e26b334360e29c4a985454b767d6744c706aa4168e3df0c5151f3cb03", func := "loop.example/circuitswitching/laws.FnExactPlanLengths", spec := "fnExactPlanLengths", apart := false, narrowed := true }
def FnExactPlanLengthsUptoSaid : Prop := fnExactPlanLengthsUptoRow.holds Try.pinned (OpenSpec.upto fnExactPlanLengthsSpec)

/-- 'laws.FnExactPlanFor', WHERE WHAT IT READS IS OF BULK AT MOST 1048576: true; the input reads as it did. -/
def fnExactPlanForUptoRow : OpenClaim := { program := "ytcacedcbboidoaa", sum := "2883610e26b334360e29c4a985454b767d6744c706aa4168e3df0c5151f3cb03", func := "loop.example/circuitswitching/laws.FnExactPlanFor", spec := "fnExactPlanFor", apart := false, narrowed := true }
def FnExactPlanForUptoSaid : Prop := fnExactPlanForUptoRow.holds Try.pinned (OpenSpec.upto fnExactPlanForSpec)

/-- 'laws.FnExactDialAll', WHERE WHAT IT READS IS OF BULK AT MOST 1048576: true; the input reads as it did. -/
def fnExactDialAllUptoRow : OpenClaim := { program := "ytcacedcbboidoaa", sum := "2883610e26b334360e29c4a985454b767d6744c706aa4168e3df0c5151f3cb03", func := "loop.example/circuitswitching/laws.FnExactDialAll", spec := "fnExactDialAll", apart := false, narrowed := true }
def FnExactDialAllUptoSaid : Prop := fnExactDialAllUptoRow.holds Try.pinned (OpenSpec.upto fnExactDialAllSpec)

/-- 'laws.FnDialOne', WHERE WHAT IT READS IS OF BULK AT MOST 1048576: true; the input reads as it did. -/
def fnDialOneUptoRow : OpenClaim := { program := "ytcacedcbboidoaa", sum := "2883610e26b334360e29c4a985454b767d6744c706aa4168e3df0c5151f3cb03", func := "loop.example/circuitswitching/laws.FnDialOne", spec := "fnDialOne", apart := false, narrowed := true }
def FnDialOneUptoSaid : Prop := fnDialOneUptoRow.holds Try.pinned (OpenSpec.upto fnDialOneSpec)

/-- 'laws.FnPlanFor', WHERE WHAT IT READS IS OF BULK AT MOST 1048576: true; the input reads as it did. -/
def fnPlanForUptoRow : OpenClaim := { program := "ytcacedcbboidoaa", sum := "2883610e26b334360e29c4a985454b767d6744c706aa4168e3df0c5151f3cb03", func := "loop.example/circuitswitching/laws.FnPlanFor", spec := "fnPlanFor", apart := false, narrowed := true }
def FnPlanForUptoSaid : Prop := fnPlanForUptoRow.holds Try.pinned (OpenSpec.upto fnPlanForSpec)

/-- 'laws.FnPlanValid', WHERE WHAT IT READS IS OF BULK AT MOST 1048576: true; the input reads as it did. -/
def fnPlanValidUptoRow : OpenClaim := { program := "ytcacedcbboidoaa", sum := "2883610e26b334360e29c4a985454b767d6744c706aa4168e3df0c5151f3cb03", func := "loop.example/circuitswitching/laws.FnPlanValid", spec := "fnPlanValid", apart := false, narrowed := true }
def FnPlanValidUptoSaid : Prop := fnPlanValidUptoRow.holds Try.pinned (OpenSpec.upto fnPlanValidSpec)

/-- 'laws.FnRoutesLess', WHERE WHAT IT READS IS OF BULK AT MOST 1048576: true; the input reads as it did. -/
def fnRoutesLessUptoRow : OpenClaim := { program := "ytcacedcbboidoaa", sum := "2883610e26b334360e29c4a985454b767d6744c706aa4168e3df0c5151f3cb03", func := "loop.example/circuitswitching/laws.FnRoutesLess", spec := "fnRoutesLess", apart := false, narrowed := true }
def FnRoutesLessUptoSaid : Prop := fnRoutesLessUptoRow.holds Try.pinned (OpenSpec.upto fnRoutesLessSpec)

/-- 'laws.FnExactRoutesLess', WHERE WHAT IT READS IS OF BULK AT MOST 1048576: true; the input reads as it did. -/
def fnExactRoutesLessUptoRow : OpenClaim := { program := "ytcacedcbboidoaa", sum := "2883610e26b334360e29c4a985454b767d6744c706aa4168e3df0c5151f3cb03", func := "loop.example/circuitswitching/laws.FnExactRoutesLess", spec := "fnExactRoutesLess", apart := false, narrowed := true }
def FnExactRoutesLessUptoSaid : Prop := fnExactRoutesLessUptoRow.holds Try.pinned (OpenSpec.upto fnExactRoutesLessSpec)

/-- 'laws.FnDialAll', WHERE WHAT IT READS IS OF BULK AT MOST 1048576: true; the input reads as it did. -/
def fnDialAllUptoRow : OpenClaim := { program := "ytcacedcbboidoaa", sum := "2883610e26b334360e29c4a985454b767d6744c706aa4168e3df0c5151f3cb03", func := "loop.example/circuitswitching/laws.FnDialAll", spec := "fnDialAll", apart := false, narrowed := true }
def FnDialAllUptoSaid : Prop := fnDialAllUptoRow.holds Try.pinned (OpenSpec.upto fnDialAllSpec)

/-- 'laws.FnPlanLengths', WHERE WHAT IT READS IS OF BULK AT MOST 1048576: true; the input reads as it did. -/
def fnPlanLengthsUptoRow : OpenClaim := { program := "ytcacedcbboidoaa", sum := "2883610e26b334360e29c4a985454b767d6744c706aa4168e3df0c5151f3cb03", func := "loop.example/circuitswitching/laws.FnPlanLengths", spec := "fnPlanLengths", apart := false, narrowed := true }
def FnPlanLengthsUptoSaid : Prop := fnPlanLengthsUptoRow.holds Try.pinned (OpenSpec.upto fnPlanLengthsSpec)

/-- 'laws.FnExactDialLeast', WHERE WHAT IT READS IS OF BULK AT MOST 1048576: true; the input reads as it did. -/
def fnExactDialLeastUptoRow : OpenClaim := { program := "ytcacedcbboidoaa", sum := "2883610e26b334360e29c4a985454b767d6744c706aa4168e3df0c5151f3cb03", func := "loop.example/circuitswitching/laws.FnExactDialLeast", spec := "fnExactDialLeast", recurses := true, apart := false, narrowed := true }
def FnExactDialLeastUptoSaid : Prop := fnExactDialLeastUptoRow.holds Try.pinned (OpenSpec.upto fnExactDialLeastSpec)

/-- 'laws.FnDialLeast', WHERE WHAT IT READS IS OF BULK AT MOST 1048576: true; the input reads as it did. -/
def fnDialLeastUptoRow : OpenClaim := { program := "ytcacedcbboidoaa", sum := "2883610e26b334360e29c4a985454b767d6744c706aa4168e3df0c5151f3cb03", func := "loop.example/circuitswitching/laws.FnDialLeast", spec := "fnDialLeast", recurses := true, apart := false, narrowed := true }
def FnDialLeastUptoSaid : Prop := fnDialLeastUptoRow.holds Try.pinned (OpenSpec.upto fnDialLeastSpec)

/-- 'laws.FnDialCost', WHERE WHAT IT READS IS OF BULK AT MOST 1048576: true; the input reads as it did. -/
def fnDialCostUptoRow : OpenClaim := { program := "ytcacedcbboidoaa", sum := "2883610e26b334360e29c4a985454b767d6744c706aa4168e3df0c5151f3cb03", func := "loop.example/circuitswitching/laws.FnDialCost", spec := "fnDialCost", recurses := true, apart := false, narrowed := true }
def FnDialCostUptoSaid : Prop := fnDialCostUptoRow.holds Try.pinned (OpenSpec.upto fnDialCostSpec)

end Rows
end Go.Proofs.Ytcacedcbboidoaa
