/-
  No cell of these rows narrows 'for every input' (looked for: loops, veiled, ifaces, maps, wideKeys, modest, calm, conditions, laid).
  DERIVED. THE GIVEN ROWS OF THIS SEAT. 9 by the template 'for every input the law returns true; each argument reads behind the call as it read before'; 0 by the template 'total and deterministic' (their statements: YtbmefldckdaopaaTotals.lean).
  GIVEN WITH THE SEED: the statements are not yours to turn. If you find one false, say at which input.
  Laid BY PROGRAM, IN A SANDBOX (cutbox-rows.mjs): the forced cells as the released guide's own fill.sh prints them over the translation 95cb8b38bb1df7d7… (all of the seat's roots in one cut). By AI agents, Wed Nov 11 2026. No macro, syntax, notation, axiom, sorry.
-/
import Derived.Test.YtbmefldckdaopaaChecked
import GoSem.Claim
import GoSem.ClaimJoined
import GoSem.ClaimMapViews
import Derived.JoinedTies
import Derived.KernelRfl
namespace Go.Proofs.Ytbmefldckdaopaa
/- THE CELL 'sum', in the pinned program and in every row, IS THE sha256 OF THE DUMP (.gsa) THAT YtbmefldckdaopaaProg.lean LOADS. Nothing in Lean hashes anything: it is a label: what it is worth is what the hold of that sum in a sandbox is worth. -/
noncomputable def Try.pinned : Pinned := { name := "ytbmefldckdaopaa", sum := "95cb8b38bb1df7d7cd36d16a6361a2a4aec7146afcafb9d8c9ead18fb66da849", checked := Try.checked }
namespace Rows
def none {H : Type} : Left H := { results := [], args := [] }

/-- 'laws.FnExactAreStackable': WHATEVER THE INPUT: true; the input reads as it did. -/
def fnExactAreStackableSpec : ChangeSpec := { name := "fnExactAreStackable", fn := fun _ => fun
  | [d] => { results := [.lit (.bool true)], args := [d] }
  | _ => none }
def fnExactAreStackableRow : OpenClaim := { program := "ytbmefldckdaopaa", sum := "95cb8b38bb1df7d7cd36d16a6361a2a4aec7146afcafb9d8c9ead18fb66da849", func := "loop.example/g01334/laws.FnExactAreStackable", spec := "fnExactAreStackable", unfollowed := true, recurses := true, apart := false }
def FnExactAreStackableSaid : Prop := fnExactAreStackableRow.holds Try.pinned (OpenSpec.ofChange fnExactAreStackableSpec)

/-- ITS FALSE NEIGHBOUR: 'it returns false'. Refute it at one input. -/
def fnExactAreStackableWrong : ChangeSpec := { name := "fnExactAreStackable", fn := fun _ => fun
  | [d] => { results := [.lit (.bool false)], args := [d] }
  | _ => none }
def FnExactAreStackableWrongFalsely : Prop := fnExactAreStackableRow.holds Try.pinned (OpenSpec.ofChange fnExactAreStackableWrong)

/-- 'laws.FnExactOnlyBelow': WHATEVER THE INPUT: true; the input reads as it did. -/
def fnExactOnlyBelowSpec : ChangeSpec := { name := "fnExactOnlyBelow", fn := fun _ => fun
  | [d] => { results := [.lit (.bool true)], args := [d] }
  | _ => none }
def fnExactOnlyBelowRow : OpenClaim := { program := "ytbmefldckdaopaa", sum := "95cb8b38bb1df7d7cd36d16a6361a2a4aec7146afcafb9d8c9ead18fb66da849", func := "loop.example/g01334/laws.FnExactOnlyBelow", spec := "fnExactOnlyBelow", unfollowed := true, recurses := true, apart := false }
def FnExactOnlyBelowSaid : Prop := fnExactOnlyBelowRow.holds Try.pinned (OpenSpec.ofChange fnExactOnlyBelowSpec)

/-- ITS FALSE NEIGHBOUR: 'it returns false'. Refute it at one input. -/
def fnExactOnlyBelowWrong : ChangeSpec := { name := "fnExactOnlyBelow", fn := fun _ => fun
  | [d] => { results := [.lit (.bool false)], args := [d] }
  | _ => none }
def FnExactOnlyBelowWrongFalsely : Prop := fnExactOnlyBelowRow.holds Try.pinned (OpenSpec.ofChange fnExactOnlyBelowWrong)

/-- 'laws.FnExactCountSafe': WHATEVER THE INPUT: true; the input reads as it did. -/
def fnExactCountSafeSpec : ChangeSpec := { name := "fnExactCountSafe", fn := fun _ => fun
  | [d1, d2] => { results := [.lit (.bool true)], args := [d1, d2] }
  | _ => none }
def fnExactCountSafeRow : OpenClaim := { program := "ytbmefldckdaopaa", sum := "95cb8b38bb1df7d7cd36d16a6361a2a4aec7146afcafb9d8c9ead18fb66da849", func := "loop.example/g01334/laws.FnExactCountSafe", spec := "fnExactCountSafe", unfollowed := true, recurses := true, apart := false }
def FnExactCountSafeSaid : Prop := fnExactCountSafeRow.holds Try.pinned (OpenSpec.ofChange fnExactCountSafeSpec)

/-- ITS FALSE NEIGHBOUR: 'it returns false'. Refute it at one input. -/
def fnExactCountSafeWrong : ChangeSpec := { name := "fnExactCountSafe", fn := fun _ => fun
  | [d1, d2] => { results := [.lit (.bool false)], args := [d1, d2] }
  | _ => none }
def FnExactCountSafeWrongFalsely : Prop := fnExactCountSafeRow.holds Try.pinned (OpenSpec.ofChange fnExactCountSafeWrong)

/-- 'laws.FnExactCanStackAll': WHATEVER THE INPUT: true; the input reads as it did. -/
def fnExactCanStackAllSpec : ChangeSpec := { name := "fnExactCanStackAll", fn := fun _ => fun
  | [d] => { results := [.lit (.bool true)], args := [d] }
  | _ => none }
def fnExactCanStackAllRow : OpenClaim := { program := "ytbmefldckdaopaa", sum := "95cb8b38bb1df7d7cd36d16a6361a2a4aec7146afcafb9d8c9ead18fb66da849", func := "loop.example/g01334/laws.FnExactCanStackAll", spec := "fnExactCanStackAll", unfollowed := true, recurses := true, apart := false }
def FnExactCanStackAllSaid : Prop := fnExactCanStackAllRow.holds Try.pinned (OpenSpec.ofChange fnExactCanStackAllSpec)

/-- ITS FALSE NEIGHBOUR: 'it returns false'. Refute it at one input. -/
def fnExactCanStackAllWrong : ChangeSpec := { name := "fnExactCanStackAll", fn := fun _ => fun
  | [d] => { results := [.lit (.bool false)], args := [d] }
  | _ => none }
def FnExactCanStackAllWrongFalsely : Prop := fnExactCanStackAllRow.holds Try.pinned (OpenSpec.ofChange fnExactCanStackAllWrong)

/-- 'laws.FnExactCountSafeOrders': WHATEVER THE INPUT: true; the input reads as it did. -/
def fnExactCountSafeOrdersSpec : ChangeSpec := { name := "fnExactCountSafeOrders", fn := fun _ => fun
  | [d] => { results := [.lit (.bool true)], args := [d] }
  | _ => none }
def fnExactCountSafeOrdersRow : OpenClaim := { program := "ytbmefldckdaopaa", sum := "95cb8b38bb1df7d7cd36d16a6361a2a4aec7146afcafb9d8c9ead18fb66da849", func := "loop.example/g01334/laws.FnExactCountSafeOrders", spec := "fnExactCountSafeOrders", unfollowed := true, recurses := true, apart := false }
def FnExactCountSafeOrdersSaid : Prop := fnExactCountSafeOrdersRow.holds Try.pinned (OpenSpec.ofChange fnExactCountSafeOrdersSpec)

/-- ITS FALSE NEIGHBOUR: 'it returns false'. Refute it at one input. -/
def fnExactCountSafeOrdersWrong : ChangeSpec := { name := "fnExactCountSafeOrders", fn := fun _ => fun
  | [d] => { results := [.lit (.bool false)], args := [d] }
  | _ => none }
def FnExactCountSafeOrdersWrongFalsely : Prop := fnExactCountSafeOrdersRow.holds Try.pinned (OpenSpec.ofChange fnExactCountSafeOrdersWrong)

/-- 'laws.FnExactMostStacked': WHATEVER THE INPUT: true; the input reads as it did. -/
def fnExactMostStackedSpec : ChangeSpec := { name := "fnExactMostStacked", fn := fun _ => fun
  | [d] => { results := [.lit (.bool true)], args := [d] }
  | _ => none }
def fnExactMostStackedRow : OpenClaim := { program := "ytbmefldckdaopaa", sum := "95cb8b38bb1df7d7cd36d16a6361a2a4aec7146afcafb9d8c9ead18fb66da849", func := "loop.example/g01334/laws.FnExactMostStacked", spec := "fnExactMostStacked", unfollowed := true, recurses := true, apart := false }
def FnExactMostStackedSaid : Prop := fnExactMostStackedRow.holds Try.pinned (OpenSpec.ofChange fnExactMostStackedSpec)

/-- ITS FALSE NEIGHBOUR: 'it returns false'. Refute it at one input. -/
def fnExactMostStackedWrong : ChangeSpec := { name := "fnExactMostStacked", fn := fun _ => fun
  | [d] => { results := [.lit (.bool false)], args := [d] }
  | _ => none }
def FnExactMostStackedWrongFalsely : Prop := fnExactMostStackedRow.holds Try.pinned (OpenSpec.ofChange fnExactMostStackedWrong)

/-- 'laws.FnExactSafeOrder': WHATEVER THE INPUT: true; the input reads as it did. -/
def fnExactSafeOrderSpec : ChangeSpec := { name := "fnExactSafeOrder", fn := fun _ => fun
  | [d] => { results := [.lit (.bool true)], args := [d] }
  | _ => none }
def fnExactSafeOrderRow : OpenClaim := { program := "ytbmefldckdaopaa", sum := "95cb8b38bb1df7d7cd36d16a6361a2a4aec7146afcafb9d8c9ead18fb66da849", func := "loop.example/g01334/laws.FnExactSafeOrder", spec := "fnExactSafeOrder", unfollowed := true, recurses := true, apart := false }
def FnExactSafeOrderSaid : Prop := fnExactSafeOrderRow.holds Try.pinned (OpenSpec.ofChange fnExactSafeOrderSpec)

/-- ITS FALSE NEIGHBOUR: 'it returns false'. Refute it at one input. -/
def fnExactSafeOrderWrong : ChangeSpec := { name := "fnExactSafeOrder", fn := fun _ => fun
  | [d] => { results := [.lit (.bool false)], args := [d] }
  | _ => none }
def FnExactSafeOrderWrongFalsely : Prop := fnExactSafeOrderRow.holds Try.pinned (OpenSpec.ofChange fnExactSafeOrderWrong)

/-- 'laws.FnExactTallestStack': WHATEVER THE INPUT: true; the input reads as it did. -/
def fnExactTallestStackSpec : ChangeSpec := { name := "fnExactTallestStack", fn := fun _ => fun
  | [d] => { results := [.lit (.bool true)], args := [d] }
  | _ => none }
def fnExactTallestStackRow : OpenClaim := { program := "ytbmefldckdaopaa", sum := "95cb8b38bb1df7d7cd36d16a6361a2a4aec7146afcafb9d8c9ead18fb66da849", func := "loop.example/g01334/laws.FnExactTallestStack", spec := "fnExactTallestStack", unfollowed := true, recurses := true, apart := false }
def FnExactTallestStackSaid : Prop := fnExactTallestStackRow.holds Try.pinned (OpenSpec.ofChange fnExactTallestStackSpec)

/-- ITS FALSE NEIGHBOUR: 'it returns false'. Refute it at one input. -/
def fnExactTallestStackWrong : ChangeSpec := { name := "fnExactTallestStack", fn := fun _ => fun
  | [d] => { results := [.lit (.bool false)], args := [d] }
  | _ => none }
def FnExactTallestStackWrongFalsely : Prop := fnExactTallestStackRow.holds Try.pinned (OpenSpec.ofChange fnExactTallestStackWrong)

/-- 'laws.FnExactStrongestFirst': WHATEVER THE INPUT: true; the input reads as it did. -/
def fnExactStrongestFirstSpec : ChangeSpec := { name := "fnExactStrongestFirst", fn := fun _ => fun
  | [d] => { results := [.lit (.bool true)], args := [d] }
  | _ => none }
def fnExactStrongestFirstRow : OpenClaim := { program := "ytbmefldckdaopaa", sum := "95cb8b38bb1df7d7cd36d16a6361a2a4aec7146afcafb9d8c9ead18fb66da849", func := "loop.example/g01334/laws.FnExactStrongestFirst", spec := "fnExactStrongestFirst", unfollowed := true, recurses := true, apart := false }
def FnExactStrongestFirstSaid : Prop := fnExactStrongestFirstRow.holds Try.pinned (OpenSpec.ofChange fnExactStrongestFirstSpec)

/-- ITS FALSE NEIGHBOUR: 'it returns false'. Refute it at one input. -/
def fnExactStrongestFirstWrong : ChangeSpec := { name := "fnExactStrongestFirst", fn := fun _ => fun
  | [d] => { results := [.lit (.bool false)], args := [d] }
  | _ => none }
def FnExactStrongestFirstWrongFalsely : Prop := fnExactStrongestFirstRow.holds Try.pinned (OpenSpec.ofChange fnExactStrongestFirstWrong)

/- THE SECOND FORM. 'bulk': how many values and letters a reading holds, each counted each time it is reached (what is shared counts as often as it is met; a slice's spare places count too). A statement '..UptoSaid' is the law's where the arguments, and the package variables that the reading takes, are together of bulk at most 1048576: NARROWER than '..Said'. Prove '..Said' where nothing that the law and all that it calls make is longer than what came in: it says more and counts as full. Else prove '..UptoSaid'. A law counts once. -/
mutual
def uptoBulk {H : Type} : DataW H → Nat
  | .lit (.string bytes) => bytes.length + 1
  | .lit _ => 1
  | .nil => 1
  | .ptr d => uptoBulk d + 1
  | .slice elems spare => uptoBulkAll elems + uptoBulkAll spare + 1
  | .agg parts => uptoBulkAll parts + 1
  | .iface _ d => uptoBulk d + 1
  | .map entries => uptoBulkEntries entries + 1
  | .held _ => 1
def uptoBulkAll {H : Type} : List (DataW H) → Nat
  | [] => 0
  | d :: r => uptoBulk d + uptoBulkAll r
def uptoBulkEntries {H : Type} : List (Lit × DataW H) → Nat
  | [] => 0
  | x :: r => uptoBulkEntry x + uptoBulkEntries r
def uptoBulkEntry {H : Type} : Lit × DataW H → Nat
  | (.string bytes, d) => bytes.length + uptoBulk d + 1
  | (_, d) => uptoBulk d + 1
 end
def uptoSmall : (H : Type) → List (DataW H) → Bool := fun _ ds => decide (uptoBulkAll ds ≤ 1048576)
def OpenSpec.upto (s : _root_.Go.ChangeSpec) : _root_.Go.OpenSpec := { _root_.Go.OpenSpec.ofChange s with cond := some uptoSmall }

/-- 'laws.FnExactAreStackable', WHERE WHAT IT READS IS OF BULK AT MOST 1048576: true; the input reads as it did. -/
def fnExactAreStackableUptoRow : OpenClaim := { program := "ytbmefldckdaopaa", sum := "95cb8b38bb1df7d7cd36d16a6361a2a4aec7146afcafb9d8c9ead18fb66da849", func := "loop.example/g01334/laws.FnExactAreStackable", spec := "fnExactAreStackable", unfollowed := true, recurses := true, apart := false, narrowed := true }
def FnExactAreStackableUptoSaid : Prop := fnExactAreStackableUptoRow.holds Try.pinned (OpenSpec.upto fnExactAreStackableSpec)

/-- 'laws.FnExactOnlyBelow', WHERE WHAT IT READS IS OF BULK AT MOST 1048576: true; the input reads as it did. -/
def fnExactOnlyBelowUptoRow : OpenClaim := { program := "ytbmefldckdaopaa", sum := "95cb8b38bb1df7d7cd36d16a6361a2a4aec7146afcafb9d8c9ead18fb66da849", func := "loop.example/g01334/laws.FnExactOnlyBelow", spec := "fnExactOnlyBelow", unfollowed := true, recurses := true, apart := false, narrowed := true }
def FnExactOnlyBelowUptoSaid : Prop := fnExactOnlyBelowUptoRow.holds Try.pinned (OpenSpec.upto fnExactOnlyBelowSpec)

/-- 'laws.FnExactCountSafe', WHERE WHAT IT READS IS OF BULK AT MOST 1048576: true; the input reads as it did. -/
def fnExactCountSafeUptoRow : OpenClaim := { program := "ytbmefldckdaopaa", sum := "95cb8b38bb1df7d7cd36d16a6361a2a4aec7146afcafb9d8c9ead18fb66da849", func := "loop.example/g01334/laws.FnExactCountSafe", spec := "fnExactCountSafe", unfollowed := true, recurses := true, apart := false, narrowed := true }
def FnExactCountSafeUptoSaid : Prop := fnExactCountSafeUptoRow.holds Try.pinned (OpenSpec.upto fnExactCountSafeSpec)

/-- 'laws.FnExactCanStackAll', WHERE WHAT IT READS IS OF BULK AT MOST 1048576: true; the input reads as it did. -/
def fnExactCanStackAllUptoRow : OpenClaim := { program := "ytbmefldckdaopaa", sum := "95cb8b38bb1df7d7cd36d16a6361a2a4aec7146afcafb9d8c9ead18fb66da849", func := "loop.example/g01334/laws.FnExactCanStackAll", spec := "fnExactCanStackAll", unfollowed := true, recurses := true, apart := false, narrowed := true }
def FnExactCanStackAllUptoSaid : Prop := fnExactCanStackAllUptoRow.holds Try.pinned (OpenSpec.upto fnExactCanStackAllSpec)

/-- 'laws.FnExactCountSafeOrders', WHERE WHAT IT READS IS OF BULK AT MOST 1048576: true; the input reads as it did. -/
def fnExactCountSafeOrdersUptoRow : OpenClaim := { program := "ytbmefldckdaopaa", sum := "95cb8b38bb1df7d7cd36d16a6361a2a4aec7146afcafb9d8c9ead18fb66da849", func := "loop.example/g01334/laws.FnExactCountSafeOrders", spec := "fnExactCountSafeOrders", unfollowed := true, recurses := true, apart := false, narrowed := true }
def FnExactCountSafeOrdersUptoSaid : Prop := fnExactCountSafeOrdersUptoRow.holds Try.pinned (OpenSpec.upto fnExactCountSafeOrdersSpec)

/-- 'laws.FnExactMostStacked', WHERE WHAT IT READS IS OF BULK AT MOST 1048576: true; the input reads as it did. -/
def fnExactMostStackedUptoRow : OpenClaim := { program := "ytbmefldckdaopaa", sum := "95cb8b38bb1df7d7cd36d16a6361a2a4aec7146afcafb9d8c9ead18fb66da849", func := "loop.example/g01334/laws.FnExactMostStacked", spec := "fnExactMostStacked", unfollowed := true, recurses := true, apart := false, narrowed := true }
def FnExactMostStackedUptoSaid : Prop := fnExactMostStackedUptoRow.holds Try.pinned (OpenSpec.upto fnExactMostStackedSpec)

/-- 'laws.FnExactSafeOrder', WHERE WHAT IT READS IS OF BULK AT MOST 1048576: true; the input reads as it did. -/
def fnExactSafeOrderUptoRow : OpenClaim := { program := "ytbmefldckdaopaa", sum := "95cb8b38bb1df7d7cd36d16a6361a2a4aec7146afcafb9d8c9ead18fb66da849", func := "loop.example/g01334/laws.FnExactSafeOrder", spec := "fnExactSafeOrder", unfollowed := true, recurses := true, apart := false, narrowed := true }
def FnExactSafeOrderUptoSaid : Prop := fnExactSafeOrderUptoRow.holds Try.pinned (OpenSpec.upto fnExactSafeOrderSpec)

/-- 'laws.FnExactTallestStack', WHERE WHAT IT READS IS OF BULK AT MOST 1048576: true; the input reads as it did. -/
def fnExactTallestStackUptoRow : OpenClaim := { program := "ytbmefldckdaopaa", sum := "95cb8b38bb1df7d7cd36d16a6361a2a4aec7146afcafb9d8c9ead18fb66da849", func := "loop.example/g01334/laws.FnExactTallestStack", spec := "fnExactTallestStack", unfollowed := true, recurses := true, apart := false, narrowed := true }
def FnExactTallestStackUptoSaid : Prop := fnExactTallestStackUptoRow.holds Try.pinned (OpenSpec.upto fnExactTallestStackSpec)

/-- 'laws.FnExactStrongestFirst', WHERE WHAT IT READS IS OF BULK AT MOST 1048576: true; the input reads as it did. -/
def fnExactStrongestFirstUptoRow : OpenClaim := { program := "ytbmefldckdaopaa", sum := "95cb8b38bb1df7d7cd36d16a6361a2a4aec7146afcafb9d8c9ead18fb66da849", func := "loop.example/g01334/laws.FnExactStrongestFirst", spec := "fnExactStrongestFirst", unfollowed := true, recurses := true, apart := false, narrowed := true }
def FnExactStrongestFirstUptoSaid : Prop := fnExactStrongestFirstUptoRow.holds Try.pinned (OpenSpec.upto fnExactStrongestFirstSpec)

end Rows
end Go.Proofs.Ytbmefldckdaopaa
