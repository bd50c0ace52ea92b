/-
  No cell of these rows narrows 'for every input' (looked for: loops, veiled, ifaces, maps, wideKeys, modest, calm, conditions, laid).
  DERIVED. THE GIVEN ROWS OF THIS SEAT. 8 by the template 'for every input the law returns true; each argument reads behind the call as it read before'; 0 by the template 'total and deterministic' (their statements: YtehjicblchnknaaTotals.lean).
  GIVEN WITH THE SEED: the statements are not yours to turn. If you find one false, say at which input.
  Laid BY PROGRAM, IN A SANDBOX (cutbox-rows.mjs): the forced cells as the released guide's own fill.sh prints them over the translation 56987c375957df41… (all of the seat's roots in one cut). By AI agents, Wed Nov 11 2026. No macro, syntax, notation, axiom, sorry.
-/
import Derived.Test.YtehjicblchnknaaChecked
import GoSem.Claim
import GoSem.ClaimJoined
import GoSem.ClaimMapViews
import Derived.JoinedTies
import Derived.KernelRfl
namespace Go.Proofs.Ytehjicblchnknaa
/- THE CELL 'sum', in the pinned program and in every row, IS THE sha256 OF THE DUMP (.gsa) THAT YtehjicblchnknaaProg.lean LOADS. Nothing in Lean hashes anything: it is a label: what it is worth is what the hold of that sum in a sandbox is worth. -/
noncomputable def Try.pinned : Pinned := { name := "ytehjicblchnknaa", sum := "56987c375957df415779cce7ebd03492267f00c9cf30dd8230d98c51593e8085", checked := Try.checked }
namespace Rows
def none {H : Type} : Left H := { results := [], args := [] }

/-- 'laws.FnExactIsStack': WHATEVER THE INPUT: true; the input reads as it did. -/
def fnExactIsStackSpec : ChangeSpec := { name := "fnExactIsStack", fn := fun _ => fun
  | [d1, d2] => { results := [.lit (.bool true)], args := [d1, d2] }
  | _ => none }
def fnExactIsStackRow : OpenClaim := { program := "ytehjicblchnknaa", sum := "56987c375957df415779cce7ebd03492267f00c9cf30dd8230d98c51593e8085", func := "loop.example/g01334/laws.FnExactIsStack", spec := "fnExactIsStack", unfollowed := true, recurses := true, apart := false }
def FnExactIsStackSaid : Prop := fnExactIsStackRow.holds Try.pinned (OpenSpec.ofChange fnExactIsStackSpec)

/-- ITS FALSE NEIGHBOUR: 'it returns false'. Refute it at one input. -/
def fnExactIsStackWrong : ChangeSpec := { name := "fnExactIsStack", fn := fun _ => fun
  | [d1, d2] => { results := [.lit (.bool false)], args := [d1, d2] }
  | _ => none }
def FnExactIsStackWrongFalsely : Prop := fnExactIsStackRow.holds Try.pinned (OpenSpec.ofChange fnExactIsStackWrong)

/-- 'laws.FnExactHeightOf': WHATEVER THE INPUT: true; the input reads as it did. -/
def fnExactHeightOfSpec : ChangeSpec := { name := "fnExactHeightOf", fn := fun _ => fun
  | [d1, d2] => { results := [.lit (.bool true)], args := [d1, d2] }
  | _ => none }
def fnExactHeightOfRow : OpenClaim := { program := "ytehjicblchnknaa", sum := "56987c375957df415779cce7ebd03492267f00c9cf30dd8230d98c51593e8085", func := "loop.example/g01334/laws.FnExactHeightOf", spec := "fnExactHeightOf", unfollowed := true, recurses := true, apart := false }
def FnExactHeightOfSaid : Prop := fnExactHeightOfRow.holds Try.pinned (OpenSpec.ofChange fnExactHeightOfSpec)

/-- ITS FALSE NEIGHBOUR: 'it returns false'. Refute it at one input. -/
def fnExactHeightOfWrong : ChangeSpec := { name := "fnExactHeightOf", fn := fun _ => fun
  | [d1, d2] => { results := [.lit (.bool false)], args := [d1, d2] }
  | _ => none }
def FnExactHeightOfWrongFalsely : Prop := fnExactHeightOfRow.holds Try.pinned (OpenSpec.ofChange fnExactHeightOfWrong)

/-- 'laws.FnExactWhoFails': WHATEVER THE INPUT: true; the input reads as it did. -/
def fnExactWhoFailsSpec : ChangeSpec := { name := "fnExactWhoFails", fn := fun _ => fun
  | [d1, d2] => { results := [.lit (.bool true)], args := [d1, d2] }
  | _ => none }
def fnExactWhoFailsRow : OpenClaim := { program := "ytehjicblchnknaa", sum := "56987c375957df415779cce7ebd03492267f00c9cf30dd8230d98c51593e8085", func := "loop.example/g01334/laws.FnExactWhoFails", spec := "fnExactWhoFails", unfollowed := true, recurses := true, apart := false }
def FnExactWhoFailsSaid : Prop := fnExactWhoFailsRow.holds Try.pinned (OpenSpec.ofChange fnExactWhoFailsSpec)

/-- ITS FALSE NEIGHBOUR: 'it returns false'. Refute it at one input. -/
def fnExactWhoFailsWrong : ChangeSpec := { name := "fnExactWhoFails", fn := fun _ => fun
  | [d1, d2] => { results := [.lit (.bool false)], args := [d1, d2] }
  | _ => none }
def FnExactWhoFailsWrongFalsely : Prop := fnExactWhoFailsRow.holds Try.pinned (OpenSpec.ofChange fnExactWhoFailsWrong)

/-- 'laws.FnExactPutOn': WHATEVER THE INPUT: true; the input reads as it did. -/
def fnExactPutOnSpec : ChangeSpec := { name := "fnExactPutOn", fn := fun _ => fun
  | [d1, d2, d3] => { results := [.lit (.bool true)], args := [d1, d2, d3] }
  | _ => none }
def fnExactPutOnRow : OpenClaim := { program := "ytehjicblchnknaa", sum := "56987c375957df415779cce7ebd03492267f00c9cf30dd8230d98c51593e8085", func := "loop.example/g01334/laws.FnExactPutOn", spec := "fnExactPutOn", unfollowed := true, recurses := true, apart := false }
def FnExactPutOnSaid : Prop := fnExactPutOnRow.holds Try.pinned (OpenSpec.ofChange fnExactPutOnSpec)

/-- ITS FALSE NEIGHBOUR: 'it returns false'. Refute it at one input. -/
def fnExactPutOnWrong : ChangeSpec := { name := "fnExactPutOn", fn := fun _ => fun
  | [d1, d2, d3] => { results := [.lit (.bool false)], args := [d1, d2, d3] }
  | _ => none }
def FnExactPutOnWrongFalsely : Prop := fnExactPutOnRow.holds Try.pinned (OpenSpec.ofChange fnExactPutOnWrong)

/-- 'laws.FnExactTakeTop': WHATEVER THE INPUT: true; the input reads as it did. -/
def fnExactTakeTopSpec : ChangeSpec := { name := "fnExactTakeTop", fn := fun _ => fun
  | [d1, d2] => { results := [.lit (.bool true)], args := [d1, d2] }
  | _ => none }
def fnExactTakeTopRow : OpenClaim := { program := "ytehjicblchnknaa", sum := "56987c375957df415779cce7ebd03492267f00c9cf30dd8230d98c51593e8085", func := "loop.example/g01334/laws.FnExactTakeTop", spec := "fnExactTakeTop", unfollowed := true, recurses := true, apart := false }
def FnExactTakeTopSaid : Prop := fnExactTakeTopRow.holds Try.pinned (OpenSpec.ofChange fnExactTakeTopSpec)

/-- ITS FALSE NEIGHBOUR: 'it returns false'. Refute it at one input. -/
def fnExactTakeTopWrong : ChangeSpec := { name := "fnExactTakeTop", fn := fun _ => fun
  | [d1, d2] => { results := [.lit (.bool false)], args := [d1, d2] }
  | _ => none }
def FnExactTakeTopWrongFalsely : Prop := fnExactTakeTopRow.holds Try.pinned (OpenSpec.ofChange fnExactTakeTopWrong)

/-- 'laws.FnExactIsSafe': WHATEVER THE INPUT: true; the input reads as it did. -/
def fnExactIsSafeSpec : ChangeSpec := { name := "fnExactIsSafe", fn := fun _ => fun
  | [d1, d2] => { results := [.lit (.bool true)], args := [d1, d2] }
  | _ => none }
def fnExactIsSafeRow : OpenClaim := { program := "ytehjicblchnknaa", sum := "56987c375957df415779cce7ebd03492267f00c9cf30dd8230d98c51593e8085", func := "loop.example/g01334/laws.FnExactIsSafe", spec := "fnExactIsSafe", unfollowed := true, recurses := true, apart := false }
def FnExactIsSafeSaid : Prop := fnExactIsSafeRow.holds Try.pinned (OpenSpec.ofChange fnExactIsSafeSpec)

/-- ITS FALSE NEIGHBOUR: 'it returns false'. Refute it at one input. -/
def fnExactIsSafeWrong : ChangeSpec := { name := "fnExactIsSafe", fn := fun _ => fun
  | [d1, d2] => { results := [.lit (.bool false)], args := [d1, d2] }
  | _ => none }
def FnExactIsSafeWrongFalsely : Prop := fnExactIsSafeRow.holds Try.pinned (OpenSpec.ofChange fnExactIsSafeWrong)

/-- 'laws.FnExactWeightsAbove': WHATEVER THE INPUT: true; the input reads as it did. -/
def fnExactWeightsAboveSpec : ChangeSpec := { name := "fnExactWeightsAbove", fn := fun _ => fun
  | [d1, d2] => { results := [.lit (.bool true)], args := [d1, d2] }
  | _ => none }
def fnExactWeightsAboveRow : OpenClaim := { program := "ytehjicblchnknaa", sum := "56987c375957df415779cce7ebd03492267f00c9cf30dd8230d98c51593e8085", func := "loop.example/g01334/laws.FnExactWeightsAbove", spec := "fnExactWeightsAbove", unfollowed := true, recurses := true, apart := false }
def FnExactWeightsAboveSaid : Prop := fnExactWeightsAboveRow.holds Try.pinned (OpenSpec.ofChange fnExactWeightsAboveSpec)

/-- ITS FALSE NEIGHBOUR: 'it returns false'. Refute it at one input. -/
def fnExactWeightsAboveWrong : ChangeSpec := { name := "fnExactWeightsAbove", fn := fun _ => fun
  | [d1, d2] => { results := [.lit (.bool false)], args := [d1, d2] }
  | _ => none }
def FnExactWeightsAboveWrongFalsely : Prop := fnExactWeightsAboveRow.holds Try.pinned (OpenSpec.ofChange fnExactWeightsAboveWrong)

/-- 'laws.FnExactCanBearMore': WHATEVER THE INPUT: true; the input reads as it did. -/
def fnExactCanBearMoreSpec : ChangeSpec := { name := "fnExactCanBearMore", fn := fun _ => fun
  | [d1, d2] => { results := [.lit (.bool true)], args := [d1, d2] }
  | _ => none }
def fnExactCanBearMoreRow : OpenClaim := { program := "ytehjicblchnknaa", sum := "56987c375957df415779cce7ebd03492267f00c9cf30dd8230d98c51593e8085", func := "loop.example/g01334/laws.FnExactCanBearMore", spec := "fnExactCanBearMore", unfollowed := true, recurses := true, apart := false }
def FnExactCanBearMoreSaid : Prop := fnExactCanBearMoreRow.holds Try.pinned (OpenSpec.ofChange fnExactCanBearMoreSpec)

/-- ITS FALSE NEIGHBOUR: 'it returns false'. Refute it at one input. -/
def fnExactCanBearMoreWrong : ChangeSpec := { name := "fnExactCanBearMore", fn := fun _ => fun
  | [d1, d2] => { results := [.lit (.bool false)], args := [d1, d2] }
  | _ => none }
def FnExactCanBearMoreWrongFalsely : Prop := fnExactCanBearMoreRow.holds Try.pinned (OpenSpec.ofChange fnExactCanBearMoreWrong)

/- THE SECOND FORM. 'bulk': how many values and letters a reading holds, each counted each time it is reached (what is shared counts as often as it is met; a slice's spare places count too). A statement '..UptoSaid' is the law's where the arguments, and the package variables that the reading takes, are together of bulk at most 1048576: NARROWER than '..Said'. Prove '..Said' where nothing that the law and all that it calls make is longer than what came in: it says more and counts as full. Else prove '..UptoSaid'. A law counts once. -/
mutual
def uptoBulk {H : Type} : DataW H → Nat
  | .lit (.string bytes) => bytes.length + 1
  | .lit _ => 1
  | .nil => 1
  | .ptr d => uptoBulk d + 1
  | .slice elems spare => uptoBulkAll elems + uptoBulkAll spare + 1
  | .agg parts => uptoBulkAll parts + 1
  | .iface _ d => uptoBulk d + 1
  | .map entries => uptoBulkEntries entries + 1
  | .held _ => 1
def uptoBulkAll {H : Type} : List (DataW H) → Nat
  | [] => 0
  | d :: r => uptoBulk d + uptoBulkAll r
def uptoBulkEntries {H : Type} : List (Lit × DataW H) → Nat
  | [] => 0
  | x :: r => uptoBulkEntry x + uptoBulkEntries r
def uptoBulkEntry {H : Type} : Lit × DataW H → Nat
  | (.string bytes, d) => bytes.length + uptoBulk d + 1
  | (_, d) => uptoBulk d + 1
 end
def uptoSmall : (H : Type) → List (DataW H) → Bool := fun _ ds => decide (uptoBulkAll ds ≤ 1048576)
def OpenSpec.upto (s : _root_.Go.ChangeSpec) : _root_.Go.OpenSpec := { _root_.Go.OpenSpec.ofChange s with cond := some uptoSmall }

/-- 'laws.FnExactIsStack', WHERE WHAT IT READS IS OF BULK AT MOST 1048576: true; the input reads as it did. -/
def fnExactIsStackUptoRow : OpenClaim := { program := "ytehjicblchnknaa", sum := "56987c375957df415779cce7ebd03492267f00c9cf30dd8230d98c51593e8085", func := "loop.example/g01334/laws.FnExactIsStack", spec := "fnExactIsStack", unfollowed := true, recurses := true, apart := false, narrowed := true }
def FnExactIsStackUptoSaid : Prop := fnExactIsStackUptoRow.holds Try.pinned (OpenSpec.upto fnExactIsStackSpec)

/-- 'laws.FnExactHeightOf', WHERE WHAT IT READS IS OF BULK AT MOST 1048576: true; the input reads as it did. -/
def fnExactHeightOfUptoRow : OpenClaim := { program := "ytehjicblchnknaa", sum := "56987c375957df415779cce7ebd03492267f00c9cf30dd8230d98c51593e8085", func := "loop.example/g01334/laws.FnExactHeightOf", spec := "fnExactHeightOf", unfollowed := true, recurses := true, apart := false, narrowed := true }
def FnExactHeightOfUptoSaid : Prop := fnExactHeightOfUptoRow.holds Try.pinned (OpenSpec.upto fnExactHeightOfSpec)

/-- 'laws.FnExactWhoFails', WHERE WHAT IT READS IS OF BULK AT MOST 1048576: true; the input reads as it did. -/
def fnExactWhoFailsUptoRow : OpenClaim := { program := "ytehjicblchnknaa", sum := "56987c375957df415779cce7ebd03492267f00c9cf30dd8230d98c51593e8085", func := "loop.example/g01334/laws.FnExactWhoFails", spec := "fnExactWhoFails", unfollowed := true, recurses := true, apart := false, narrowed := true }
def FnExactWhoFailsUptoSaid : Prop := fnExactWhoFailsUptoRow.holds Try.pinned (OpenSpec.upto fnExactWhoFailsSpec)

/-- 'laws.FnExactPutOn', WHERE WHAT IT READS IS OF BULK AT MOST 1048576: true; the input reads as it did. -/
def fnExactPutOnUptoRow : OpenClaim := { program := "ytehjicblchnknaa", sum := "56987c375957df415779cce7ebd03492267f00c9cf30dd8230d98c51593e8085", func := "loop.example/g01334/laws.FnExactPutOn", spec := "fnExactPutOn", unfollowed := true, recurses := true, apart := false, narrowed := true }
def FnExactPutOnUptoSaid : Prop := fnExactPutOnUptoRow.holds Try.pinned (OpenSpec.upto fnExactPutOnSpec)

/-- 'laws.FnExactTakeTop', WHERE WHAT IT READS IS OF BULK AT MOST 1048576: true; the input reads as it did. -/
def fnExactTakeTopUptoRow : OpenClaim := { program := "ytehjicblchnknaa", sum := "56987c375957df415779cce7ebd03492267f00c9cf30dd8230d98c51593e8085", func := "loop.example/g01334/laws.FnExactTakeTop", spec := "fnExactTakeTop", unfollowed := true, recurses := true, apart := false, narrowed := true }
def FnExactTakeTopUptoSaid : Prop := fnExactTakeTopUptoRow.holds Try.pinned (OpenSpec.upto fnExactTakeTopSpec)

/-- 'laws.FnExactIsSafe', WHERE WHAT IT READS IS OF BULK AT MOST 1048576: true; the input reads as it did. -/
def fnExactIsSafeUptoRow : OpenClaim := { program := "ytehjicblchnknaa", sum := "56987c375957df415779cce7ebd03492267f00c9cf30dd8230d98c51593e8085", func := "loop.example/g01334/laws.FnExactIsSafe", spec := "fnExactIsSafe", unfollowed := true, recurses := true, apart := false, narrowed := true }
def FnExactIsSafeUptoSaid : Prop := fnExactIsSafeUptoRow.holds Try.pinned (OpenSpec.upto fnExactIsSafeSpec)

/-- 'laws.FnExactWeightsAbove', WHERE WHAT IT READS IS OF BULK AT MOST 1048576: true; the input reads as it did. -/
def fnExactWeightsAboveUptoRow : OpenClaim := { program := "ytehjicblchnknaa", sum := "56987c375957df415779cce7ebd03492267f00c9cf30dd8230d98c51593e8085", func := "loop.example/g01334/laws.FnExactWeightsAbove", spec := "fnExactWeightsAbove", unfollowed := true, recurses := true, apart := false, narrowed := true }
def FnExactWeightsAboveUptoSaid : Prop := fnExactWeightsAboveUptoRow.holds Try.pinned (OpenSpec.upto fnExactWeightsAboveSpec)

/-- 'laws.FnExactCanBearMore', WHERE WHAT IT READS IS OF BULK AT MOST 1048576: true; the input reads as it did. -/
def fnExactCanBearMoreUptoRow : OpenClaim := { program := "ytehjicblchnknaa", sum := "56987c375957df415779cce7ebd03492267f00c9cf30dd8230d98c51593e8085", func := "loop.example/g01334/laws.FnExactCanBearMore", spec := "fnExactCanBearMore", unfollowed := true, recurses := true, apart := false, narrowed := true }
def FnExactCanBearMoreUptoSaid : Prop := fnExactCanBearMoreUptoRow.holds Try.pinned (OpenSpec.upto fnExactCanBearMoreSpec)

end Rows
end Go.Proofs.Ytehjicblchnknaa
