/-
  No cell of these rows narrows 'for every input' (looked for: loops, veiled, ifaces, maps, wideKeys, modest, calm, conditions, laid).
  DERIVED. THE GIVEN ROWS OF THIS SEAT. 8 by the template 'for every input the law returns true; each argument reads behind the call as it read before'; 0 by the template 'total and deterministic' (their statements: YtkaihdpmjlhlaaaTotals.lean).
  GIVEN WITH THE SEED: the statements are not yours to turn. If you find one false, say at which input.
  Laid BY PROGRAM, IN A SANDBOX (cutbox-rows.mjs): the forced cells as the released guide's own fill.sh prints them over the translation 3e44525987e19472… (all of the seat's roots in one cut). By AI agents, Wed Nov 11 2026. No macro, syntax, notation, axiom, sorry.
-/
import Derived.Test.YtkaihdpmjlhlaaaChecked
import GoSem.Claim
import GoSem.ClaimJoined
import GoSem.ClaimMapViews
import Derived.JoinedTies
import Derived.KernelRfl
namespace Go.Proofs.Ytkaihdpmjlhlaaa
/- THE CELL 'sum', in the pinned program and in every row, IS THE sha256 OF THE DUMP (.gsa) THAT YtkaihdpmjlhlaaaProg.lean LOADS. Nothing in Lean hashes anything: it is a label: what it is worth is what the hold of that sum in a sandbox is worth. -/
noncomputable def Try.pinned : Pinned := { name := "ytkaihdpmjlhlaaa", sum := "3e44525987e194729bc42f73f4088520657a4b96c93e20c06292da5f2549d868", checked := Try.checked }
namespace Rows
def none {H : Type} : Left H := { results := [], args := [] }

/-- 'laws.FnExactGainOfBulk': WHATEVER THE INPUT: true; the input reads as it did. -/
def fnExactGainOfBulkSpec : ChangeSpec := { name := "fnExactGainOfBulk", fn := fun _ => fun
  | [d1, d2, d3] => { results := [.lit (.bool true)], args := [d1, d2, d3] }
  | _ => none }
def fnExactGainOfBulkRow : OpenClaim := { program := "ytkaihdpmjlhlaaa", sum := "3e44525987e194729bc42f73f4088520657a4b96c93e20c06292da5f2549d868", func := "loop.example/g01334/laws.FnExactGainOfBulk", spec := "fnExactGainOfBulk", unfollowed := true, recurses := true, apart := false }
def FnExactGainOfBulkSaid : Prop := fnExactGainOfBulkRow.holds Try.pinned (OpenSpec.ofChange fnExactGainOfBulkSpec)

/-- ITS FALSE NEIGHBOUR: 'it returns false'. Refute it at one input. -/
def fnExactGainOfBulkWrong : ChangeSpec := { name := "fnExactGainOfBulk", fn := fun _ => fun
  | [d1, d2, d3] => { results := [.lit (.bool false)], args := [d1, d2, d3] }
  | _ => none }
def FnExactGainOfBulkWrongFalsely : Prop := fnExactGainOfBulkRow.holds Try.pinned (OpenSpec.ofChange fnExactGainOfBulkWrong)

/-- 'laws.FnExactGainOfWeight': WHATEVER THE INPUT: true; the input reads as it did. -/
def fnExactGainOfWeightSpec : ChangeSpec := { name := "fnExactGainOfWeight", fn := fun _ => fun
  | [d1, d2, d3] => { results := [.lit (.bool true)], args := [d1, d2, d3] }
  | _ => none }
def fnExactGainOfWeightRow : OpenClaim := { program := "ytkaihdpmjlhlaaa", sum := "3e44525987e194729bc42f73f4088520657a4b96c93e20c06292da5f2549d868", func := "loop.example/g01334/laws.FnExactGainOfWeight", spec := "fnExactGainOfWeight", unfollowed := true, recurses := true, apart := false }
def FnExactGainOfWeightSaid : Prop := fnExactGainOfWeightRow.holds Try.pinned (OpenSpec.ofChange fnExactGainOfWeightSpec)

/-- ITS FALSE NEIGHBOUR: 'it returns false'. Refute it at one input. -/
def fnExactGainOfWeightWrong : ChangeSpec := { name := "fnExactGainOfWeight", fn := fun _ => fun
  | [d1, d2, d3] => { results := [.lit (.bool false)], args := [d1, d2, d3] }
  | _ => none }
def FnExactGainOfWeightWrongFalsely : Prop := fnExactGainOfWeightRow.holds Try.pinned (OpenSpec.ofChange fnExactGainOfWeightWrong)

/-- 'laws.FnExactMostPacked': WHATEVER THE INPUT: true; the input reads as it did. -/
def fnExactMostPackedSpec : ChangeSpec := { name := "fnExactMostPacked", fn := fun _ => fun
  | [d1, d2] => { results := [.lit (.bool true)], args := [d1, d2] }
  | _ => none }
def fnExactMostPackedRow : OpenClaim := { program := "ytkaihdpmjlhlaaa", sum := "3e44525987e194729bc42f73f4088520657a4b96c93e20c06292da5f2549d868", func := "loop.example/g01334/laws.FnExactMostPacked", spec := "fnExactMostPacked", unfollowed := true, recurses := true, apart := false }
def FnExactMostPackedSaid : Prop := fnExactMostPackedRow.holds Try.pinned (OpenSpec.ofChange fnExactMostPackedSpec)

/-- ITS FALSE NEIGHBOUR: 'it returns false'. Refute it at one input. -/
def fnExactMostPackedWrong : ChangeSpec := { name := "fnExactMostPacked", fn := fun _ => fun
  | [d1, d2] => { results := [.lit (.bool false)], args := [d1, d2] }
  | _ => none }
def FnExactMostPackedWrongFalsely : Prop := fnExactMostPackedRow.holds Try.pinned (OpenSpec.ofChange fnExactMostPackedWrong)

/-- 'laws.FnExactFirstPacked': WHATEVER THE INPUT: true; the input reads as it did. -/
def fnExactFirstPackedSpec : ChangeSpec := { name := "fnExactFirstPacked", fn := fun _ => fun
  | [d1, d2] => { results := [.lit (.bool true)], args := [d1, d2] }
  | _ => none }
def fnExactFirstPackedRow : OpenClaim := { program := "ytkaihdpmjlhlaaa", sum := "3e44525987e194729bc42f73f4088520657a4b96c93e20c06292da5f2549d868", func := "loop.example/g01334/laws.FnExactFirstPacked", spec := "fnExactFirstPacked", unfollowed := true, recurses := true, apart := false }
def FnExactFirstPackedSaid : Prop := fnExactFirstPackedRow.holds Try.pinned (OpenSpec.ofChange fnExactFirstPackedSpec)

/-- ITS FALSE NEIGHBOUR: 'it returns false'. Refute it at one input. -/
def fnExactFirstPackedWrong : ChangeSpec := { name := "fnExactFirstPacked", fn := fun _ => fun
  | [d1, d2] => { results := [.lit (.bool false)], args := [d1, d2] }
  | _ => none }
def FnExactFirstPackedWrongFalsely : Prop := fnExactFirstPackedRow.holds Try.pinned (OpenSpec.ofChange fnExactFirstPackedWrong)

/-- 'laws.FnExactBestExchange': WHATEVER THE INPUT: true; the input reads as it did. -/
def fnExactBestExchangeSpec : ChangeSpec := { name := "fnExactBestExchange", fn := fun _ => fun
  | [d1, d2, d3] => { results := [.lit (.bool true)], args := [d1, d2, d3] }
  | _ => none }
def fnExactBestExchangeRow : OpenClaim := { program := "ytkaihdpmjlhlaaa", sum := "3e44525987e194729bc42f73f4088520657a4b96c93e20c06292da5f2549d868", func := "loop.example/g01334/laws.FnExactBestExchange", spec := "fnExactBestExchange", unfollowed := true, recurses := true, apart := false }
def FnExactBestExchangeSaid : Prop := fnExactBestExchangeRow.holds Try.pinned (OpenSpec.ofChange fnExactBestExchangeSpec)

/-- ITS FALSE NEIGHBOUR: 'it returns false'. Refute it at one input. -/
def fnExactBestExchangeWrong : ChangeSpec := { name := "fnExactBestExchange", fn := fun _ => fun
  | [d1, d2, d3] => { results := [.lit (.bool false)], args := [d1, d2, d3] }
  | _ => none }
def FnExactBestExchangeWrongFalsely : Prop := fnExactBestExchangeRow.holds Try.pinned (OpenSpec.ofChange fnExactBestExchangeWrong)

/-- 'laws.FnExactAlwaysPacked': WHATEVER THE INPUT: true; the input reads as it did. -/
def fnExactAlwaysPackedSpec : ChangeSpec := { name := "fnExactAlwaysPacked", fn := fun _ => fun
  | [d1, d2] => { results := [.lit (.bool true)], args := [d1, d2] }
  | _ => none }
def fnExactAlwaysPackedRow : OpenClaim := { program := "ytkaihdpmjlhlaaa", sum := "3e44525987e194729bc42f73f4088520657a4b96c93e20c06292da5f2549d868", func := "loop.example/g01334/laws.FnExactAlwaysPacked", spec := "fnExactAlwaysPacked", unfollowed := true, recurses := true, apart := false }
def FnExactAlwaysPackedSaid : Prop := fnExactAlwaysPackedRow.holds Try.pinned (OpenSpec.ofChange fnExactAlwaysPackedSpec)

/-- ITS FALSE NEIGHBOUR: 'it returns false'. Refute it at one input. -/
def fnExactAlwaysPackedWrong : ChangeSpec := { name := "fnExactAlwaysPacked", fn := fun _ => fun
  | [d1, d2] => { results := [.lit (.bool false)], args := [d1, d2] }
  | _ => none }
def FnExactAlwaysPackedWrongFalsely : Prop := fnExactAlwaysPackedRow.holds Try.pinned (OpenSpec.ofChange fnExactAlwaysPackedWrong)

/-- 'laws.FnExactPackByValue': WHATEVER THE INPUT: true; the input reads as it did. -/
def fnExactPackByValueSpec : ChangeSpec := { name := "fnExactPackByValue", fn := fun _ => fun
  | [d1, d2] => { results := [.lit (.bool true)], args := [d1, d2] }
  | _ => none }
def fnExactPackByValueRow : OpenClaim := { program := "ytkaihdpmjlhlaaa", sum := "3e44525987e194729bc42f73f4088520657a4b96c93e20c06292da5f2549d868", func := "loop.example/g01334/laws.FnExactPackByValue", spec := "fnExactPackByValue", unfollowed := true, recurses := true, apart := false }
def FnExactPackByValueSaid : Prop := fnExactPackByValueRow.holds Try.pinned (OpenSpec.ofChange fnExactPackByValueSpec)

/-- ITS FALSE NEIGHBOUR: 'it returns false'. Refute it at one input. -/
def fnExactPackByValueWrong : ChangeSpec := { name := "fnExactPackByValue", fn := fun _ => fun
  | [d1, d2] => { results := [.lit (.bool false)], args := [d1, d2] }
  | _ => none }
def FnExactPackByValueWrongFalsely : Prop := fnExactPackByValueRow.holds Try.pinned (OpenSpec.ofChange fnExactPackByValueWrong)

/-- 'laws.FnExactPackByRatio': WHATEVER THE INPUT: true; the input reads as it did. -/
def fnExactPackByRatioSpec : ChangeSpec := { name := "fnExactPackByRatio", fn := fun _ => fun
  | [d1, d2] => { results := [.lit (.bool true)], args := [d1, d2] }
  | _ => none }
def fnExactPackByRatioRow : OpenClaim := { program := "ytkaihdpmjlhlaaa", sum := "3e44525987e194729bc42f73f4088520657a4b96c93e20c06292da5f2549d868", func := "loop.example/g01334/laws.FnExactPackByRatio", spec := "fnExactPackByRatio", unfollowed := true, recurses := true, apart := false }
def FnExactPackByRatioSaid : Prop := fnExactPackByRatioRow.holds Try.pinned (OpenSpec.ofChange fnExactPackByRatioSpec)

/-- ITS FALSE NEIGHBOUR: 'it returns false'. Refute it at one input. -/
def fnExactPackByRatioWrong : ChangeSpec := { name := "fnExactPackByRatio", fn := fun _ => fun
  | [d1, d2] => { results := [.lit (.bool false)], args := [d1, d2] }
  | _ => none }
def FnExactPackByRatioWrongFalsely : Prop := fnExactPackByRatioRow.holds Try.pinned (OpenSpec.ofChange fnExactPackByRatioWrong)

/- THE SECOND FORM. 'bulk': how many values and letters a reading holds, each counted each time it is reached (what is shared counts as often as it is met; a slice's spare places count too). A statement '..UptoSaid' is the law's where the arguments, and the package variables that the reading takes, are together of bulk at most 1048576: NARROWER than '..Said'. Prove '..Said' where nothing that the law and all that it calls make is longer than what came in: it says more and counts as full. Else prove '..UptoSaid'. A law counts once. -/
mutual
def uptoBulk {H : Type} : DataW H → Nat
  | .lit (.string bytes) => bytes.length + 1
  | .lit _ => 1
  | .nil => 1
  | .ptr d => uptoBulk d + 1
  | .slice elems spare => uptoBulkAll elems + uptoBulkAll spare + 1
  | .agg parts => uptoBulkAll parts + 1
  | .iface _ d => uptoBulk d + 1
  | .map entries => uptoBulkEntries entries + 1
  | .held _ => 1
def uptoBulkAll {H : Type} : List (DataW H) → Nat
  | [] => 0
  | d :: r => uptoBulk d + uptoBulkAll r
def uptoBulkEntries {H : Type} : List (Lit × DataW H) → Nat
  | [] => 0
  | x :: r => uptoBulkEntry x + uptoBulkEntries r
def uptoBulkEntry {H : Type} : Lit × DataW H → Nat
  | (.string bytes, d) => bytes.length + uptoBulk d + 1
  | (_, d) => uptoBulk d + 1
 end
def uptoSmall : (H : Type) → List (DataW H) → Bool := fun _ ds => decide (uptoBulkAll ds ≤ 1048576)
def OpenSpec.upto (s : _root_.Go.ChangeSpec) : _root_.Go.OpenSpec := { _root_.Go.OpenSpec.ofChange s with cond := some uptoSmall }

/-- 'laws.FnExactGainOfBulk', WHERE WHAT IT READS IS OF BULK AT MOST 1048576: true; the input reads as it did. -/
def fnExactGainOfBulkUptoRow : OpenClaim := { program := "ytkaihdpmjlhlaaa", sum := "3e44525987e194729bc42f73f4088520657a4b96c93e20c06292da5f2549d868", func := "loop.example/g01334/laws.FnExactGainOfBulk", spec := "fnExactGainOfBulk", unfollowed := true, recurses := true, apart := false, narrowed := true }
def FnExactGainOfBulkUptoSaid : Prop := fnExactGainOfBulkUptoRow.holds Try.pinned (OpenSpec.upto fnExactGainOfBulkSpec)

/-- 'laws.FnExactGainOfWeight', WHERE WHAT IT READS IS OF BULK AT MOST 1048576: true; the input reads as it did. -/
def fnExactGainOfWeightUptoRow : OpenClaim := { program := "ytkaihdpmjlhlaaa", sum := "3e44525987e194729bc42f73f4088520657a4b96c93e20c06292da5f2549d868", func := "loop.example/g01334/laws.FnExactGainOfWeight", spec := "fnExactGainOfWeight", unfollowed := true, recurses := true, apart := false, narrowed := true }
def FnExactGainOfWeightUptoSaid : Prop := fnExactGainOfWeightUptoRow.holds Try.pinned (OpenSpec.upto fnExactGainOfWeightSpec)

/-- 'laws.FnExactMostPacked', WHERE WHAT IT READS IS OF BULK AT MOST 1048576: true; the input reads as it did. -/
def fnExactMostPackedUptoRow : OpenClaim := { program := "ytkaihdpmjlhlaaa", sum := "3e44525987e194729bc42f73f4088520657a4b96c93e20c06292da5f2549d868", func := "loop.example/g01334/laws.FnExactMostPacked", spec := "fnExactMostPacked", unfollowed := true, recurses := true, apart := false, narrowed := true }
def FnExactMostPackedUptoSaid : Prop := fnExactMostPackedUptoRow.holds Try.pinned (OpenSpec.upto fnExactMostPackedSpec)

/-- 'laws.FnExactFirstPacked', WHERE WHAT IT READS IS OF BULK AT MOST 1048576: true; the input reads as it did. -/
def fnExactFirstPackedUptoRow : OpenClaim := { program := "ytkaihdpmjlhlaaa", sum := "3e44525987e194729bc42f73f4088520657a4b96c93e20c06292da5f2549d868", func := "loop.example/g01334/laws.FnExactFirstPacked", spec := "fnExactFirstPacked", unfollowed := true, recurses := true, apart := false, narrowed := true }
def FnExactFirstPackedUptoSaid : Prop := fnExactFirstPackedUptoRow.holds Try.pinned (OpenSpec.upto fnExactFirstPackedSpec)

/-- 'laws.FnExactBestExchange', WHERE WHAT IT READS IS OF BULK AT MOST 1048576: true; the input reads as it did. -/
def fnExactBestExchangeUptoRow : OpenClaim := { program := "ytkaihdpmjlhlaaa", sum := "3e44525987e194729bc42f73f4088520657a4b96c93e20c06292da5f2549d868", func := "loop.example/g01334/laws.FnExactBestExchange", spec := "fnExactBestExchange", unfollowed := true, recurses := true, apart := false, narrowed := true }
def FnExactBestExchangeUptoSaid : Prop := fnExactBestExchangeUptoRow.holds Try.pinned (OpenSpec.upto fnExactBestExchangeSpec)

/-- 'laws.FnExactAlwaysPacked', WHERE WHAT IT READS IS OF BULK AT MOST 1048576: true; the input reads as it did. -/
def fnExactAlwaysPackedUptoRow : OpenClaim := { program := "ytkaihdpmjlhlaaa", sum := "3e44525987e194729bc42f73f4088520657a4b96c93e20c06292da5f2549d868", func := "loop.example/g01334/laws.FnExactAlwaysPacked", spec := "fnExactAlwaysPacked", unfollowed := true, recurses := true, apart := false, narrowed := true }
def FnExactAlwaysPackedUptoSaid : Prop := fnExactAlwaysPackedUptoRow.holds Try.pinned (OpenSpec.upto fnExactAlwaysPackedSpec)

/-- 'laws.FnExactPackByValue', WHERE WHAT IT READS IS OF BULK AT MOST 1048576: true; the input reads as it did. -/
def fnExactPackByValueUptoRow : OpenClaim := { program := "ytkaihdpmjlhlaaa", sum := "3e44525987e194729bc42f73f4088520657a4b96c93e20c06292da5f2549d868", func := "loop.example/g01334/laws.FnExactPackByValue", spec := "fnExactPackByValue", unfollowed := true, recurses := true, apart := false, narrowed := true }
def FnExactPackByValueUptoSaid : Prop := fnExactPackByValueUptoRow.holds Try.pinned (OpenSpec.upto fnExactPackByValueSpec)

/-- 'laws.FnExactPackByRatio', WHERE WHAT IT READS IS OF BULK AT MOST 1048576: true; the input reads as it did. -/
def fnExactPackByRatioUptoRow : OpenClaim := { program := "ytkaihdpmjlhlaaa", sum := "3e44525987e194729bc42f73f4088520657a4b96c93e20c06292da5f2549d868", func := "loop.example/g01334/laws.FnExactPackByRatio", spec := "fnExactPackByRatio", unfollowed := true, recurses := true, apart := false, narrowed := true }
def FnExactPackByRatioUptoSaid : Prop := fnExactPackByRatioUptoRow.holds Try.pinned (OpenSpec.upto fnExactPackByRatioSpec)

end Rows
end Go.Proofs.Ytkaihdpmjlhlaaa
