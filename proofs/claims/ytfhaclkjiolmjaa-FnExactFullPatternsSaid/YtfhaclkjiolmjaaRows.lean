/-
  No cell of these rows narrows 'for every input' (looked for: loops, veiled, ifaces, maps, wideKeys, modest, calm, conditions, laid).
  DERIVED. THE GIVEN ROWS OF THIS SEAT. 7 by the template 'for every input the law returns true; each argument reads behind the call as it read before'; 0 by the template 'total and deterministic' (their statements: YtfhaclkjiolmjaaTotals.lean).
  GIVEN WITH THE SEED: the statements are not yours to turn. If you find one false, say at which input.
  Laid BY PROGRAM, IN A SANDBOX (cutbox-rows.mjs): the forced cells as the released guide's own fill.sh prints them over the translation 2ed1732c481b3056… (all of the seat's roots in one cut). By AI agents, Wed Nov 11 2026. No macro, syntax, notation, axiom, sorry.
-/
import Derived.Test.YtfhaclkjiolmjaaChecked
import GoSem.Claim
import GoSem.ClaimJoined
import GoSem.ClaimMapViews
import Derived.JoinedTies
import Derived.KernelRfl
namespace Go.Proofs.Ytfhaclkjiolmjaa
/- THE CELL 'sum', in the pinned program and in every row, IS THE sha256 OF THE DUMP (.gsa) THAT YtfhaclkjiolmjaaProg.lean LOADS. Nothing in Lean hashes anything: it is a label: what it is worth is what the hold of that sum in a sandbox is worth. -/
noncomputable def Try.pinned : Pinned := { name := "ytfhaclkjiolmjaa", sum := "2ed1732c481b305666fb9dcd784fb8fb4e398f0136ef31a5979f473feaf454ce", checked := Try.checked }
namespace Rows
def none {H : Type} : Left H := { results := [], args := [] }

/-- 'laws.FnExactLeastWaste': WHATEVER THE INPUT: true; the input reads as it did. -/
def fnExactLeastWasteSpec : ChangeSpec := { name := "fnExactLeastWaste", fn := fun _ => fun
  | [d1, d2] => { results := [.lit (.bool true)], args := [d1, d2] }
  | _ => none }
def fnExactLeastWasteRow : OpenClaim := { program := "ytfhaclkjiolmjaa", sum := "2ed1732c481b305666fb9dcd784fb8fb4e398f0136ef31a5979f473feaf454ce", func := "loop.example/g01334/laws.FnExactLeastWaste", spec := "fnExactLeastWaste", unfollowed := true, recurses := true, apart := false }
def FnExactLeastWasteSaid : Prop := fnExactLeastWasteRow.holds Try.pinned (OpenSpec.ofChange fnExactLeastWasteSpec)

/-- ITS FALSE NEIGHBOUR: 'it returns false'. Refute it at one input. -/
def fnExactLeastWasteWrong : ChangeSpec := { name := "fnExactLeastWaste", fn := fun _ => fun
  | [d1, d2] => { results := [.lit (.bool false)], args := [d1, d2] }
  | _ => none }
def FnExactLeastWasteWrongFalsely : Prop := fnExactLeastWasteRow.holds Try.pinned (OpenSpec.ofChange fnExactLeastWasteWrong)

/-- 'laws.FnExactFullPatterns': WHATEVER THE INPUT: true; the input reads as it did. -/
def fnExactFullPatternsSpec : ChangeSpec := { name := "fnExactFullPatterns", fn := fun _ => fun
  | [d1, d2] => { results := [.lit (.bool true)], args := [d1, d2] }
  | _ => none }
def fnExactFullPatternsRow : OpenClaim := { program := "ytfhaclkjiolmjaa", sum := "2ed1732c481b305666fb9dcd784fb8fb4e398f0136ef31a5979f473feaf454ce", func := "loop.example/g01334/laws.FnExactFullPatterns", spec := "fnExactFullPatterns", unfollowed := true, recurses := true, apart := false }
def FnExactFullPatternsSaid : Prop := fnExactFullPatternsRow.holds Try.pinned (OpenSpec.ofChange fnExactFullPatternsSpec)

/-- ITS FALSE NEIGHBOUR: 'it returns false'. Refute it at one input. -/
def fnExactFullPatternsWrong : ChangeSpec := { name := "fnExactFullPatterns", fn := fun _ => fun
  | [d1, d2] => { results := [.lit (.bool false)], args := [d1, d2] }
  | _ => none }
def FnExactFullPatternsWrongFalsely : Prop := fnExactFullPatternsRow.holds Try.pinned (OpenSpec.ofChange fnExactFullPatternsWrong)

/-- 'laws.FnExactLeftOver': WHATEVER THE INPUT: true; the input reads as it did. -/
def fnExactLeftOverSpec : ChangeSpec := { name := "fnExactLeftOver", fn := fun _ => fun
  | [d1, d2] => { results := [.lit (.bool true)], args := [d1, d2] }
  | _ => none }
def fnExactLeftOverRow : OpenClaim := { program := "ytfhaclkjiolmjaa", sum := "2ed1732c481b305666fb9dcd784fb8fb4e398f0136ef31a5979f473feaf454ce", func := "loop.example/g01334/laws.FnExactLeftOver", spec := "fnExactLeftOver", unfollowed := true, recurses := true, apart := false }
def FnExactLeftOverSaid : Prop := fnExactLeftOverRow.holds Try.pinned (OpenSpec.ofChange fnExactLeftOverSpec)

/-- ITS FALSE NEIGHBOUR: 'it returns false'. Refute it at one input. -/
def fnExactLeftOverWrong : ChangeSpec := { name := "fnExactLeftOver", fn := fun _ => fun
  | [d1, d2] => { results := [.lit (.bool false)], args := [d1, d2] }
  | _ => none }
def FnExactLeftOverWrongFalsely : Prop := fnExactLeftOverRow.holds Try.pinned (OpenSpec.ofChange fnExactLeftOverWrong)

/-- 'laws.FnExactLongestFirstRods': WHATEVER THE INPUT: true; the input reads as it did. -/
def fnExactLongestFirstRodsSpec : ChangeSpec := { name := "fnExactLongestFirstRods", fn := fun _ => fun
  | [d1, d2, d3] => { results := [.lit (.bool true)], args := [d1, d2, d3] }
  | _ => none }
def fnExactLongestFirstRodsRow : OpenClaim := { program := "ytfhaclkjiolmjaa", sum := "2ed1732c481b305666fb9dcd784fb8fb4e398f0136ef31a5979f473feaf454ce", func := "loop.example/g01334/laws.FnExactLongestFirstRods", spec := "fnExactLongestFirstRods", unfollowed := true, recurses := true, apart := false }
def FnExactLongestFirstRodsSaid : Prop := fnExactLongestFirstRodsRow.holds Try.pinned (OpenSpec.ofChange fnExactLongestFirstRodsSpec)

/-- ITS FALSE NEIGHBOUR: 'it returns false'. Refute it at one input. -/
def fnExactLongestFirstRodsWrong : ChangeSpec := { name := "fnExactLongestFirstRods", fn := fun _ => fun
  | [d1, d2, d3] => { results := [.lit (.bool false)], args := [d1, d2, d3] }
  | _ => none }
def FnExactLongestFirstRodsWrongFalsely : Prop := fnExactLongestFirstRodsRow.holds Try.pinned (OpenSpec.ofChange fnExactLongestFirstRodsWrong)

/-- 'laws.FnExactFewestRods': WHATEVER THE INPUT: true; the input reads as it did. -/
def fnExactFewestRodsSpec : ChangeSpec := { name := "fnExactFewestRods", fn := fun _ => fun
  | [d1, d2, d3] => { results := [.lit (.bool true)], args := [d1, d2, d3] }
  | _ => none }
def fnExactFewestRodsRow : OpenClaim := { program := "ytfhaclkjiolmjaa", sum := "2ed1732c481b305666fb9dcd784fb8fb4e398f0136ef31a5979f473feaf454ce", func := "loop.example/g01334/laws.FnExactFewestRods", spec := "fnExactFewestRods", unfollowed := true, recurses := true, apart := false }
def FnExactFewestRodsSaid : Prop := fnExactFewestRodsRow.holds Try.pinned (OpenSpec.ofChange fnExactFewestRodsSpec)

/-- ITS FALSE NEIGHBOUR: 'it returns false'. Refute it at one input. -/
def fnExactFewestRodsWrong : ChangeSpec := { name := "fnExactFewestRods", fn := fun _ => fun
  | [d1, d2, d3] => { results := [.lit (.bool false)], args := [d1, d2, d3] }
  | _ => none }
def FnExactFewestRodsWrongFalsely : Prop := fnExactFewestRodsRow.holds Try.pinned (OpenSpec.ofChange fnExactFewestRodsWrong)

/-- 'laws.FnExactFirstRods': WHATEVER THE INPUT: true; the input reads as it did. -/
def fnExactFirstRodsSpec : ChangeSpec := { name := "fnExactFirstRods", fn := fun _ => fun
  | [d1, d2, d3] => { results := [.lit (.bool true)], args := [d1, d2, d3] }
  | _ => none }
def fnExactFirstRodsRow : OpenClaim := { program := "ytfhaclkjiolmjaa", sum := "2ed1732c481b305666fb9dcd784fb8fb4e398f0136ef31a5979f473feaf454ce", func := "loop.example/g01334/laws.FnExactFirstRods", spec := "fnExactFirstRods", unfollowed := true, recurses := true, apart := false }
def FnExactFirstRodsSaid : Prop := fnExactFirstRodsRow.holds Try.pinned (OpenSpec.ofChange fnExactFirstRodsSpec)

/-- ITS FALSE NEIGHBOUR: 'it returns false'. Refute it at one input. -/
def fnExactFirstRodsWrong : ChangeSpec := { name := "fnExactFirstRods", fn := fun _ => fun
  | [d1, d2, d3] => { results := [.lit (.bool false)], args := [d1, d2, d3] }
  | _ => none }
def FnExactFirstRodsWrongFalsely : Prop := fnExactFirstRodsRow.holds Try.pinned (OpenSpec.ofChange fnExactFirstRodsWrong)

/-- 'laws.FnRodsCut': WHATEVER THE INPUT: true; the input reads as it did. -/
def fnRodsCutSpec : ChangeSpec := { name := "fnRodsCut", fn := fun _ => fun
  | [d1, d2] => { results := [.lit (.bool true)], args := [d1, d2] }
  | _ => none }
def fnRodsCutRow : OpenClaim := { program := "ytfhaclkjiolmjaa", sum := "2ed1732c481b305666fb9dcd784fb8fb4e398f0136ef31a5979f473feaf454ce", func := "loop.example/g01334/laws.FnRodsCut", spec := "fnRodsCut", unfollowed := true, recurses := true, apart := false }
def FnRodsCutSaid : Prop := fnRodsCutRow.holds Try.pinned (OpenSpec.ofChange fnRodsCutSpec)

/-- ITS FALSE NEIGHBOUR: 'it returns false'. Refute it at one input. -/
def fnRodsCutWrong : ChangeSpec := { name := "fnRodsCut", fn := fun _ => fun
  | [d1, d2] => { results := [.lit (.bool false)], args := [d1, d2] }
  | _ => none }
def FnRodsCutWrongFalsely : Prop := fnRodsCutRow.holds Try.pinned (OpenSpec.ofChange fnRodsCutWrong)

/- THE SECOND FORM. 'bulk': how many values and letters a reading holds, each counted each time it is reached (what is shared counts as often as it is met; a slice's spare places count too). A statement '..UptoSaid' is the law's where the arguments, and the package variables that the reading takes, are together of bulk at most 1048576: NARROWER than '..Said'. Prove '..Said' where nothing that the law and all that it calls make is longer than what came in: it says more and counts as full. Else prove '..UptoSaid'. A law counts once. -/
mutual
def uptoBulk {H : Type} : DataW H → Nat
  | .lit (.string bytes) => bytes.length + 1
  | .lit _ => 1
  | .nil => 1
  | .ptr d => uptoBulk d + 1
  | .slice elems spare => uptoBulkAll elems + uptoBulkAll spare + 1
  | .agg parts => uptoBulkAll parts + 1
  | .iface _ d => uptoBulk d + 1
  | .map entries => uptoBulkEntries entries + 1
  | .held _ => 1
def uptoBulkAll {H : Type} : List (DataW H) → Nat
  | [] => 0
  | d :: r => uptoBulk d + uptoBulkAll r
def uptoBulkEntries {H : Type} : List (Lit × DataW H) → Nat
  | [] => 0
  | x :: r => uptoBulkEntry x + uptoBulkEntries r
def uptoBulkEntry {H : Type} : Lit × DataW H → Nat
  | (.string bytes, d) => bytes.length + uptoBulk d + 1
  | (_, d) => uptoBulk d + 1
 end
def uptoSmall : (H : Type) → List (DataW H) → Bool := fun _ ds => decide (uptoBulkAll ds ≤ 1048576)
def OpenSpec.upto (s : _root_.Go.ChangeSpec) : _root_.Go.OpenSpec := { _root_.Go.OpenSpec.ofChange s with cond := some uptoSmall }

/-- 'laws.FnExactLeastWaste', WHERE WHAT IT READS IS OF BULK AT MOST 1048576: true; the input reads as it did. -/
def fnExactLeastWasteUptoRow : OpenClaim := { program := "ytfhaclkjiolmjaa", sum := "2ed1732c481b305666fb9dcd784fb8fb4e398f0136ef31a5979f473feaf454ce", func := "loop.example/g01334/laws.FnExactLeastWaste", spec := "fnExactLeastWaste", unfollowed := true, recurses := true, apart := false, narrowed := true }
def FnExactLeastWasteUptoSaid : Prop := fnExactLeastWasteUptoRow.holds Try.pinned (OpenSpec.upto fnExactLeastWasteSpec)

/-- 'laws.FnExactFullPatterns', WHERE WHAT IT READS IS OF BULK AT MOST 1048576: true; the input reads as it did. -/
def fnExactFullPatternsUptoRow : OpenClaim := { program := "ytfhaclkjiolmjaa", sum := "2ed1732c481b305666fb9dcd784fb8fb4e398f0136ef31a5979f473feaf454ce", func := "loop.example/g01334/laws.FnExactFullPatterns", spec := "fnExactFullPatterns", unfollowed := true, recurses := true, apart := false, narrowed := true }
def FnExactFullPatternsUptoSaid : Prop := fnExactFullPatternsUptoRow.holds Try.pinned (OpenSpec.upto fnExactFullPatternsSpec)

/-- 'laws.FnExactLeftOver', WHERE WHAT IT READS IS OF BULK AT MOST 1048576: true; the input reads as it did. -/
def fnExactLeftOverUptoRow : OpenClaim := { program := "ytfhaclkjiolmjaa", sum := "2ed1732c481b305666fb9dcd784fb8fb4e398f0136ef31a5979f473feaf454ce", func := "loop.example/g01334/laws.FnExactLeftOver", spec := "fnExactLeftOver", unfollowed := true, recurses := true, apart := false, narrowed := true }
def FnExactLeftOverUptoSaid : Prop := fnExactLeftOverUptoRow.holds Try.pinned (OpenSpec.upto fnExactLeftOverSpec)

/-- 'laws.FnExactLongestFirstRods', WHERE WHAT IT READS IS OF BULK AT MOST 1048576: true; the input reads as it did. -/
def fnExactLongestFirstRodsUptoRow : OpenClaim := { program := "ytfhaclkjiolmjaa", sum := "2ed1732c481b305666fb9dcd784fb8fb4e398f0136ef31a5979f473feaf454ce", func := "loop.example/g01334/laws.FnExactLongestFirstRods", spec := "fnExactLongestFirstRods", unfollowed := true, recurses := true, apart := false, narrowed := true }
def FnExactLongestFirstRodsUptoSaid : Prop := fnExactLongestFirstRodsUptoRow.holds Try.pinned (OpenSpec.upto fnExactLongestFirstRodsSpec)

/-- 'laws.FnExactFewestRods', WHERE WHAT IT READS IS OF BULK AT MOST 1048576: true; the input reads as it did. -/
def fnExactFewestRodsUptoRow : OpenClaim := { program := "ytfhaclkjiolmjaa", sum := "2ed1732c481b305666fb9dcd784fb8fb4e398f0136ef31a5979f473feaf454ce", func := "loop.example/g01334/laws.FnExactFewestRods", spec := "fnExactFewestRods", unfollowed := true, recurses := true, apart := false, narrowed := true }
def FnExactFewestRodsUptoSaid : Prop := fnExactFewestRodsUptoRow.holds Try.pinned (OpenSpec.upto fnExactFewestRodsSpec)

/-- 'laws.FnExactFirstRods', WHERE WHAT IT READS IS OF BULK AT MOST 1048576: true; the input reads as it did. -/
def fnExactFirstRodsUptoRow : OpenClaim := { program := "ytfhaclkjiolmjaa", sum := "2ed1732c481b305666fb9dcd784fb8fb4e398f0136ef31a5979f473feaf454ce", func := "loop.example/g01334/laws.FnExactFirstRods", spec := "fnExactFirstRods", unfollowed := true, recurses := true, apart := false, narrowed := true }
def FnExactFirstRodsUptoSaid : Prop := fnExactFirstRodsUptoRow.holds Try.pinned (OpenSpec.upto fnExactFirstRodsSpec)

/-- 'laws.FnRodsCut', WHERE WHAT IT READS IS OF BULK AT MOST 1048576: true; the input reads as it did. -/
def fnRodsCutUptoRow : OpenClaim := { program := "ytfhaclkjiolmjaa", sum := "2ed1732c481b305666fb9dcd784fb8fb4e398f0136ef31a5979f473feaf454ce", func := "loop.example/g01334/laws.FnRodsCut", spec := "fnRodsCut", unfollowed := true, recurses := true, apart := false, narrowed := true }
def FnRodsCutUptoSaid : Prop := fnRodsCutUptoRow.holds Try.pinned (OpenSpec.upto fnRodsCutSpec)

end Rows
end Go.Proofs.Ytfhaclkjiolmjaa
