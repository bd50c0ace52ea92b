/-
  No cell of these rows narrows 'for every input' (looked for: loops, veiled, ifaces, maps, wideKeys, modest, calm, conditions, laid).
  DERIVED. THE GIVEN ROWS OF THIS SEAT. 9 by the template 'for every input the law returns true; each argument reads behind the call as it read before'; 0 by the template 'total and deterministic' (their statements: YtgghcngfleicnaaTotals.lean).
  GIVEN WITH THE SEED: the statements are not yours to turn. If you find one false, say at which input.
  Laid BY PROGRAM, IN A SANDBOX (cutbox-rows.mjs): the forced cells as the released guide's own fill.sh prints them over the translation d180f3691c433d7c… (all of the seat's roots in one cut). By AI agents, Wed Nov 11 2026. No macro, syntax, notation, axiom, sorry.
-/
import Derived.Test.YtgghcngfleicnaaChecked
import GoSem.Claim
import GoSem.ClaimJoined
import GoSem.ClaimMapViews
import Derived.JoinedTies
import Derived.KernelRfl
namespace Go.Proofs.Ytgghcngfleicnaa
/- THE CELL 'sum', in the pinned program and in every row, IS THE sha256 OF THE DUMP (.gsa) THAT YtgghcngfleicnaaProg.lean LOADS. Nothing in Lean hashes anything: it is a label: what it is worth is what the hold of that sum in a sandbox is worth. -/
noncomputable def Try.pinned : Pinned := { name := "ytgghcngfleicnaa", sum := "d180f3691c433d7c19434eb9bf60e9be930bbf9ceca673e297b85cdefe089a94", checked := Try.checked }
namespace Rows
def none {H : Type} : Left H := { results := [], args := [] }

/-- 'laws.FnExactAreItems': WHATEVER THE INPUT: true; the input reads as it did. -/
def fnExactAreItemsSpec : ChangeSpec := { name := "fnExactAreItems", fn := fun _ => fun
  | [d] => { results := [.lit (.bool true)], args := [d] }
  | _ => none }
def fnExactAreItemsRow : OpenClaim := { program := "ytgghcngfleicnaa", sum := "d180f3691c433d7c19434eb9bf60e9be930bbf9ceca673e297b85cdefe089a94", func := "loop.example/g01334/laws.FnExactAreItems", spec := "fnExactAreItems", unfollowed := true, recurses := true, apart := false }
def FnExactAreItemsSaid : Prop := fnExactAreItemsRow.holds Try.pinned (OpenSpec.ofChange fnExactAreItemsSpec)

/-- ITS FALSE NEIGHBOUR: 'it returns false'. Refute it at one input. -/
def fnExactAreItemsWrong : ChangeSpec := { name := "fnExactAreItems", fn := fun _ => fun
  | [d] => { results := [.lit (.bool false)], args := [d] }
  | _ => none }
def FnExactAreItemsWrongFalsely : Prop := fnExactAreItemsRow.holds Try.pinned (OpenSpec.ofChange fnExactAreItemsWrong)

/-- 'laws.FnExactNeverNeeded': WHATEVER THE INPUT: true; the input reads as it did. -/
def fnExactNeverNeededSpec : ChangeSpec := { name := "fnExactNeverNeeded", fn := fun _ => fun
  | [d] => { results := [.lit (.bool true)], args := [d] }
  | _ => none }
def fnExactNeverNeededRow : OpenClaim := { program := "ytgghcngfleicnaa", sum := "d180f3691c433d7c19434eb9bf60e9be930bbf9ceca673e297b85cdefe089a94", func := "loop.example/g01334/laws.FnExactNeverNeeded", spec := "fnExactNeverNeeded", unfollowed := true, recurses := true, apart := false }
def FnExactNeverNeededSaid : Prop := fnExactNeverNeededRow.holds Try.pinned (OpenSpec.ofChange fnExactNeverNeededSpec)

/-- ITS FALSE NEIGHBOUR: 'it returns false'. Refute it at one input. -/
def fnExactNeverNeededWrong : ChangeSpec := { name := "fnExactNeverNeeded", fn := fun _ => fun
  | [d] => { results := [.lit (.bool false)], args := [d] }
  | _ => none }
def FnExactNeverNeededWrongFalsely : Prop := fnExactNeverNeededRow.holds Try.pinned (OpenSpec.ofChange fnExactNeverNeededWrong)

/-- 'laws.FnExactIsChoice': WHATEVER THE INPUT: true; the input reads as it did. -/
def fnExactIsChoiceSpec : ChangeSpec := { name := "fnExactIsChoice", fn := fun _ => fun
  | [d1, d2, d3] => { results := [.lit (.bool true)], args := [d1, d2, d3] }
  | _ => none }
def fnExactIsChoiceRow : OpenClaim := { program := "ytgghcngfleicnaa", sum := "d180f3691c433d7c19434eb9bf60e9be930bbf9ceca673e297b85cdefe089a94", func := "loop.example/g01334/laws.FnExactIsChoice", spec := "fnExactIsChoice", unfollowed := true, recurses := true, apart := false }
def FnExactIsChoiceSaid : Prop := fnExactIsChoiceRow.holds Try.pinned (OpenSpec.ofChange fnExactIsChoiceSpec)

/-- ITS FALSE NEIGHBOUR: 'it returns false'. Refute it at one input. -/
def fnExactIsChoiceWrong : ChangeSpec := { name := "fnExactIsChoice", fn := fun _ => fun
  | [d1, d2, d3] => { results := [.lit (.bool false)], args := [d1, d2, d3] }
  | _ => none }
def FnExactIsChoiceWrongFalsely : Prop := fnExactIsChoiceRow.holds Try.pinned (OpenSpec.ofChange fnExactIsChoiceWrong)

/-- 'laws.FnExactCountChoices': WHATEVER THE INPUT: true; the input reads as it did. -/
def fnExactCountChoicesSpec : ChangeSpec := { name := "fnExactCountChoices", fn := fun _ => fun
  | [d1, d2] => { results := [.lit (.bool true)], args := [d1, d2] }
  | _ => none }
def fnExactCountChoicesRow : OpenClaim := { program := "ytgghcngfleicnaa", sum := "d180f3691c433d7c19434eb9bf60e9be930bbf9ceca673e297b85cdefe089a94", func := "loop.example/g01334/laws.FnExactCountChoices", spec := "fnExactCountChoices", unfollowed := true, recurses := true, apart := false }
def FnExactCountChoicesSaid : Prop := fnExactCountChoicesRow.holds Try.pinned (OpenSpec.ofChange fnExactCountChoicesSpec)

/-- ITS FALSE NEIGHBOUR: 'it returns false'. Refute it at one input. -/
def fnExactCountChoicesWrong : ChangeSpec := { name := "fnExactCountChoices", fn := fun _ => fun
  | [d1, d2] => { results := [.lit (.bool false)], args := [d1, d2] }
  | _ => none }
def FnExactCountChoicesWrongFalsely : Prop := fnExactCountChoicesRow.holds Try.pinned (OpenSpec.ofChange fnExactCountChoicesWrong)

/-- 'laws.FnExactTotalsOf': WHATEVER THE INPUT: true; the input reads as it did. -/
def fnExactTotalsOfSpec : ChangeSpec := { name := "fnExactTotalsOf", fn := fun _ => fun
  | [d1, d2] => { results := [.lit (.bool true)], args := [d1, d2] }
  | _ => none }
def fnExactTotalsOfRow : OpenClaim := { program := "ytgghcngfleicnaa", sum := "d180f3691c433d7c19434eb9bf60e9be930bbf9ceca673e297b85cdefe089a94", func := "loop.example/g01334/laws.FnExactTotalsOf", spec := "fnExactTotalsOf", unfollowed := true, recurses := true, apart := false }
def FnExactTotalsOfSaid : Prop := fnExactTotalsOfRow.holds Try.pinned (OpenSpec.ofChange fnExactTotalsOfSpec)

/-- ITS FALSE NEIGHBOUR: 'it returns false'. Refute it at one input. -/
def fnExactTotalsOfWrong : ChangeSpec := { name := "fnExactTotalsOf", fn := fun _ => fun
  | [d1, d2] => { results := [.lit (.bool false)], args := [d1, d2] }
  | _ => none }
def FnExactTotalsOfWrongFalsely : Prop := fnExactTotalsOfRow.holds Try.pinned (OpenSpec.ofChange fnExactTotalsOfWrong)

/-- 'laws.FnExactTwoCases': WHATEVER THE INPUT: true; the input reads as it did. -/
def fnExactTwoCasesSpec : ChangeSpec := { name := "fnExactTwoCases", fn := fun _ => fun
  | [d1, d2, d3] => { results := [.lit (.bool true)], args := [d1, d2, d3] }
  | _ => none }
def fnExactTwoCasesRow : OpenClaim := { program := "ytgghcngfleicnaa", sum := "d180f3691c433d7c19434eb9bf60e9be930bbf9ceca673e297b85cdefe089a94", func := "loop.example/g01334/laws.FnExactTwoCases", spec := "fnExactTwoCases", unfollowed := true, recurses := true, apart := false }
def FnExactTwoCasesSaid : Prop := fnExactTwoCasesRow.holds Try.pinned (OpenSpec.ofChange fnExactTwoCasesSpec)

/-- ITS FALSE NEIGHBOUR: 'it returns false'. Refute it at one input. -/
def fnExactTwoCasesWrong : ChangeSpec := { name := "fnExactTwoCases", fn := fun _ => fun
  | [d1, d2, d3] => { results := [.lit (.bool false)], args := [d1, d2, d3] }
  | _ => none }
def FnExactTwoCasesWrongFalsely : Prop := fnExactTwoCasesRow.holds Try.pinned (OpenSpec.ofChange fnExactTwoCasesWrong)

/-- 'laws.FnExactBestPacked': WHATEVER THE INPUT: true; the input reads as it did. -/
def fnExactBestPackedSpec : ChangeSpec := { name := "fnExactBestPacked", fn := fun _ => fun
  | [d1, d2] => { results := [.lit (.bool true)], args := [d1, d2] }
  | _ => none }
def fnExactBestPackedRow : OpenClaim := { program := "ytgghcngfleicnaa", sum := "d180f3691c433d7c19434eb9bf60e9be930bbf9ceca673e297b85cdefe089a94", func := "loop.example/g01334/laws.FnExactBestPacked", spec := "fnExactBestPacked", unfollowed := true, recurses := true, apart := false }
def FnExactBestPackedSaid : Prop := fnExactBestPackedRow.holds Try.pinned (OpenSpec.ofChange fnExactBestPackedSpec)

/-- ITS FALSE NEIGHBOUR: 'it returns false'. Refute it at one input. -/
def fnExactBestPackedWrong : ChangeSpec := { name := "fnExactBestPacked", fn := fun _ => fun
  | [d1, d2] => { results := [.lit (.bool false)], args := [d1, d2] }
  | _ => none }
def FnExactBestPackedWrongFalsely : Prop := fnExactBestPackedRow.holds Try.pinned (OpenSpec.ofChange fnExactBestPackedWrong)

/-- 'laws.FnExactCountPacked': WHATEVER THE INPUT: true; the input reads as it did. -/
def fnExactCountPackedSpec : ChangeSpec := { name := "fnExactCountPacked", fn := fun _ => fun
  | [d1, d2] => { results := [.lit (.bool true)], args := [d1, d2] }
  | _ => none }
def fnExactCountPackedRow : OpenClaim := { program := "ytgghcngfleicnaa", sum := "d180f3691c433d7c19434eb9bf60e9be930bbf9ceca673e297b85cdefe089a94", func := "loop.example/g01334/laws.FnExactCountPacked", spec := "fnExactCountPacked", unfollowed := true, recurses := true, apart := false }
def FnExactCountPackedSaid : Prop := fnExactCountPackedRow.holds Try.pinned (OpenSpec.ofChange fnExactCountPackedSpec)

/-- ITS FALSE NEIGHBOUR: 'it returns false'. Refute it at one input. -/
def fnExactCountPackedWrong : ChangeSpec := { name := "fnExactCountPacked", fn := fun _ => fun
  | [d1, d2] => { results := [.lit (.bool false)], args := [d1, d2] }
  | _ => none }
def FnExactCountPackedWrongFalsely : Prop := fnExactCountPackedRow.holds Try.pinned (OpenSpec.ofChange fnExactCountPackedWrong)

/-- 'laws.FnExactLightestFor': WHATEVER THE INPUT: true; the input reads as it did. -/
def fnExactLightestForSpec : ChangeSpec := { name := "fnExactLightestFor", fn := fun _ => fun
  | [d1, d2, d3] => { results := [.lit (.bool true)], args := [d1, d2, d3] }
  | _ => none }
def fnExactLightestForRow : OpenClaim := { program := "ytgghcngfleicnaa", sum := "d180f3691c433d7c19434eb9bf60e9be930bbf9ceca673e297b85cdefe089a94", func := "loop.example/g01334/laws.FnExactLightestFor", spec := "fnExactLightestFor", unfollowed := true, recurses := true, apart := false }
def FnExactLightestForSaid : Prop := fnExactLightestForRow.holds Try.pinned (OpenSpec.ofChange fnExactLightestForSpec)

/-- ITS FALSE NEIGHBOUR: 'it returns false'. Refute it at one input. -/
def fnExactLightestForWrong : ChangeSpec := { name := "fnExactLightestFor", fn := fun _ => fun
  | [d1, d2, d3] => { results := [.lit (.bool false)], args := [d1, d2, d3] }
  | _ => none }
def FnExactLightestForWrongFalsely : Prop := fnExactLightestForRow.holds Try.pinned (OpenSpec.ofChange fnExactLightestForWrong)

/- THE SECOND FORM. 'bulk': how many values and letters a reading holds, each counted each time it is reached (what is shared counts as often as it is met; a slice's spare places count too). A statement '..UptoSaid' is the law's where the arguments, and the package variables that the reading takes, are together of bulk at most 1048576: NARROWER than '..Said'. Prove '..Said' where nothing that the law and all that it calls make is longer than what came in: it says more and counts as full. Else prove '..UptoSaid'. A law counts once. -/
mutual
def uptoBulk {H : Type} : DataW H → Nat
  | .lit (.string bytes) => bytes.length + 1
  | .lit _ => 1
  | .nil => 1
  | .ptr d => uptoBulk d + 1
  | .slice elems spare => uptoBulkAll elems + uptoBulkAll spare + 1
  | .agg parts => uptoBulkAll parts + 1
  | .iface _ d => uptoBulk d + 1
  | .map entries => uptoBulkEntries entries + 1
  | .held _ => 1
def uptoBulkAll {H : Type} : List (DataW H) → Nat
  | [] => 0
  | d :: r => uptoBulk d + uptoBulkAll r
def uptoBulkEntries {H : Type} : List (Lit × DataW H) → Nat
  | [] => 0
  | x :: r => uptoBulkEntry x + uptoBulkEntries r
def uptoBulkEntry {H : Type} : Lit × DataW H → Nat
  | (.string bytes, d) => bytes.length + uptoBulk d + 1
  | (_, d) => uptoBulk d + 1
 end
def uptoSmall : (H : Type) → List (DataW H) → Bool := fun _ ds => decide (uptoBulkAll ds ≤ 1048576)
def OpenSpec.upto (s : _root_.Go.ChangeSpec) : _root_.Go.OpenSpec := { _root_.Go.OpenSpec.ofChange s with cond := some uptoSmall }

/-- 'laws.FnExactAreItems', WHERE WHAT IT READS IS OF BULK AT MOST 1048576: true; the input reads as it did. -/
def fnExactAreItemsUptoRow : OpenClaim := { program := "ytgghcngfleicnaa", sum := "d180f3691c433d7c19434eb9bf60e9be930bbf9ceca673e297b85cdefe089a94", func := "loop.example/g01334/laws.FnExactAreItems", spec := "fnExactAreItems", unfollowed := true, recurses := true, apart := false, narrowed := true }
def FnExactAreItemsUptoSaid : Prop := fnExactAreItemsUptoRow.holds Try.pinned (OpenSpec.upto fnExactAreItemsSpec)

/-- 'laws.FnExactNeverNeeded', WHERE WHAT IT READS IS OF BULK AT MOST 1048576: true; the input reads as it did. -/
def fnExactNeverNeededUptoRow : OpenClaim := { program := "ytgghcngfleicnaa", sum := "d180f3691c433d7c19434eb9bf60e9be930bbf9ceca673e297b85cdefe089a94", func := "loop.example/g01334/laws.FnExactNeverNeeded", spec := "fnExactNeverNeeded", unfollowed := true, recurses := true, apart := false, narrowed := true }
def FnExactNeverNeededUptoSaid : Prop := fnExactNeverNeededUptoRow.holds Try.pinned (OpenSpec.upto fnExactNeverNeededSpec)

/-- 'laws.FnExactIsChoice', WHERE WHAT IT READS IS OF BULK AT MOST 1048576: true; the input reads as it did. -/
def fnExactIsChoiceUptoRow : OpenClaim := { program := "ytgghcngfleicnaa", sum := "d180f3691c433d7c19434eb9bf60e9be930bbf9ceca673e297b85cdefe089a94", func := "loop.example/g01334/laws.FnExactIsChoice", spec := "fnExactIsChoice", unfollowed := true, recurses := true, apart := false, narrowed := true }
def FnExactIsChoiceUptoSaid : Prop := fnExactIsChoiceUptoRow.holds Try.pinned (OpenSpec.upto fnExactIsChoiceSpec)

/-- 'laws.FnExactCountChoices', WHERE WHAT IT READS IS OF BULK AT MOST 1048576: true; the input reads as it did. -/
def fnExactCountChoicesUptoRow : OpenClaim := { program := "ytgghcngfleicnaa", sum := "d180f3691c433d7c19434eb9bf60e9be930bbf9ceca673e297b85cdefe089a94", func := "loop.example/g01334/laws.FnExactCountChoices", spec := "fnExactCountChoices", unfollowed := true, recurses := true, apart := false, narrowed := true }
def FnExactCountChoicesUptoSaid : Prop := fnExactCountChoicesUptoRow.holds Try.pinned (OpenSpec.upto fnExactCountChoicesSpec)

/-- 'laws.FnExactTotalsOf', WHERE WHAT IT READS IS OF BULK AT MOST 1048576: true; the input reads as it did. -/
def fnExactTotalsOfUptoRow : OpenClaim := { program := "ytgghcngfleicnaa", sum := "d180f3691c433d7c19434eb9bf60e9be930bbf9ceca673e297b85cdefe089a94", func := "loop.example/g01334/laws.FnExactTotalsOf", spec := "fnExactTotalsOf", unfollowed := true, recurses := true, apart := false, narrowed := true }
def FnExactTotalsOfUptoSaid : Prop := fnExactTotalsOfUptoRow.holds Try.pinned (OpenSpec.upto fnExactTotalsOfSpec)

/-- 'laws.FnExactTwoCases', WHERE WHAT IT READS IS OF BULK AT MOST 1048576: true; the input reads as it did. -/
def fnExactTwoCasesUptoRow : OpenClaim := { program := "ytgghcngfleicnaa", sum := "d180f3691c433d7c19434eb9bf60e9be930bbf9ceca673e297b85cdefe089a94", func := "loop.example/g01334/laws.FnExactTwoCases", spec := "fnExactTwoCases", unfollowed := true, recurses := true, apart := false, narrowed := true }
def FnExactTwoCasesUptoSaid : Prop := fnExactTwoCasesUptoRow.holds Try.pinned (OpenSpec.upto fnExactTwoCasesSpec)

/-- 'laws.FnExactBestPacked', WHERE WHAT IT READS IS OF BULK AT MOST 1048576: true; the input reads as it did. -/
def fnExactBestPackedUptoRow : OpenClaim := { program := "ytgghcngfleicnaa", sum := "d180f3691c433d7c19434eb9bf60e9be930bbf9ceca673e297b85cdefe089a94", func := "loop.example/g01334/laws.FnExactBestPacked", spec := "fnExactBestPacked", unfollowed := true, recurses := true, apart := false, narrowed := true }
def FnExactBestPackedUptoSaid : Prop := fnExactBestPackedUptoRow.holds Try.pinned (OpenSpec.upto fnExactBestPackedSpec)

/-- 'laws.FnExactCountPacked', WHERE WHAT IT READS IS OF BULK AT MOST 1048576: true; the input reads as it did. -/
def fnExactCountPackedUptoRow : OpenClaim := { program := "ytgghcngfleicnaa", sum := "d180f3691c433d7c19434eb9bf60e9be930bbf9ceca673e297b85cdefe089a94", func := "loop.example/g01334/laws.FnExactCountPacked", spec := "fnExactCountPacked", unfollowed := true, recurses := true, apart := false, narrowed := true }
def FnExactCountPackedUptoSaid : Prop := fnExactCountPackedUptoRow.holds Try.pinned (OpenSpec.upto fnExactCountPackedSpec)

/-- 'laws.FnExactLightestFor', WHERE WHAT IT READS IS OF BULK AT MOST 1048576: true; the input reads as it did. -/
def fnExactLightestForUptoRow : OpenClaim := { program := "ytgghcngfleicnaa", sum := "d180f3691c433d7c19434eb9bf60e9be930bbf9ceca673e297b85cdefe089a94", func := "loop.example/g01334/laws.FnExactLightestFor", spec := "fnExactLightestFor", unfollowed := true, recurses := true, apart := false, narrowed := true }
def FnExactLightestForUptoSaid : Prop := fnExactLightestForUptoRow.holds Try.pinned (OpenSpec.upto fnExactLightestForSpec)

end Rows
end Go.Proofs.Ytgghcngfleicnaa
