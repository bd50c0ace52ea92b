/-
  No cell of these rows narrows 'for every input' (looked for: loops, veiled, ifaces, maps, wideKeys, modest, calm, conditions, laid).
  DERIVED. THE GIVEN ROWS OF THIS SEAT. 3 by the template 'for every input the law returns true; each argument reads behind the call as it read before'; 0 by the template 'total and deterministic' (their statements: YtiegdkinjebjiaaTotals.lean).
  GIVEN WITH THE SEED: the statements are not yours to turn. If you find one false, say at which input.
  Laid BY PROGRAM, IN A SANDBOX (cutbox-rows.mjs): the forced cells as the released guide's own fill.sh prints them over the translation 44c20009cae9bfe4… (all of the seat's roots in one cut). By AI agents, Wed Nov 11 2026. No macro, syntax, notation, axiom, sorry.
-/
import Derived.Test.YtiegdkinjebjiaaChecked
import GoSem.Claim
import GoSem.ClaimJoined
import GoSem.ClaimMapViews
import Derived.JoinedTies
import Derived.KernelRfl
namespace Go.Proofs.Ytiegdkinjebjiaa
/- THE CELL 'sum', in the pinned program and in every row, IS THE sha256 OF THE DUMP (.gsa) THAT YtiegdkinjebjiaaProg.lean LOADS. Nothing in Lean hashes anything: it is a label: what it is worth is what the hold of that sum in a sandbox is worth. -/
noncomputable def Try.pinned : Pinned := { name := "ytiegdkinjebjiaa", sum := "44c20009cae9bfe4d345a8f5ca15bc461016b094c3e53af6453f7bcdc65e1866", checked := Try.checked }
namespace Rows
def none {H : Type} : Left H := { results := [], args := [] }

/-- 'laws.FnExactGreatestTiles': WHATEVER THE INPUT: true; the input reads as it did. -/
def fnExactGreatestTilesSpec : ChangeSpec := { name := "fnExactGreatestTiles", fn := fun _ => fun
  | [d1, d2] => { results := [.lit (.bool true)], args := [d1, d2] }
  | _ => none }
def fnExactGreatestTilesRow : OpenClaim := { program := "ytiegdkinjebjiaa", sum := "44c20009cae9bfe4d345a8f5ca15bc461016b094c3e53af6453f7bcdc65e1866", func := "loop.example/g01334/laws.FnExactGreatestTiles", spec := "fnExactGreatestTiles", apart := false }
def FnExactGreatestTilesSaid : Prop := fnExactGreatestTilesRow.holds Try.pinned (OpenSpec.ofChange fnExactGreatestTilesSpec)

/-- ITS FALSE NEIGHBOUR: 'it returns false'. Refute it at one input. -/
def fnExactGreatestTilesWrong : ChangeSpec := { name := "fnExactGreatestTiles", fn := fun _ => fun
  | [d1, d2] => { results := [.lit (.bool false)], args := [d1, d2] }
  | _ => none }
def FnExactGreatestTilesWrongFalsely : Prop := fnExactGreatestTilesRow.holds Try.pinned (OpenSpec.ofChange fnExactGreatestTilesWrong)

/-- 'laws.FnExactAreStackable': WHATEVER THE INPUT: true; the input reads as it did. -/
def fnExactAreStackableSpec : ChangeSpec := { name := "fnExactAreStackable", fn := fun _ => fun
  | [d] => { results := [.lit (.bool true)], args := [d] }
  | _ => none }
def fnExactAreStackableRow : OpenClaim := { program := "ytiegdkinjebjiaa", sum := "44c20009cae9bfe4d345a8f5ca15bc461016b094c3e53af6453f7bcdc65e1866", func := "loop.example/g01334/laws.FnExactAreStackable", spec := "fnExactAreStackable", unfollowed := true, recurses := true, apart := false }
def FnExactAreStackableSaid : Prop := fnExactAreStackableRow.holds Try.pinned (OpenSpec.ofChange fnExactAreStackableSpec)

/-- ITS FALSE NEIGHBOUR: 'it returns false'. Refute it at one input. -/
def fnExactAreStackableWrong : ChangeSpec := { name := "fnExactAreStackable", fn := fun _ => fun
  | [d] => { results := [.lit (.bool false)], args := [d] }
  | _ => none }
def FnExactAreStackableWrongFalsely : Prop := fnExactAreStackableRow.holds Try.pinned (OpenSpec.ofChange fnExactAreStackableWrong)

/-- 'laws.FnExactAreItems': WHATEVER THE INPUT: true; the input reads as it did. -/
def fnExactAreItemsSpec : ChangeSpec := { name := "fnExactAreItems", fn := fun _ => fun
  | [d] => { results := [.lit (.bool true)], args := [d] }
  | _ => none }
def fnExactAreItemsRow : OpenClaim := { program := "ytiegdkinjebjiaa", sum := "44c20009cae9bfe4d345a8f5ca15bc461016b094c3e53af6453f7bcdc65e1866", func := "loop.example/g01334/laws.FnExactAreItems", spec := "fnExactAreItems", unfollowed := true, recurses := true, apart := false }
def FnExactAreItemsSaid : Prop := fnExactAreItemsRow.holds Try.pinned (OpenSpec.ofChange fnExactAreItemsSpec)

/-- ITS FALSE NEIGHBOUR: 'it returns false'. Refute it at one input. -/
def fnExactAreItemsWrong : ChangeSpec := { name := "fnExactAreItems", fn := fun _ => fun
  | [d] => { results := [.lit (.bool false)], args := [d] }
  | _ => none }
def FnExactAreItemsWrongFalsely : Prop := fnExactAreItemsRow.holds Try.pinned (OpenSpec.ofChange fnExactAreItemsWrong)

/- THE SECOND FORM. 'bulk': how many values and letters a reading holds, each counted each time it is reached (what is shared counts as often as it is met; a slice's spare places count too). A statement '..UptoSaid' is the law's where the arguments, and the package variables that the reading takes, are together of bulk at most 1048576: NARROWER than '..Said'. Prove '..Said' where nothing that the law and all that it calls make is longer than what came in: it says more and counts as full. Else prove '..UptoSaid'. A law counts once. -/
mutual
def uptoBulk {H : Type} : DataW H → Nat
  | .lit (.string bytes) => bytes.length + 1
  | .lit _ => 1
  | .nil => 1
  | .ptr d => uptoBulk d + 1
  | .slice elems spare => uptoBulkAll elems + uptoBulkAll spare + 1
  | .agg parts => uptoBulkAll parts + 1
  | .iface _ d => uptoBulk d + 1
  | .map entries => uptoBulkEntries entries + 1
  | .held _ => 1
def uptoBulkAll {H : Type} : List (DataW H) → Nat
  | [] => 0
  | d :: r => uptoBulk d + uptoBulkAll r
def uptoBulkEntries {H : Type} : List (Lit × DataW H) → Nat
  | [] => 0
  | x :: r => uptoBulkEntry x + uptoBulkEntries r
def uptoBulkEntry {H : Type} : Lit × DataW H → Nat
  | (.string bytes, d) => bytes.length + uptoBulk d + 1
  | (_, d) => uptoBulk d + 1
 end
def uptoSmall : (H : Type) → List (DataW H) → Bool := fun _ ds => decide (uptoBulkAll ds ≤ 1048576)
def OpenSpec.upto (s : _root_.Go.ChangeSpec) : _root_.Go.OpenSpec := { _root_.Go.OpenSpec.ofChange s with cond := some uptoSmall }

/-- 'laws.FnExactGreatestTiles', WHERE WHAT IT READS IS OF BULK AT MOST 1048576: true; the input reads as it did. -/
def fnExactGreatestTilesUptoRow : OpenClaim := { program := "ytiegdkinjebjiaa", sum := "44c20009cae9bfe4d345a8f5ca15bc461016b094c3e53af6453f7bcdc65e1866", func := "loop.example/g01334/laws.FnExactGreatestTiles", spec := "fnExactGreatestTiles", apart := false, narrowed := true }
def FnExactGreatestTilesUptoSaid : Prop := fnExactGreatestTilesUptoRow.holds Try.pinned (OpenSpec.upto fnExactGreatestTilesSpec)

/-- 'laws.FnExactAreStackable', WHERE WHAT IT READS IS OF BULK AT MOST 1048576: true; the input reads as it did. -/
def fnExactAreStackableUptoRow : OpenClaim := { program := "ytiegdkinjebjiaa", sum := "44c20009cae9bfe4d345a8f5ca15bc461016b094c3e53af6453f7bcdc65e1866", func := "loop.example/g01334/laws.FnExactAreStackable", spec := "fnExactAreStackable", unfollowed := true, recurses := true, apart := false, narrowed := true }
def FnExactAreStackableUptoSaid : Prop := fnExactAreStackableUptoRow.holds Try.pinned (OpenSpec.upto fnExactAreStackableSpec)

/-- 'laws.FnExactAreItems', WHERE WHAT IT READS IS OF BULK AT MOST 1048576: true; the input reads as it did. -/
def fnExactAreItemsUptoRow : OpenClaim := { program := "ytiegdkinjebjiaa", sum := "44c20009cae9bfe4d345a8f5ca15bc461016b094c3e53af6453f7bcdc65e1866", func := "loop.example/g01334/laws.FnExactAreItems", spec := "fnExactAreItems", unfollowed := true, recurses := true, apart := false, narrowed := true }
def FnExactAreItemsUptoSaid : Prop := fnExactAreItemsUptoRow.holds Try.pinned (OpenSpec.upto fnExactAreItemsSpec)

end Rows
end Go.Proofs.Ytiegdkinjebjiaa
