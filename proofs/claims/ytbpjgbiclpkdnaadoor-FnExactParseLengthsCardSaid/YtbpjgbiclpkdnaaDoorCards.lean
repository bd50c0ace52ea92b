/-
  DERIVED. GIVEN WITH THE SEED: THE CARDS: each row of YtbpjgbiclpkdnaaDoorRows.lean that lists a variable, with what it lists TIED to the program's text (the seventh form; the later family's looks); each row that meets fmt, with fmt's text TOLD by the authors' own Lean function (tested against real Go, not proved from fmt's source: count such statements apart). THE CARD IS WHAT COUNTS. Prove the row's statement (the work); the ties are given (YtbpjgbiclpkdnaaDoorTie.lean); close each card by the builder's one call (the guide's Derived/Test/ToyasCard.lean, 'card_holds'). Laid BY PROGRAM, IN A SANDBOX (cutbox-door.mjs). By AI agents, Wed Nov 11 2026. No macro, syntax, notation, axiom, sorry.
-/
import Derived.Test.YtbpjgbiclpkdnaaDoorRows
import GoSem.ClaimSeven
namespace Go.Proofs.YtbpjgbiclpkdnaaDoor
namespace Rows

/-- THE TIED CARD OF 'laws.FnExactParseStackables'. -/
def fnExactParseStackablesCard : Claim7 := { stood := { row := fnExactParseStackablesRow, standIns := [], harness := (true, "63dd048b453df939eb45cee5d520d399bb72efcdd51adc626e9296a8de6563f8"), looks := true }, kinds := [], alts := [], laidByText := true, laidKinds := [.data, .data, .data, .sentinel, .sentinel], laidTests := true, laidLooks := .later }
def FnExactParseStackablesCardSaid : Prop := Claim7.holds Tryd.pinned (.plain (OpenSpec.ofChange fnExactParseStackablesSpec)) fnExactParseStackablesCard

/-- THE TIED CARD OF 'laws.FnExactParseItems'. -/
def fnExactParseItemsCard : Claim7 := { stood := { row := fnExactParseItemsRow, standIns := [], harness := (true, "63dd048b453df939eb45cee5d520d399bb72efcdd51adc626e9296a8de6563f8"), looks := true }, kinds := [], alts := [], laidByText := true, laidKinds := [.data, .data, .data, .sentinel, .sentinel], laidTests := true, laidLooks := .later }
def FnExactParseItemsCardSaid : Prop := Claim7.holds Tryd.pinned (.plain (OpenSpec.ofChange fnExactParseItemsSpec)) fnExactParseItemsCard

/-- THE TIED CARD OF 'laws.FnExactLengthsText'. -/
def fnExactLengthsTextCard : Claim7 := { stood := { row := fnExactLengthsTextRow, standIns := [], harness := (true, "63dd048b453df939eb45cee5d520d399bb72efcdd51adc626e9296a8de6563f8"), looks := true }, kinds := [], alts := [], laidByText := true, laidKinds := [.data, .data, .data], laidTests := true, laidLooks := .later }
def FnExactLengthsTextCardSaid : Prop := Claim7.holds Tryd.pinned (.plain (OpenSpec.ofChange fnExactLengthsTextSpec)) fnExactLengthsTextCard

/-- THE TIED CARD OF 'laws.FnExactStackablesText'. -/
def fnExactStackablesTextCard : Claim7 := { stood := { row := fnExactStackablesTextRow, standIns := [], harness := (true, "63dd048b453df939eb45cee5d520d399bb72efcdd51adc626e9296a8de6563f8"), looks := true }, kinds := [], alts := [], laidByText := true, laidKinds := [.data, .data, .data], laidTests := true, laidLooks := .later }
def FnExactStackablesTextCardSaid : Prop := Claim7.holds Tryd.pinned (.plain (OpenSpec.ofChange fnExactStackablesTextSpec)) fnExactStackablesTextCard

/-- THE TIED CARD OF 'laws.FnExactItemsText'. -/
def fnExactItemsTextCard : Claim7 := { stood := { row := fnExactItemsTextRow, standIns := [], harness := (true, "63dd048b453df939eb45cee5d520d399bb72efcdd51adc626e9296a8de6563f8"), looks := true }, kinds := [], alts := [], laidByText := true, laidKinds := [.data, .data, .data], laidTests := true, laidLooks := .later }
def FnExactItemsTextCardSaid : Prop := Claim7.holds Tryd.pinned (.plain (OpenSpec.ofChange fnExactItemsTextSpec)) fnExactItemsTextCard

/-- THE TIED CARD OF 'laws.FnExactParseLengths'. -/
def fnExactParseLengthsCard : Claim7 := { stood := { row := fnExactParseLengthsRow, standIns := [], harness := (true, "63dd048b453df939eb45cee5d520d399bb72efcdd51adc626e9296a8de6563f8"), looks := true }, kinds := [], alts := [], laidByText := true, laidKinds := [.data, .data, .data, .sentinel, .sentinel], laidTests := true, laidLooks := .later }
def FnExactParseLengthsCardSaid : Prop := Claim7.holds Tryd.pinned (.plain (OpenSpec.ofChange fnExactParseLengthsSpec)) fnExactParseLengthsCard

/-- THE SECOND FORM's CARD OF 'laws.FnExactParseStackables'. -/
def fnExactParseStackablesUptoCard : Claim7 := { stood := { row := fnExactParseStackablesUptoRow, standIns := [], harness := (true, "63dd048b453df939eb45cee5d520d399bb72efcdd51adc626e9296a8de6563f8"), looks := true }, kinds := [], alts := [], laidByText := true, laidKinds := [.data, .data, .data, .sentinel, .sentinel], laidTests := true, laidLooks := .later }
def FnExactParseStackablesUptoCardSaid : Prop := Claim7.holds Tryd.pinned (.plain (OpenSpec.upto fnExactParseStackablesSpec)) fnExactParseStackablesUptoCard

/-- THE SECOND FORM's CARD OF 'laws.FnExactParseItems'. -/
def fnExactParseItemsUptoCard : Claim7 := { stood := { row := fnExactParseItemsUptoRow, standIns := [], harness := (true, "63dd048b453df939eb45cee5d520d399bb72efcdd51adc626e9296a8de6563f8"), looks := true }, kinds := [], alts := [], laidByText := true, laidKinds := [.data, .data, .data, .sentinel, .sentinel], laidTests := true, laidLooks := .later }
def FnExactParseItemsUptoCardSaid : Prop := Claim7.holds Tryd.pinned (.plain (OpenSpec.upto fnExactParseItemsSpec)) fnExactParseItemsUptoCard

/-- THE SECOND FORM's CARD OF 'laws.FnExactLengthsText'. -/
def fnExactLengthsTextUptoCard : Claim7 := { stood := { row := fnExactLengthsTextUptoRow, standIns := [], harness := (true, "63dd048b453df939eb45cee5d520d399bb72efcdd51adc626e9296a8de6563f8"), looks := true }, kinds := [], alts := [], laidByText := true, laidKinds := [.data, .data, .data], laidTests := true, laidLooks := .later }
def FnExactLengthsTextUptoCardSaid : Prop := Claim7.holds Tryd.pinned (.plain (OpenSpec.upto fnExactLengthsTextSpec)) fnExactLengthsTextUptoCard

/-- THE SECOND FORM's CARD OF 'laws.FnExactStackablesText'. -/
def fnExactStackablesTextUptoCard : Claim7 := { stood := { row := fnExactStackablesTextUptoRow, standIns := [], harness := (true, "63dd048b453df939eb45cee5d520d399bb72efcdd51adc626e9296a8de6563f8"), looks := true }, kinds := [], alts := [], laidByText := true, laidKinds := [.data, .data, .data], laidTests := true, laidLooks := .later }
def FnExactStackablesTextUptoCardSaid : Prop := Claim7.holds Tryd.pinned (.plain (OpenSpec.upto fnExactStackablesTextSpec)) fnExactStackablesTextUptoCard

/-- THE SECOND FORM's CARD OF 'laws.FnExactItemsText'. -/
def fnExactItemsTextUptoCard : Claim7 := { stood := { row := fnExactItemsTextUptoRow, standIns := [], harness := (true, "63dd048b453df939eb45cee5d520d399bb72efcdd51adc626e9296a8de6563f8"), looks := true }, kinds := [], alts := [], laidByText := true, laidKinds := [.data, .data, .data], laidTests := true, laidLooks := .later }
def FnExactItemsTextUptoCardSaid : Prop := Claim7.holds Tryd.pinned (.plain (OpenSpec.upto fnExactItemsTextSpec)) fnExactItemsTextUptoCard

/-- THE SECOND FORM's CARD OF 'laws.FnExactParseLengths'. -/
def fnExactParseLengthsUptoCard : Claim7 := { stood := { row := fnExactParseLengthsUptoRow, standIns := [], harness := (true, "63dd048b453df939eb45cee5d520d399bb72efcdd51adc626e9296a8de6563f8"), looks := true }, kinds := [], alts := [], laidByText := true, laidKinds := [.data, .data, .data, .sentinel, .sentinel], laidTests := true, laidLooks := .later }
def FnExactParseLengthsUptoCardSaid : Prop := Claim7.holds Tryd.pinned (.plain (OpenSpec.upto fnExactParseLengthsSpec)) fnExactParseLengthsUptoCard
end Rows
end Go.Proofs.YtbpjgbiclpkdnaaDoor
