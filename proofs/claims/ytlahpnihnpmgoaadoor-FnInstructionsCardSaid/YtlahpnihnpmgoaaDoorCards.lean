/-
  DERIVED. GIVEN WITH THE SEED: THE CARDS: each row of YtlahpnihnpmgoaaDoorRows.lean that lists a variable, with what it lists TIED to the program's text (the seventh form; the later family's looks); each row that meets fmt, with fmt's text TOLD by the authors' own Lean function (tested against real Go, not proved from fmt's source: count such statements apart). THE CARD IS WHAT COUNTS. Prove the row's statement (the work); the ties are given (YtlahpnihnpmgoaaDoorTie.lean); close each card by the builder's one call (the guide's Derived/Test/ToyasCard.lean, 'card_holds'). Laid BY PROGRAM, IN A SANDBOX (cutbox-door.mjs). By AI agents, Wed Nov 11 2026. No macro, syntax, notation, axiom, sorry.
-/
import Derived.Test.YtlahpnihnpmgoaaDoorRows
import GoSem.ClaimSeven
namespace Go.Proofs.YtlahpnihnpmgoaaDoor
namespace Rows

/-- THE TIED CARD OF 'laws.FnExactAssemblyText'. -/
def fnExactAssemblyTextCard : Claim7 := { stood := { row := fnExactAssemblyTextRow, standIns := [], harness := (true, "fb8e31cf168e86e8433f284e7231a79afacb1756eade6da946b3e09abc400352"), looks := true }, kinds := [], alts := [], laidByText := true, laidKinds := [.data, .data, .data, .widerDeep], laidTests := true, laidLooks := .later }
def FnExactAssemblyTextCardSaid : Prop := Claim7.holds Tryd.pinned (.plain (OpenSpec.ofChange fnExactAssemblyTextSpec)) fnExactAssemblyTextCard

/-- THE TIED CARD OF 'laws.FnExactParseAssembly'. -/
def fnExactParseAssemblyCard : Claim7 := { stood := { row := fnExactParseAssemblyRow, standIns := [], harness := (true, "fb8e31cf168e86e8433f284e7231a79afacb1756eade6da946b3e09abc400352"), looks := true }, kinds := [], alts := [], laidByText := true, laidKinds := [.data, .data, .data, .data, .sentinel, .sentinel, .widerDeep, .pinned], laidTests := true, laidLooks := .later }
def FnExactParseAssemblyCardSaid : Prop := Claim7.holds Tryd.pinned (.plain (OpenSpec.ofChange fnExactParseAssemblySpec)) fnExactParseAssemblyCard

/-- THE TIED CARD OF 'laws.FnInstructions'. -/
def fnInstructionsCard : Claim7 := { stood := { row := fnInstructionsRow, standIns := [], harness := (true, "fb8e31cf168e86e8433f284e7231a79afacb1756eade6da946b3e09abc400352"), looks := true }, kinds := [], alts := [], laidByText := true, laidKinds := [.data, .data, .data, .data, .sentinel, .sentinel, .widerDeep, .pinned], laidTests := true, laidLooks := .later }
def FnInstructionsCardSaid : Prop := Claim7.holds Tryd.pinned (.plain (OpenSpec.ofChange fnInstructionsSpec)) fnInstructionsCard

/-- THE SECOND FORM's CARD OF 'laws.FnExactAssemblyText'. -/
def fnExactAssemblyTextUptoCard : Claim7 := { stood := { row := fnExactAssemblyTextUptoRow, standIns := [], harness := (true, "fb8e31cf168e86e8433f284e7231a79afacb1756eade6da946b3e09abc400352"), looks := true }, kinds := [], alts := [], laidByText := true, laidKinds := [.data, .data, .data, .widerDeep], laidTests := true, laidLooks := .later }
def FnExactAssemblyTextUptoCardSaid : Prop := Claim7.holds Tryd.pinned (.plain (OpenSpec.upto fnExactAssemblyTextSpec)) fnExactAssemblyTextUptoCard

/-- THE SECOND FORM's CARD OF 'laws.FnExactParseAssembly'. -/
def fnExactParseAssemblyUptoCard : Claim7 := { stood := { row := fnExactParseAssemblyUptoRow, standIns := [], harness := (true, "fb8e31cf168e86e8433f284e7231a79afacb1756eade6da946b3e09abc400352"), looks := true }, kinds := [], alts := [], laidByText := true, laidKinds := [.data, .data, .data, .data, .sentinel, .sentinel, .widerDeep, .pinned], laidTests := true, laidLooks := .later }
def FnExactParseAssemblyUptoCardSaid : Prop := Claim7.holds Tryd.pinned (.plain (OpenSpec.upto fnExactParseAssemblySpec)) fnExactParseAssemblyUptoCard

/-- THE SECOND FORM's CARD OF 'laws.FnInstructions'. -/
def fnInstructionsUptoCard : Claim7 := { stood := { row := fnInstructionsUptoRow, standIns := [], harness := (true, "fb8e31cf168e86e8433f284e7231a79afacb1756eade6da946b3e09abc400352"), looks := true }, kinds := [], alts := [], laidByText := true, laidKinds := [.data, .data, .data, .data, .sentinel, .sentinel, .widerDeep, .pinned], laidTests := true, laidLooks := .later }
def FnInstructionsUptoCardSaid : Prop := Claim7.holds Tryd.pinned (.plain (OpenSpec.upto fnInstructionsSpec)) fnInstructionsUptoCard
end Rows
end Go.Proofs.YtlahpnihnpmgoaaDoor
