/-
  DERIVED. GIVEN WITH THE SEED: THE CARDS: each row of YtmddbohokaijeaaGreatDoorRows.lean that lists a variable, with what it lists TIED to the program's text (the seventh form; the later family's looks); each row that meets fmt, with fmt's text TOLD by the authors' own Lean function (tested against real Go, not proved from fmt's source: count such statements apart). THE CARD IS WHAT COUNTS. Prove the row's statement (the work); the ties are given (YtmddbohokaijeaaGreatDoorTie.lean); close each card by the builder's one call (the guide's Derived/Test/ToyasCard.lean, 'card_holds'). Laid BY PROGRAM, IN A SANDBOX (cutbox-door.mjs). By AI agents, Wed Nov 11 2026. No macro, syntax, notation, axiom, sorry.
-/
import Derived.Test.YtmddbohokaijeaaGreatDoorRows
import GoSem.ClaimSeven
namespace Go.Proofs.YtmddbohokaijeaaGreatDoor
namespace Rows

/-- THE TIED CARD OF 'laws.FnExactShowTree'. -/
def fnExactShowTreeCard : Claim7 := { stood := { row := fnExactShowTreeRow, standIns := [], harness := (true, "1e35bb61e31855d91d78ff09e01a350b48b7d4a0a4bf700b64f0f5dc44acfade"), looks := false }, kinds := [], alts := [], laidByText := true, laidKinds := [.data, .data, .data], laidTests := true, laidLooks := .later }
def FnExactShowTreeCardSaid : Prop := Claim7.holds Tryz.pinned (.plain (OpenSpec.ofChange fnExactShowTreeSpec)) fnExactShowTreeCard

/-- THE SECOND FORM's CARD OF 'laws.FnExactShowTree'. -/
def fnExactShowTreeUptoCard : Claim7 := { stood := { row := fnExactShowTreeUptoRow, standIns := [], harness := (true, "1e35bb61e31855d91d78ff09e01a350b48b7d4a0a4bf700b64f0f5dc44acfade"), looks := false }, kinds := [], alts := [], laidByText := true, laidKinds := [.data, .data, .data], laidTests := true, laidLooks := .later }
def FnExactShowTreeUptoCardSaid : Prop := Claim7.holds Tryz.pinned (.plain (OpenSpec.upto fnExactShowTreeSpec)) fnExactShowTreeUptoCard
end Rows
end Go.Proofs.YtmddbohokaijeaaGreatDoor
