/-
  DERIVED. GIVEN WITH THE SEED: THE CARDS: each row of YtdacjpebgklneaaDoorRows.lean that lists a variable, with what it lists TIED to the program's text (the seventh form; the later family's looks); each row that meets fmt, with fmt's text TOLD by the authors' own Lean function (tested against real Go, not proved from fmt's source: count such statements apart). THE CARD IS WHAT COUNTS. Prove the row's statement (the work); the ties are given (YtdacjpebgklneaaDoorTie.lean); close each card by the builder's one call (the guide's Derived/Test/ToyasCard.lean, 'card_holds'). Laid BY PROGRAM, IN A SANDBOX (cutbox-door.mjs). By AI agents, Wed Nov 11 2026. No macro, syntax, notation, axiom, sorry.
-/
import Derived.Test.YtdacjpebgklneaaDoorRows
import GoSem.ClaimSeven
namespace Go.Proofs.YtdacjpebgklneaaDoor
namespace Rows

/-- THE TIED CARD OF 'laws.FnLeases'. -/
def fnLeasesCard : Claim7 := { stood := { row := fnLeasesRow, standIns := [], harness := (true, "03122cbbe40f8eaf12e06d1b66a55b473dfa9349e72b87d54a7ead1e1b97233f"), looks := false }, kinds := [], alts := [], laidByText := true, laidKinds := [.data, .pinned], laidTests := true, laidLooks := .later }
def FnLeasesCardSaid : Prop := Claim7.holds Tryd.pinned (.plain (OpenSpec.ofChange fnLeasesSpec)) fnLeasesCard

/-- THE SECOND FORM's CARD OF 'laws.FnLeases'. -/
def fnLeasesUptoCard : Claim7 := { stood := { row := fnLeasesUptoRow, standIns := [], harness := (true, "03122cbbe40f8eaf12e06d1b66a55b473dfa9349e72b87d54a7ead1e1b97233f"), looks := false }, kinds := [], alts := [], laidByText := true, laidKinds := [.data, .pinned], laidTests := true, laidLooks := .later }
def FnLeasesUptoCardSaid : Prop := Claim7.holds Tryd.pinned (.plain (OpenSpec.upto fnLeasesSpec)) fnLeasesUptoCard
end Rows
end Go.Proofs.YtdacjpebgklneaaDoor
