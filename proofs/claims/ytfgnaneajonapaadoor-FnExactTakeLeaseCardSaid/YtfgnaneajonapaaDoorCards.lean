/-
  DERIVED. GIVEN WITH THE SEED: THE CARDS: each row of YtfgnaneajonapaaDoorRows.lean that lists a variable, with what it lists TIED to the program's text (the seventh form; the later family's looks); each row that meets fmt, with fmt's text TOLD by the authors' own Lean function (tested against real Go, not proved from fmt's source: count such statements apart). THE CARD IS WHAT COUNTS. Prove the row's statement (the work); the ties are given (YtfgnaneajonapaaDoorTie.lean); close each card by the builder's one call (the guide's Derived/Test/ToyasCard.lean, 'card_holds'). Laid BY PROGRAM, IN A SANDBOX (cutbox-door.mjs). By AI agents, Wed Nov 11 2026. No macro, syntax, notation, axiom, sorry.
-/
import Derived.Test.YtfgnaneajonapaaDoorRows
import GoSem.ClaimSeven
namespace Go.Proofs.YtfgnaneajonapaaDoor
namespace Rows

/-- THE TIED CARD OF 'laws.FnExactLeasesOk'. -/
def fnExactLeasesOkCard : Claim7 := { stood := { row := fnExactLeasesOkRow, standIns := [], harness := (true, "6ae25a006264c8382db9db714de4022ffb65461f4b7bc5ea56d25c69de47efd8"), looks := false }, kinds := [], alts := [], laidByText := true, laidKinds := [.data, .pinned], laidTests := true, laidLooks := .later }
def FnExactLeasesOkCardSaid : Prop := Claim7.holds Tryd.pinned (.plain (OpenSpec.ofChange fnExactLeasesOkSpec)) fnExactLeasesOkCard

/-- THE TIED CARD OF 'laws.FnExactAskOk'. -/
def fnExactAskOkCard : Claim7 := { stood := { row := fnExactAskOkRow, standIns := [], harness := (true, "6ae25a006264c8382db9db714de4022ffb65461f4b7bc5ea56d25c69de47efd8"), looks := false }, kinds := [], alts := [], laidByText := true, laidKinds := [.data, .pinned], laidTests := true, laidLooks := .later }
def FnExactAskOkCardSaid : Prop := Claim7.holds Tryd.pinned (.plain (OpenSpec.ofChange fnExactAskOkSpec)) fnExactAskOkCard

/-- THE TIED CARD OF 'laws.FnExactEventOk'. -/
def fnExactEventOkCard : Claim7 := { stood := { row := fnExactEventOkRow, standIns := [], harness := (true, "6ae25a006264c8382db9db714de4022ffb65461f4b7bc5ea56d25c69de47efd8"), looks := false }, kinds := [], alts := [], laidByText := true, laidKinds := [.data, .pinned], laidTests := true, laidLooks := .later }
def FnExactEventOkCardSaid : Prop := Claim7.holds Tryd.pinned (.plain (OpenSpec.ofChange fnExactEventOkSpec)) fnExactEventOkCard

/-- THE TIED CARD OF 'laws.FnExactTakeLease'. -/
def fnExactTakeLeaseCard : Claim7 := { stood := { row := fnExactTakeLeaseRow, standIns := [], harness := (true, "6ae25a006264c8382db9db714de4022ffb65461f4b7bc5ea56d25c69de47efd8"), looks := false }, kinds := [], alts := [], laidByText := true, laidKinds := [.data, .pinned], laidTests := true, laidLooks := .later }
def FnExactTakeLeaseCardSaid : Prop := Claim7.holds Tryd.pinned (.plain (OpenSpec.ofChange fnExactTakeLeaseSpec)) fnExactTakeLeaseCard

/-- THE SECOND FORM's CARD OF 'laws.FnExactLeasesOk'. -/
def fnExactLeasesOkUptoCard : Claim7 := { stood := { row := fnExactLeasesOkUptoRow, standIns := [], harness := (true, "6ae25a006264c8382db9db714de4022ffb65461f4b7bc5ea56d25c69de47efd8"), looks := false }, kinds := [], alts := [], laidByText := true, laidKinds := [.data, .pinned], laidTests := true, laidLooks := .later }
def FnExactLeasesOkUptoCardSaid : Prop := Claim7.holds Tryd.pinned (.plain (OpenSpec.upto fnExactLeasesOkSpec)) fnExactLeasesOkUptoCard

/-- THE SECOND FORM's CARD OF 'laws.FnExactAskOk'. -/
def fnExactAskOkUptoCard : Claim7 := { stood := { row := fnExactAskOkUptoRow, standIns := [], harness := (true, "6ae25a006264c8382db9db714de4022ffb65461f4b7bc5ea56d25c69de47efd8"), looks := false }, kinds := [], alts := [], laidByText := true, laidKinds := [.data, .pinned], laidTests := true, laidLooks := .later }
def FnExactAskOkUptoCardSaid : Prop := Claim7.holds Tryd.pinned (.plain (OpenSpec.upto fnExactAskOkSpec)) fnExactAskOkUptoCard

/-- THE SECOND FORM's CARD OF 'laws.FnExactEventOk'. -/
def fnExactEventOkUptoCard : Claim7 := { stood := { row := fnExactEventOkUptoRow, standIns := [], harness := (true, "6ae25a006264c8382db9db714de4022ffb65461f4b7bc5ea56d25c69de47efd8"), looks := false }, kinds := [], alts := [], laidByText := true, laidKinds := [.data, .pinned], laidTests := true, laidLooks := .later }
def FnExactEventOkUptoCardSaid : Prop := Claim7.holds Tryd.pinned (.plain (OpenSpec.upto fnExactEventOkSpec)) fnExactEventOkUptoCard

/-- THE SECOND FORM's CARD OF 'laws.FnExactTakeLease'. -/
def fnExactTakeLeaseUptoCard : Claim7 := { stood := { row := fnExactTakeLeaseUptoRow, standIns := [], harness := (true, "6ae25a006264c8382db9db714de4022ffb65461f4b7bc5ea56d25c69de47efd8"), looks := false }, kinds := [], alts := [], laidByText := true, laidKinds := [.data, .pinned], laidTests := true, laidLooks := .later }
def FnExactTakeLeaseUptoCardSaid : Prop := Claim7.holds Tryd.pinned (.plain (OpenSpec.upto fnExactTakeLeaseSpec)) fnExactTakeLeaseUptoCard
end Rows
end Go.Proofs.YtfgnaneajonapaaDoor
