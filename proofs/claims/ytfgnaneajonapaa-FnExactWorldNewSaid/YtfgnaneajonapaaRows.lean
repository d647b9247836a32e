/-
  No cell of these rows narrows 'for every input' (looked for: loops, veiled, ifaces, maps, wideKeys, modest, calm, conditions, laid).
  DERIVED. THE GIVEN ROWS OF THIS SEAT. 8 by the template 'for every input the law returns true; each argument reads behind the call as it read before'; 0 by the template 'total and deterministic' (their statements: YtfgnaneajonapaaTotals.lean).
  GIVEN WITH THE SEED: the statements are not yours to turn. If you find one false, say at which input.
  Laid BY PROGRAM, IN A SANDBOX (cutbox-rows.mjs): the forced cells as the released guide's own fill.sh prints them over the translation 6e9b2776d100a18a… (all of the seat's roots in one cut). By AI agents, Wed Nov 11 2026. No macro, syntax, notation, axiom, sorry.
-/
import Derived.Test.YtfgnaneajonapaaChecked
import GoSem.Claim
import GoSem.ClaimJoined
import GoSem.ClaimMapViews
import Derived.JoinedTies
import Derived.KernelRfl
namespace Go.Proofs.Ytfgnaneajonapaa
/- THE CELL 'sum', in the pinned program and in every row, IS THE sha256 OF THE DUMP (.gsa) THAT YtfgnaneajonapaaProg.lean LOADS. Nothing in Lean hashes anything: it is a label: what it is worth is what the hold of that sum in a sandbox is worth. -/
noncomputable def Try.pinned : Pinned := { name := "ytfgnaneajonapaa", sum := "6e9b2776d100a18abc401490583785c884abab1be3147f47c2ac7ebd3b804e93", checked := Try.checked }
namespace Rows
def none {H : Type} : Left H := { results := [], args := [] }

/-- 'laws.FnExactLeftOf': WHATEVER THE INPUT: true; the input reads as it did. -/
def fnExactLeftOfSpec : ChangeSpec := { name := "fnExactLeftOf", fn := fun _ => fun
  | [d1, d2, d3] => { results := [.lit (.bool true)], args := [d1, d2, d3] }
  | _ => none }
def fnExactLeftOfRow : OpenClaim := { program := "ytfgnaneajonapaa", sum := "6e9b2776d100a18abc401490583785c884abab1be3147f47c2ac7ebd3b804e93", func := "loop.example/g00197/laws.FnExactLeftOf", spec := "fnExactLeftOf", unfollowed := true, recurses := true, apart := false }
def FnExactLeftOfSaid : Prop := fnExactLeftOfRow.holds Try.pinned (OpenSpec.ofChange fnExactLeftOfSpec)

/-- ITS FALSE NEIGHBOUR: 'it returns false'. Refute it at one input. -/
def fnExactLeftOfWrong : ChangeSpec := { name := "fnExactLeftOf", fn := fun _ => fun
  | [d1, d2, d3] => { results := [.lit (.bool false)], args := [d1, d2, d3] }
  | _ => none }
def FnExactLeftOfWrongFalsely : Prop := fnExactLeftOfRow.holds Try.pinned (OpenSpec.ofChange fnExactLeftOfWrong)

/-- 'laws.FnExactUnitsOf': WHATEVER THE INPUT: true; the input reads as it did. -/
def fnExactUnitsOfSpec : ChangeSpec := { name := "fnExactUnitsOf", fn := fun _ => fun
  | [d1, d2, d3] => { results := [.lit (.bool true)], args := [d1, d2, d3] }
  | _ => none }
def fnExactUnitsOfRow : OpenClaim := { program := "ytfgnaneajonapaa", sum := "6e9b2776d100a18abc401490583785c884abab1be3147f47c2ac7ebd3b804e93", func := "loop.example/g00197/laws.FnExactUnitsOf", spec := "fnExactUnitsOf", unfollowed := true, recurses := true, apart := false }
def FnExactUnitsOfSaid : Prop := fnExactUnitsOfRow.holds Try.pinned (OpenSpec.ofChange fnExactUnitsOfSpec)

/-- ITS FALSE NEIGHBOUR: 'it returns false'. Refute it at one input. -/
def fnExactUnitsOfWrong : ChangeSpec := { name := "fnExactUnitsOf", fn := fun _ => fun
  | [d1, d2, d3] => { results := [.lit (.bool false)], args := [d1, d2, d3] }
  | _ => none }
def FnExactUnitsOfWrongFalsely : Prop := fnExactUnitsOfRow.holds Try.pinned (OpenSpec.ofChange fnExactUnitsOfWrong)

/-- 'laws.FnExactServerNew': WHATEVER THE INPUT: true; the input reads as it did. -/
def fnExactServerNewSpec : ChangeSpec := { name := "fnExactServerNew", fn := fun _ => fun
  | [] => { results := [.lit (.bool true)], args := [] }
  | _ => none }
def fnExactServerNewRow : OpenClaim := { program := "ytfgnaneajonapaa", sum := "6e9b2776d100a18abc401490583785c884abab1be3147f47c2ac7ebd3b804e93", func := "loop.example/g00197/laws.FnExactServerNew", spec := "fnExactServerNew", apart := false }
def FnExactServerNewSaid : Prop := fnExactServerNewRow.holds Try.pinned (OpenSpec.ofChange fnExactServerNewSpec)

/-- ITS FALSE NEIGHBOUR: 'it returns false'. Refute it at one input. -/
def fnExactServerNewWrong : ChangeSpec := { name := "fnExactServerNew", fn := fun _ => fun
  | [] => { results := [.lit (.bool false)], args := [] }
  | _ => none }
def FnExactServerNewWrongFalsely : Prop := fnExactServerNewRow.holds Try.pinned (OpenSpec.ofChange fnExactServerNewWrong)

/-- 'laws.FnExactPlaceGroup': WHATEVER THE INPUT: true; the input reads as it did. -/
def fnExactPlaceGroupSpec : ChangeSpec := { name := "fnExactPlaceGroup", fn := fun _ => fun
  | [d1, d2] => { results := [.lit (.bool true)], args := [d1, d2] }
  | _ => none }
def fnExactPlaceGroupRow : OpenClaim := { program := "ytfgnaneajonapaa", sum := "6e9b2776d100a18abc401490583785c884abab1be3147f47c2ac7ebd3b804e93", func := "loop.example/g00197/laws.FnExactPlaceGroup", spec := "fnExactPlaceGroup", unfollowed := true, recurses := true, apart := false }
def FnExactPlaceGroupSaid : Prop := fnExactPlaceGroupRow.holds Try.pinned (OpenSpec.ofChange fnExactPlaceGroupSpec)

/-- ITS FALSE NEIGHBOUR: 'it returns false'. Refute it at one input. -/
def fnExactPlaceGroupWrong : ChangeSpec := { name := "fnExactPlaceGroup", fn := fun _ => fun
  | [d1, d2] => { results := [.lit (.bool false)], args := [d1, d2] }
  | _ => none }
def FnExactPlaceGroupWrongFalsely : Prop := fnExactPlaceGroupRow.holds Try.pinned (OpenSpec.ofChange fnExactPlaceGroupWrong)

/-- 'laws.FnExactMayWrite': WHATEVER THE INPUT: true; the input reads as it did. -/
def fnExactMayWriteSpec : ChangeSpec := { name := "fnExactMayWrite", fn := fun _ => fun
  | [d1, d2] => { results := [.lit (.bool true)], args := [d1, d2] }
  | _ => none }
def fnExactMayWriteRow : OpenClaim := { program := "ytfgnaneajonapaa", sum := "6e9b2776d100a18abc401490583785c884abab1be3147f47c2ac7ebd3b804e93", func := "loop.example/g00197/laws.FnExactMayWrite", spec := "fnExactMayWrite", unfollowed := true, recurses := true, apart := false }
def FnExactMayWriteSaid : Prop := fnExactMayWriteRow.holds Try.pinned (OpenSpec.ofChange fnExactMayWriteSpec)

/-- ITS FALSE NEIGHBOUR: 'it returns false'. Refute it at one input. -/
def fnExactMayWriteWrong : ChangeSpec := { name := "fnExactMayWrite", fn := fun _ => fun
  | [d1, d2] => { results := [.lit (.bool false)], args := [d1, d2] }
  | _ => none }
def FnExactMayWriteWrongFalsely : Prop := fnExactMayWriteRow.holds Try.pinned (OpenSpec.ofChange fnExactMayWriteWrong)

/-- 'laws.FnExactWorldNew': WHATEVER THE INPUT: true; the input reads as it did. -/
def fnExactWorldNewSpec : ChangeSpec := { name := "fnExactWorldNew", fn := fun _ => fun
  | [] => { results := [.lit (.bool true)], args := [] }
  | _ => none }
def fnExactWorldNewRow : OpenClaim := { program := "ytfgnaneajonapaa", sum := "6e9b2776d100a18abc401490583785c884abab1be3147f47c2ac7ebd3b804e93", func := "loop.example/g00197/laws.FnExactWorldNew", spec := "fnExactWorldNew", apart := false }
def FnExactWorldNewSaid : Prop := fnExactWorldNewRow.holds Try.pinned (OpenSpec.ofChange fnExactWorldNewSpec)

/-- ITS FALSE NEIGHBOUR: 'it returns false'. Refute it at one input. -/
def fnExactWorldNewWrong : ChangeSpec := { name := "fnExactWorldNew", fn := fun _ => fun
  | [] => { results := [.lit (.bool false)], args := [] }
  | _ => none }
def FnExactWorldNewWrongFalsely : Prop := fnExactWorldNewRow.holds Try.pinned (OpenSpec.ofChange fnExactWorldNewWrong)

/-- 'laws.FnExactReadGroup': WHATEVER THE INPUT: true; the input reads as it did. -/
def fnExactReadGroupSpec : ChangeSpec := { name := "fnExactReadGroup", fn := fun _ => fun
  | [d1, d2, d3, d4] => { results := [.lit (.bool true)], args := [d1, d2, d3, d4] }
  | _ => none }
def fnExactReadGroupRow : OpenClaim := { program := "ytfgnaneajonapaa", sum := "6e9b2776d100a18abc401490583785c884abab1be3147f47c2ac7ebd3b804e93", func := "loop.example/g00197/laws.FnExactReadGroup", spec := "fnExactReadGroup", unfollowed := true, recurses := true, apart := false }
def FnExactReadGroupSaid : Prop := fnExactReadGroupRow.holds Try.pinned (OpenSpec.ofChange fnExactReadGroupSpec)

/-- ITS FALSE NEIGHBOUR: 'it returns false'. Refute it at one input. -/
def fnExactReadGroupWrong : ChangeSpec := { name := "fnExactReadGroup", fn := fun _ => fun
  | [d1, d2, d3, d4] => { results := [.lit (.bool false)], args := [d1, d2, d3, d4] }
  | _ => none }
def FnExactReadGroupWrongFalsely : Prop := fnExactReadGroupRow.holds Try.pinned (OpenSpec.ofChange fnExactReadGroupWrong)

/-- 'laws.FnExactEnoughLeft': WHATEVER THE INPUT: true; the input reads as it did. -/
def fnExactEnoughLeftSpec : ChangeSpec := { name := "fnExactEnoughLeft", fn := fun _ => fun
  | [d] => { results := [.lit (.bool true)], args := [d] }
  | _ => none }
def fnExactEnoughLeftRow : OpenClaim := { program := "ytfgnaneajonapaa", sum := "6e9b2776d100a18abc401490583785c884abab1be3147f47c2ac7ebd3b804e93", func := "loop.example/g00197/laws.FnExactEnoughLeft", spec := "fnExactEnoughLeft", unfollowed := true, recurses := true, apart := false }
def FnExactEnoughLeftSaid : Prop := fnExactEnoughLeftRow.holds Try.pinned (OpenSpec.ofChange fnExactEnoughLeftSpec)

/-- ITS FALSE NEIGHBOUR: 'it returns false'. Refute it at one input. -/
def fnExactEnoughLeftWrong : ChangeSpec := { name := "fnExactEnoughLeft", fn := fun _ => fun
  | [d] => { results := [.lit (.bool false)], args := [d] }
  | _ => none }
def FnExactEnoughLeftWrongFalsely : Prop := fnExactEnoughLeftRow.holds Try.pinned (OpenSpec.ofChange fnExactEnoughLeftWrong)

/- THE SECOND FORM. 'bulk': how many values and letters a reading holds, each counted each time it is reached (what is shared counts as often as it is met; a slice's spare places count too). A statement '..UptoSaid' is the law's where the arguments, and the package variables that the reading takes, are together of bulk at most 1048576: NARROWER than '..Said'. Prove '..Said' where nothing that the law and all that it calls make is longer than what came in: it says more and counts as full. Else prove '..UptoSaid'. A law counts once. -/
mutual
def uptoBulk {H : Type} : DataW H → Nat
  | .lit (.string bytes) => bytes.length + 1
  | .lit _ => 1
  | .nil => 1
  | .ptr d => uptoBulk d + 1
  | .slice elems spare => uptoBulkAll elems + uptoBulkAll spare + 1
  | .agg parts => uptoBulkAll parts + 1
  | .iface _ d => uptoBulk d + 1
  | .map entries => uptoBulkEntries entries + 1
  | .held _ => 1
def uptoBulkAll {H : Type} : List (DataW H) → Nat
  | [] => 0
  | d :: r => uptoBulk d + uptoBulkAll r
def uptoBulkEntries {H : Type} : List (Lit × DataW H) → Nat
  | [] => 0
  | x :: r => uptoBulkEntry x + uptoBulkEntries r
def uptoBulkEntry {H : Type} : Lit × DataW H → Nat
  | (.string bytes, d) => bytes.length + uptoBulk d + 1
  | (_, d) => uptoBulk d + 1
 end
def uptoSmall : (H : Type) → List (DataW H) → Bool := fun _ ds => decide (uptoBulkAll ds ≤ 1048576)
def OpenSpec.upto (s : _root_.Go.ChangeSpec) : _root_.Go.OpenSpec := { _root_.Go.OpenSpec.ofChange s with cond := some uptoSmall }

/-- 'laws.FnExactLeftOf', WHERE WHAT IT READS IS OF BULK AT MOST 1048576: true; the input reads as it did. -/
def fnExactLeftOfUptoRow : OpenClaim := { program := "ytfgnaneajonapaa", sum := "6e9b2776d100a18abc401490583785c884abab1be3147f47c2ac7ebd3b804e93", func := "loop.example/g00197/laws.FnExactLeftOf", spec := "fnExactLeftOf", unfollowed := true, recurses := true, apart := false, narrowed := true }
def FnExactLeftOfUptoSaid : Prop := fnExactLeftOfUptoRow.holds Try.pinned (OpenSpec.upto fnExactLeftOfSpec)

/-- 'laws.FnExactUnitsOf', WHERE WHAT IT READS IS OF BULK AT MOST 1048576: true; the input reads as it did. -/
def fnExactUnitsOfUptoRow : OpenClaim := { program := "ytfgnaneajonapaa", sum := "6e9b2776d100a18abc401490583785c884abab1be3147f47c2ac7ebd3b804e93", func := "loop.example/g00197/laws.FnExactUnitsOf", spec := "fnExactUnitsOf", unfollowed := true, recurses := true, apart := false, narrowed := true }
def FnExactUnitsOfUptoSaid : Prop := fnExactUnitsOfUptoRow.holds Try.pinned (OpenSpec.upto fnExactUnitsOfSpec)

/-- 'laws.FnExactServerNew', WHERE WHAT IT READS IS OF BULK AT MOST 1048576: true; the input reads as it did. -/
def fnExactServerNewUptoRow : OpenClaim := { program := "ytfgnaneajonapaa", sum := "6e9b2776d100a18abc401490583785c884abab1be3147f47c2ac7ebd3b804e93", func := "loop.example/g00197/laws.FnExactServerNew", spec := "fnExactServerNew", apart := false, narrowed := true }
def FnExactServerNewUptoSaid : Prop := fnExactServerNewUptoRow.holds Try.pinned (OpenSpec.upto fnExactServerNewSpec)

/-- 'laws.FnExactPlaceGroup', WHERE WHAT IT READS IS OF BULK AT MOST 1048576: true; the input reads as it did. -/
def fnExactPlaceGroupUptoRow : OpenClaim := { program := "ytfgnaneajonapaa", sum := "6e9b2776d100a18abc401490583785c884abab1be3147f47c2ac7ebd3b804e93", func := "loop.example/g00197/laws.FnExactPlaceGroup", spec := "fnExactPlaceGroup", unfollowed := true, recurses := true, apart := false, narrowed := true }
def FnExactPlaceGroupUptoSaid : Prop := fnExactPlaceGroupUptoRow.holds Try.pinned (OpenSpec.upto fnExactPlaceGroupSpec)

/-- 'laws.FnExactMayWrite', WHERE WHAT IT READS IS OF BULK AT MOST 1048576: true; the input reads as it did. -/
def fnExactMayWriteUptoRow : OpenClaim := { program := "ytfgnaneajonapaa", sum := "6e9b2776d100a18abc401490583785c884abab1be3147f47c2ac7ebd3b804e93", func := "loop.example/g00197/laws.FnExactMayWrite", spec := "fnExactMayWrite", unfollowed := true, recurses := true, apart := false, narrowed := true }
def FnExactMayWriteUptoSaid : Prop := fnExactMayWriteUptoRow.holds Try.pinned (OpenSpec.upto fnExactMayWriteSpec)

/-- 'laws.FnExactWorldNew', WHERE WHAT IT READS IS OF BULK AT MOST 1048576: true; the input reads as it did. -/
def fnExactWorldNewUptoRow : OpenClaim := { program := "ytfgnaneajonapaa", sum := "6e9b2776d100a18abc401490583785c884abab1be3147f47c2ac7ebd3b804e93", func := "loop.example/g00197/laws.FnExactWorldNew", spec := "fnExactWorldNew", apart := false, narrowed := true }
def FnExactWorldNewUptoSaid : Prop := fnExactWorldNewUptoRow.holds Try.pinned (OpenSpec.upto fnExactWorldNewSpec)

/-- 'laws.FnExactReadGroup', WHERE WHAT IT READS IS OF BULK AT MOST 1048576: true; the input reads as it did. -/
def fnExactReadGroupUptoRow : OpenClaim := { program := "ytfgnaneajonapaa", sum := "6e9b2776d100a18abc401490583785c884abab1be3147f47c2ac7ebd3b804e93", func := "loop.example/g00197/laws.FnExactReadGroup", spec := "fnExactReadGroup", unfollowed := true, recurses := true, apart := false, narrowed := true }
def FnExactReadGroupUptoSaid : Prop := fnExactReadGroupUptoRow.holds Try.pinned (OpenSpec.upto fnExactReadGroupSpec)

/-- 'laws.FnExactEnoughLeft', WHERE WHAT IT READS IS OF BULK AT MOST 1048576: true; the input reads as it did. -/
def fnExactEnoughLeftUptoRow : OpenClaim := { program := "ytfgnaneajonapaa", sum := "6e9b2776d100a18abc401490583785c884abab1be3147f47c2ac7ebd3b804e93", func := "loop.example/g00197/laws.FnExactEnoughLeft", spec := "fnExactEnoughLeft", unfollowed := true, recurses := true, apart := false, narrowed := true }
def FnExactEnoughLeftUptoSaid : Prop := fnExactEnoughLeftUptoRow.holds Try.pinned (OpenSpec.upto fnExactEnoughLeftSpec)

end Rows
end Go.Proofs.Ytfgnaneajonapaa
