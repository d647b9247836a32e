/-
  No cell of these rows narrows 'for every input' (looked for: loops, veiled, ifaces, maps, wideKeys, modest, calm, conditions, laid).
  DERIVED. THE GIVEN ROWS OF THIS SEAT. 6 by the template 'for every input the law returns true; each argument reads behind the call as it read before'; 0 by the template 'total and deterministic' (their statements: YtdlcnldgiclpgaaTotals.lean).
  GIVEN WITH THE SEED: the statements are not yours to turn. If you find one false, say at which input.
  Laid BY PROGRAM, IN A SANDBOX (cutbox-rows.mjs): the forced cells as the released guide's own fill.sh prints them over the translation 8c885bcbc40d228a… (all of the seat's roots in one cut). By AI agents, Wed Nov 11 2026. No macro, syntax, notation, axiom, sorry.
-/
import Derived.Test.YtdlcnldgiclpgaaChecked
import GoSem.Claim
import GoSem.ClaimJoined
import GoSem.ClaimMapViews
import Derived.JoinedTies
import Derived.KernelRfl
namespace Go.Proofs.Ytdlcnldgiclpgaa
/- THE CELL 'sum', in the pinned program and in every row, IS THE sha256 OF THE DUMP (.gsa) THAT YtdlcnldgiclpgaaProg.lean LOADS. Nothing in Lean hashes anything: it is a label: what it is worth is what the hold of that sum in a sandbox is worth. -/
noncomputable def Try.pinned : Pinned := { name := "ytdlcnldgiclpgaa", sum := "8c885bcbc40d228a743f87a232b9dc33464004404272fc96c8e849274eb08a81", checked := Try.checked }
namespace Rows
def none {H : Type} : Left H := { results := [], args := [] }

/-- 'laws.FnExactSizeOf': WHATEVER THE INPUT: true; the input reads as it did. -/
def fnExactSizeOfSpec : ChangeSpec := { name := "fnExactSizeOf", fn := fun _ => fun
  | [d1, d2] => { results := [.lit (.bool true)], args := [d1, d2] }
  | _ => none }
def fnExactSizeOfRow : OpenClaim := { program := "ytdlcnldgiclpgaa", sum := "8c885bcbc40d228a743f87a232b9dc33464004404272fc96c8e849274eb08a81", func := "loop.example/g00197/laws.FnExactSizeOf", spec := "fnExactSizeOf", apart := false }
def FnExactSizeOfSaid : Prop := fnExactSizeOfRow.holds Try.pinned (OpenSpec.ofChange fnExactSizeOfSpec)

/-- ITS FALSE NEIGHBOUR: 'it returns false'. Refute it at one input. -/
def fnExactSizeOfWrong : ChangeSpec := { name := "fnExactSizeOf", fn := fun _ => fun
  | [d1, d2] => { results := [.lit (.bool false)], args := [d1, d2] }
  | _ => none }
def FnExactSizeOfWrongFalsely : Prop := fnExactSizeOfRow.holds Try.pinned (OpenSpec.ofChange fnExactSizeOfWrong)

/-- 'laws.FnExactHolderOf': WHATEVER THE INPUT: true; the input reads as it did. -/
def fnExactHolderOfSpec : ChangeSpec := { name := "fnExactHolderOf", fn := fun _ => fun
  | [d1, d2] => { results := [.lit (.bool true)], args := [d1, d2] }
  | _ => none }
def fnExactHolderOfRow : OpenClaim := { program := "ytdlcnldgiclpgaa", sum := "8c885bcbc40d228a743f87a232b9dc33464004404272fc96c8e849274eb08a81", func := "loop.example/g00197/laws.FnExactHolderOf", spec := "fnExactHolderOf", apart := false }
def FnExactHolderOfSaid : Prop := fnExactHolderOfRow.holds Try.pinned (OpenSpec.ofChange fnExactHolderOfSpec)

/-- ITS FALSE NEIGHBOUR: 'it returns false'. Refute it at one input. -/
def fnExactHolderOfWrong : ChangeSpec := { name := "fnExactHolderOf", fn := fun _ => fun
  | [d1, d2] => { results := [.lit (.bool false)], args := [d1, d2] }
  | _ => none }
def FnExactHolderOfWrongFalsely : Prop := fnExactHolderOfRow.holds Try.pinned (OpenSpec.ofChange fnExactHolderOfWrong)

/-- 'laws.FnExactEditOf': WHATEVER THE INPUT: true; the input reads as it did. -/
def fnExactEditOfSpec : ChangeSpec := { name := "fnExactEditOf", fn := fun _ => fun
  | [d] => { results := [.lit (.bool true)], args := [d] }
  | _ => none }
def fnExactEditOfRow : OpenClaim := { program := "ytdlcnldgiclpgaa", sum := "8c885bcbc40d228a743f87a232b9dc33464004404272fc96c8e849274eb08a81", func := "loop.example/g00197/laws.FnExactEditOf", spec := "fnExactEditOf", apart := false }
def FnExactEditOfSaid : Prop := fnExactEditOfRow.holds Try.pinned (OpenSpec.ofChange fnExactEditOfSpec)

/-- ITS FALSE NEIGHBOUR: 'it returns false'. Refute it at one input. -/
def fnExactEditOfWrong : ChangeSpec := { name := "fnExactEditOf", fn := fun _ => fun
  | [d] => { results := [.lit (.bool false)], args := [d] }
  | _ => none }
def FnExactEditOfWrongFalsely : Prop := fnExactEditOfRow.holds Try.pinned (OpenSpec.ofChange fnExactEditOfWrong)

/-- 'laws.FnExactRenewLeases': WHATEVER THE INPUT: true; the input reads as it did. -/
def fnExactRenewLeasesSpec : ChangeSpec := { name := "fnExactRenewLeases", fn := fun _ => fun
  | [d1, d2, d3] => { results := [.lit (.bool true)], args := [d1, d2, d3] }
  | _ => none }
def fnExactRenewLeasesRow : OpenClaim := { program := "ytdlcnldgiclpgaa", sum := "8c885bcbc40d228a743f87a232b9dc33464004404272fc96c8e849274eb08a81", func := "loop.example/g00197/laws.FnExactRenewLeases", spec := "fnExactRenewLeases", apart := false }
def FnExactRenewLeasesSaid : Prop := fnExactRenewLeasesRow.holds Try.pinned (OpenSpec.ofChange fnExactRenewLeasesSpec)

/-- ITS FALSE NEIGHBOUR: 'it returns false'. Refute it at one input. -/
def fnExactRenewLeasesWrong : ChangeSpec := { name := "fnExactRenewLeases", fn := fun _ => fun
  | [d1, d2, d3] => { results := [.lit (.bool false)], args := [d1, d2, d3] }
  | _ => none }
def FnExactRenewLeasesWrongFalsely : Prop := fnExactRenewLeasesRow.holds Try.pinned (OpenSpec.ofChange fnExactRenewLeasesWrong)

/-- 'laws.FnExactExpired': WHATEVER THE INPUT: true; the input reads as it did. -/
def fnExactExpiredSpec : ChangeSpec := { name := "fnExactExpired", fn := fun _ => fun
  | [d1, d2] => { results := [.lit (.bool true)], args := [d1, d2] }
  | _ => none }
def fnExactExpiredRow : OpenClaim := { program := "ytdlcnldgiclpgaa", sum := "8c885bcbc40d228a743f87a232b9dc33464004404272fc96c8e849274eb08a81", func := "loop.example/g00197/laws.FnExactExpired", spec := "fnExactExpired", apart := false }
def FnExactExpiredSaid : Prop := fnExactExpiredRow.holds Try.pinned (OpenSpec.ofChange fnExactExpiredSpec)

/-- ITS FALSE NEIGHBOUR: 'it returns false'. Refute it at one input. -/
def fnExactExpiredWrong : ChangeSpec := { name := "fnExactExpired", fn := fun _ => fun
  | [d1, d2] => { results := [.lit (.bool false)], args := [d1, d2] }
  | _ => none }
def FnExactExpiredWrongFalsely : Prop := fnExactExpiredRow.holds Try.pinned (OpenSpec.ofChange fnExactExpiredWrong)

/-- 'laws.FnExactDropLease': WHATEVER THE INPUT: true; the input reads as it did. -/
def fnExactDropLeaseSpec : ChangeSpec := { name := "fnExactDropLease", fn := fun _ => fun
  | [d1, d2] => { results := [.lit (.bool true)], args := [d1, d2] }
  | _ => none }
def fnExactDropLeaseRow : OpenClaim := { program := "ytdlcnldgiclpgaa", sum := "8c885bcbc40d228a743f87a232b9dc33464004404272fc96c8e849274eb08a81", func := "loop.example/g00197/laws.FnExactDropLease", spec := "fnExactDropLease", unfollowed := true, recurses := true, apart := false }
def FnExactDropLeaseSaid : Prop := fnExactDropLeaseRow.holds Try.pinned (OpenSpec.ofChange fnExactDropLeaseSpec)

/-- ITS FALSE NEIGHBOUR: 'it returns false'. Refute it at one input. -/
def fnExactDropLeaseWrong : ChangeSpec := { name := "fnExactDropLease", fn := fun _ => fun
  | [d1, d2] => { results := [.lit (.bool false)], args := [d1, d2] }
  | _ => none }
def FnExactDropLeaseWrongFalsely : Prop := fnExactDropLeaseRow.holds Try.pinned (OpenSpec.ofChange fnExactDropLeaseWrong)

/- THE SECOND FORM. 'bulk': how many values and letters a reading holds, each counted each time it is reached (what is shared counts as often as it is met; a slice's spare places count too). A statement '..UptoSaid' is the law's where the arguments, and the package variables that the reading takes, are together of bulk at most 1048576: NARROWER than '..Said'. Prove '..Said' where nothing that the law and all that it calls make is longer than what came in: it says more and counts as full. Else prove '..UptoSaid'. A law counts once. -/
mutual
def uptoBulk {H : Type} : DataW H → Nat
  | .lit (.string bytes) => bytes.length + 1
  | .lit _ => 1
  | .nil => 1
  | .ptr d => uptoBulk d + 1
  | .slice elems spare => uptoBulkAll elems + uptoBulkAll spare + 1
  | .agg parts => uptoBulkAll parts + 1
  | .iface _ d => uptoBulk d + 1
  | .map entries => uptoBulkEntries entries + 1
  | .held _ => 1
def uptoBulkAll {H : Type} : List (DataW H) → Nat
  | [] => 0
  | d :: r => uptoBulk d + uptoBulkAll r
def uptoBulkEntries {H : Type} : List (Lit × DataW H) → Nat
  | [] => 0
  | x :: r => uptoBulkEntry x + uptoBulkEntries r
def uptoBulkEntry {H : Type} : Lit × DataW H → Nat
  | (.string bytes, d) => bytes.length + uptoBulk d + 1
  | (_, d) => uptoBulk d + 1
 end
def uptoSmall : (H : Type) → List (DataW H) → Bool := fun _ ds => decide (uptoBulkAll ds ≤ 1048576)
def OpenSpec.upto (s : _root_.Go.ChangeSpec) : _root_.Go.OpenSpec := { _root_.Go.OpenSpec.ofChange s with cond := some uptoSmall }

/-- 'laws.FnExactSizeOf', WHERE WHAT IT READS IS OF BULK AT MOST 1048576: true; the input reads as it did. -/
def fnExactSizeOfUptoRow : OpenClaim := { program := "ytdlcnldgiclpgaa", sum := "8c885bcbc40d228a743f87a232b9dc33464004404272fc96c8e849274eb08a81", func := "loop.example/g00197/laws.FnExactSizeOf", spec := "fnExactSizeOf", apart := false, narrowed := true }
def FnExactSizeOfUptoSaid : Prop := fnExactSizeOfUptoRow.holds Try.pinned (OpenSpec.upto fnExactSizeOfSpec)

/-- 'laws.FnExactHolderOf', WHERE WHAT IT READS IS OF BULK AT MOST 1048576: true; the input reads as it did. -/
def fnExactHolderOfUptoRow : OpenClaim := { program := "ytdlcnldgiclpgaa", sum := "8c885bcbc40d228a743f87a232b9dc33464004404272fc96c8e849274eb08a81", func := "loop.example/g00197/laws.FnExactHolderOf", spec := "fnExactHolderOf", apart := false, narrowed := true }
def FnExactHolderOfUptoSaid : Prop := fnExactHolderOfUptoRow.holds Try.pinned (OpenSpec.upto fnExactHolderOfSpec)

/-- 'laws.FnExactEditOf', WHERE WHAT IT READS IS OF BULK AT MOST 1048576: true; the input reads as it did. -/
def fnExactEditOfUptoRow : OpenClaim := { program := "ytdlcnldgiclpgaa", sum := "8c885bcbc40d228a743f87a232b9dc33464004404272fc96c8e849274eb08a81", func := "loop.example/g00197/laws.FnExactEditOf", spec := "fnExactEditOf", apart := false, narrowed := true }
def FnExactEditOfUptoSaid : Prop := fnExactEditOfUptoRow.holds Try.pinned (OpenSpec.upto fnExactEditOfSpec)

/-- 'laws.FnExactRenewLeases', WHERE WHAT IT READS IS OF BULK AT MOST 1048576: true; the input reads as it did. -/
def fnExactRenewLeasesUptoRow : OpenClaim := { program := "ytdlcnldgiclpgaa", sum := "8c885bcbc40d228a743f87a232b9dc33464004404272fc96c8e849274eb08a81", func := "loop.example/g00197/laws.FnExactRenewLeases", spec := "fnExactRenewLeases", apart := false, narrowed := true }
def FnExactRenewLeasesUptoSaid : Prop := fnExactRenewLeasesUptoRow.holds Try.pinned (OpenSpec.upto fnExactRenewLeasesSpec)

/-- 'laws.FnExactExpired', WHERE WHAT IT READS IS OF BULK AT MOST 1048576: true; the input reads as it did. -/
def fnExactExpiredUptoRow : OpenClaim := { program := "ytdlcnldgiclpgaa", sum := "8c885bcbc40d228a743f87a232b9dc33464004404272fc96c8e849274eb08a81", func := "loop.example/g00197/laws.FnExactExpired", spec := "fnExactExpired", apart := false, narrowed := true }
def FnExactExpiredUptoSaid : Prop := fnExactExpiredUptoRow.holds Try.pinned (OpenSpec.upto fnExactExpiredSpec)

/-- 'laws.FnExactDropLease', WHERE WHAT IT READS IS OF BULK AT MOST 1048576: true; the input reads as it did. -/
def fnExactDropLeaseUptoRow : OpenClaim := { program := "ytdlcnldgiclpgaa", sum := "8c885bcbc40d228a743f87a232b9dc33464004404272fc96c8e849274eb08a81", func := "loop.example/g00197/laws.FnExactDropLease", spec := "fnExactDropLease", unfollowed := true, recurses := true, apart := false, narrowed := true }
def FnExactDropLeaseUptoSaid : Prop := fnExactDropLeaseUptoRow.holds Try.pinned (OpenSpec.upto fnExactDropLeaseSpec)

end Rows
end Go.Proofs.Ytdlcnldgiclpgaa
