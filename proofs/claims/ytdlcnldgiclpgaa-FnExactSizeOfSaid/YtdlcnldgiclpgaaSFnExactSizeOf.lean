/- The pure statement of the law FnExactSizeOf: for all values that an argument can be read as. -/
import Derived.Test.YtdlcnldgiclpgaaPr3
import Derived.Test.YtdlcnldgiclpgaaOpn
namespace Go.Proofs.Ytdlcnldgiclpgaa.SFnExactSizeOf
open Go.RowKit Go.Proofs.YtdlcnldgiclpgaaW.PrintWords Go.Proofs.YtdlcnldgiclpgaaW.PrintLast Go.Proofs.YtdlcnldgiclpgaaW.PrintMore Go.Proofs.Ytdlcnldgiclpgaa.Pr Go.Proofs.Ytdlcnldgiclpgaa.Opn
set_option linter.unusedVariables false
def wf59 (x : S59) : Prop := ((Lit.int .i64 x.f0).wf = true) ∧ (x.f1.size ≤ maxLen)
set_option maxRecDepth 100000 in
theorem op59 : Opens Try.prog k59 wf59 59 := opens_iso (opens_struct Try.underlying59 (by kernel_rfl) (opensF_cons (opens_int .i64 Try.underlying3) rfl (by kernel_rfl) (opensF_one (opens_string Try.underlying9) rfl (by kernel_rfl)))) _ (fun p => (⟨p.1, p.2⟩ : S59)) (fun _ => rfl)
def Pure : Prop := ∀ (l0 : List (S59)) (a1 : Int), (l0.length ≤ maxLen ∧ ∀ y ∈ l0, wf59 y) → (Lit.int .i64 a1).wf = true → ∃ k, laws_FnExactSizeOf.f k l0 a1 = some true
end Go.Proofs.Ytdlcnldgiclpgaa.SFnExactSizeOf
