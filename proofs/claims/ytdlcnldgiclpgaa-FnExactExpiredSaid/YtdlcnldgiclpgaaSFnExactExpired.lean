/- The pure statement of the law FnExactExpired: for all values that an argument can be read as. -/
import Derived.Test.YtdlcnldgiclpgaaPr7
import Derived.Test.YtdlcnldgiclpgaaOpn
namespace Go.Proofs.Ytdlcnldgiclpgaa.SFnExactExpired
open Go.RowKit Go.Proofs.YtdlcnldgiclpgaaW.PrintWords Go.Proofs.YtdlcnldgiclpgaaW.PrintLast Go.Proofs.YtdlcnldgiclpgaaW.PrintMore Go.Proofs.Ytdlcnldgiclpgaa.Pr Go.Proofs.Ytdlcnldgiclpgaa.Opn
set_option linter.unusedVariables false
def wf63 (x : S63) : Prop := (x.f0.size ≤ maxLen) ∧ ((Lit.int .i64 x.f1).wf = true) ∧ ((Lit.int .i64 x.f2).wf = true)
set_option maxRecDepth 100000 in
theorem op63 : Opens Try.prog k63 wf63 63 := opens_iso (opens_struct Try.underlying63 (by kernel_rfl) (opensF_cons (opens_string Try.underlying9) rfl (by kernel_rfl) (opensF_cons (opens_int .i64 Try.underlying3) rfl (by kernel_rfl) (opensF_one (opens_int .i64 Try.underlying3) rfl (by kernel_rfl))))) _ (fun p => (⟨p.1, p.2.1, p.2.2⟩ : S63)) (fun _ => rfl)
def Pure : Prop := ∀ (l0 : List (S63)) (a1 : Int), (l0.length ≤ maxLen ∧ ∀ y ∈ l0, wf63 y) → (Lit.int .i64 a1).wf = true → ∃ k, laws_FnExactExpired.f k l0 a1 = some true
end Go.Proofs.Ytdlcnldgiclpgaa.SFnExactExpired
