/- The law FnLoads holds for every input: the statement's row, out of its pure statement and the printed walk. -/
import Derived.Test.YthamiihdoicjkaaRows
import Derived.WalkKit
import Derived.ProofKit
import Derived.OpenShut
import Derived.ShutString
import Derived.ChangeOld
import Derived.Below
import Derived.SizedLaws
import Derived.Carry
import Derived.Test.YthamiihdoicjkaaBFnLoads1
import Derived.Test.YthamiihdoicjkaaBFnLoads2
import Derived.Test.YthamiihdoicjkaaBFnLoads3
import Derived.Test.YthamiihdoicjkaaBFnLoads4
import Derived.Test.YthamiihdoicjkaaBFnLoads5
namespace Go.Proofs.Ythamiihdoicjkaa.fnLoads
open Go.ChangeShapes Go.WideShapes Go.ChangeAt Go.RowKit Go.Proofs.YthamiihdoicjkaaW.PrintWords Go.Proofs.Ythamiihdoicjkaa.Pr Go.Proofs.Ythamiihdoicjkaa.Opn Go.Proofs.Ythamiihdoicjkaa.SFnLoads
open Go.ChangeMaps (open_string shut_string)
set_option linter.unusedVariables false
theorem own : ownKnob Try.prog.godebug = none := by kernel_rfl
theorem laidOut : laidOutB Try.prog = true := by kernel_rfl
set_option maxRecDepth 100000 in
set_option maxHeartbeats 1000000 in
theorem lifted (os : Os) (started : os.Started) (H : Type) (enc : TypeId × Value → H) :
  ReturnsInHanded {} Try.checked os 3 .any (Rows.fnLoadsSpec.pre6 enc Try.prog Try.f3 Rows.fnLoadsRow.domain false) (Rows.fnLoadsSpec.post enc Try.prog Try.f3 false true false false) := by
 refine returnsInHanded_of_change_sized (C := Try.checked) own started (by kernel_rfl) Try.func3
  (ChangeSpec.witness6 (enc := enc) (C := Try.checked) false ⟨#[], #[.slice none 0 0], []⟩ 8 (by kernel_rfl) (by kernel_rfl) (by kernel_rfl) (by kernel_rfl)) ?_
 intro W base args ds gs before hval0 hW hcnd hsz0 _
 have hval : ∀ (j : Nat) t v, Try.f3.params[j]? = some t → args[j]? = some v → Value.okWide Try.prog W .any base t v := hval0
 have hW' := hW
 obtain ⟨p, q, hA0, hV, rfl, hfz, hnd⟩ := hW
 have hA : DataW.TrodAll enc Try.prog W 0 (fun _ => true) true Try.f3.params.toList args.toList ds p := hA0
 rw [Try.params3] at hA hval
 obtain ⟨v0, vs0, d0, ds0, p0, q0, hargs, rfl, rfl, h0, r0⟩ := trodAll_cons hA
 obtain ⟨rfl, rfl, rfl⟩ := trodAll_nil r0
 obtain rfl : args = #[v0] := by cases args; simp_all
 obtain ⟨rfl, rfl⟩ := trodVars_none hV
 obtain ⟨A0, n0, c0, rfl⟩ := okWide_slice Try.underlying22 (hval 0 22 v0 rfl rfl)
 have b0 := h0
 have lt0 : ∀ x ∈ p0, x.block < W.heap.size := by obtain ⟨m, hm⟩ := b0; exact DataW.trod_lt m _ _ _ hm
 obtain ⟨l0, rfl, hc0, hr0, w0⟩ := arg_slice (opens_slice Try.underlying22 (by kernel_rfl) (opens_int .u8 Try.underlying5)) h0
 clear hA0 hval0 hsz0
 refine (Pure.FnLoads l0 _ _ W (by first | exact hr0 | assumption) (by first | exact hc0 | assumption) w0).mono fun e W' ⟨he, bel⟩ => ?_
 subst he
 exact ⟨_, rfl, _, _, _, [], _, [], hW', trodAll_mk1 (shut_bool Try.underlying4 _), (trodAll_cons_mk (Below.trod laidOut (by kernel_rfl) (of_decide_eq_true (by kernel_rfl)) b0 bel lt0) trodAll_mk0), rfl, bel.frame _, fun h => by cases h⟩
theorem over : Rows.fnLoadsRow.holds Try.pinned (OpenSpec.ofChange Rows.fnLoadsSpec) :=
 OpenClaim.holds_of_wide 3 Try.f3 rfl rfl rfl rfl rfl rfl rfl ⟨rfl, rfl, rfl, rfl, rfl⟩ rfl rfl rfl rfl rfl (by kernel_rfl) Try.func3 (by kernel_rfl)
  (of_decide_eq_true (by kernel_rfl)) (by unfold Func.isWrapper; first | (rw [if_pos (by decide +kernel)]; kernel_rfl) | (rw [if_neg (by decide +kernel)]; exact ⟨rfl, rfl⟩))
  (fun os started H enc _ => lifted os started H enc)
theorem proved : Rows.FnLoadsSaid := over
#print axioms proved
end Go.Proofs.Ythamiihdoicjkaa.fnLoads
namespace Go.Proofs.Ythamiihdoicjkaa
/-- The row, under a short name, for the claim. -/
theorem fnLoads_holds : Rows.FnLoadsSaid := fnLoads.proved
end Go.Proofs.Ythamiihdoicjkaa
