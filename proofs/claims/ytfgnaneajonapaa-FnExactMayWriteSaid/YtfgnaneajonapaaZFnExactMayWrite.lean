/- The law FnExactMayWrite holds for every input: the statement's row, out of its pure statement and the printed walk. -/
import Derived.Test.YtfgnaneajonapaaRows
import Derived.WalkKit
import Derived.ProofKit
import Derived.OpenShut
import Derived.ShutString
import Derived.ChangeOld
import Derived.Below
import Derived.SizedLaws
import Derived.Carry
import Derived.Test.YtfgnaneajonapaaBFnExactMayWrite1
import Derived.Test.YtfgnaneajonapaaBFnExactMayWrite2
import Derived.Test.YtfgnaneajonapaaBFnExactMayWrite3
import Derived.Test.YtfgnaneajonapaaBFnExactMayWrite4
namespace Go.Proofs.Ytfgnaneajonapaa.fnExactMayWrite
open Go.ChangeShapes Go.WideShapes Go.ChangeAt Go.RowKit Go.Proofs.YtfgnaneajonapaaW.PrintWords Go.Proofs.Ytfgnaneajonapaa.Pr Go.Proofs.Ytfgnaneajonapaa.Opn Go.Proofs.Ytfgnaneajonapaa.SFnExactMayWrite
open Go.ChangeMaps (open_string shut_string)
set_option linter.unusedVariables false
theorem own : ownKnob Try.prog.godebug = none := by kernel_rfl
theorem laidOut : laidOutB Try.prog = true := by kernel_rfl
set_option maxRecDepth 100000 in
set_option maxHeartbeats 1000000 in
theorem lifted (os : Os) (started : os.Started) (H : Type) (enc : TypeId × Value → H) :
    ReturnsInHanded {} Try.checked os 7 .any (Rows.fnExactMayWriteSpec.pre6 enc Try.prog Try.f7 Rows.fnExactMayWriteRow.domain false) (Rows.fnExactMayWriteSpec.post enc Try.prog Try.f7 false true false false) := by
  refine returnsInHanded_of_change_sized (C := Try.checked) own started (by kernel_rfl) Try.func7
    (ChangeSpec.witness6 (enc := enc) (C := Try.checked) false ⟨#[], #[.agg #[.bool false, .slice none 0 0, .int .i64 0, .int .i64 0, .slice none 0 0, .slice none 0 0, .int .i64 0], .agg #[.int .i64 0, .int .i64 0, .string ByteArray.empty, .string ByteArray.empty, .string ByteArray.empty, .int .i64 0]], []⟩ 8 (by kernel_rfl) (by kernel_rfl) (by kernel_rfl) (by kernel_rfl)) ?_
  intro W base args ds gs before hval0 hW hcnd hsz0 _
  have hval : ∀ (j : Nat) t v, Try.f7.params[j]? = some t → args[j]? = some v → Value.okWide Try.prog W .any base t v := hval0
  have hW' := hW
  obtain ⟨p, q, hA0, hV, rfl, hfz, hnd⟩ := hW
  have hA : DataW.TrodAll enc Try.prog W 0 (fun _ => true) true Try.f7.params.toList args.toList ds p := hA0
  rw [Try.params7] at hA hval
  obtain ⟨v0, vs0, d0, ds0, p0, q0, hargs, rfl, rfl, h0, r0⟩ := trodAll_cons hA
  obtain ⟨v1, vs1, d1, ds1, p1, q1, rfl, rfl, rfl, h1, r1⟩ := trodAll_cons r0
  obtain ⟨rfl, rfl, rfl⟩ := trodAll_nil r1
  obtain rfl : args = #[v0, v1] := by cases args; simp_all
  obtain ⟨rfl, rfl⟩ := trodVars_none hV
  obtain ⟨cs0, rfl, _⟩ := okWide_struct Try.underlying65 (hval 0 65 v0 rfl rfl)
  have b0 := h0
  have lt0 : ∀ x ∈ p0, x.block < W.heap.size := by obtain ⟨m, hm⟩ := b0; exact DataW.trod_lt m _ _ _ hm
  obtain ⟨x0, hk0, w0⟩ := arg_struct op65 h0
  obtain ⟨cl0⟩ := cs0
  have hk0' : k65.K W x0 cl0 := hk0
  clear hk0
  obtain ⟨_, _, rfl, rfl, ⟨_, _, rfl, ⟨_, _, rfl, ⟨A0_1, c0_1, rfl, hc0_1, hr0_1⟩, rfl⟩, ⟨_, _, rfl, rfl, ⟨_, _, rfl, ⟨A0_2, c0_2, rfl, hc0_2, hr0_2⟩, ⟨_, _, rfl, ⟨A0_3, c0_3, rfl, hc0_3, hr0_3⟩, rfl⟩⟩⟩⟩⟩ := hk0'
  obtain ⟨cs1, rfl, _⟩ := okWide_struct Try.underlying67 (hval 1 67 v1 rfl rfl)
  have b1 := h1
  have lt1 : ∀ x ∈ p1, x.block < W.heap.size := by obtain ⟨m, hm⟩ := b1; exact DataW.trod_lt m _ _ _ hm
  obtain ⟨x1, hk1, w1⟩ := arg_struct op67 h1
  obtain ⟨cl1⟩ := cs1
  obtain rfl : cl1 = _ := k67_open hk1
  obtain ⟨k, h⟩ := Pure.FnExactMayWrite x0 x1 w0 w1
  clear hA0 hval0 hsz0
  refine (laws_FnExactMayWrite.calls k _ _ _ _ _ _ _ _ _ _ _ _ _ _ _ _ _ _ _ true W (by first | exact hr0_1 | assumption) (by first | exact hc0_1 | assumption) (by first | exact hr0_4 | assumption) (by first | exact hc0_4 | assumption) (by first | exact hr0_5 | assumption) (by first | exact hc0_5 | assumption) h).mono fun e W' ⟨he, bel⟩ => ?_
  subst he
  exact ⟨_, rfl, _, _, _, [], _, [], hW', trodAll_mk1 (shut_bool Try.underlying4 _), (trodAll_cons_mk (Below.trod laidOut (by kernel_rfl) (of_decide_eq_true (by kernel_rfl)) b0 bel lt0) (trodAll_cons_mk (Below.trod laidOut (by kernel_rfl) (of_decide_eq_true (by kernel_rfl)) b1 bel lt1) trodAll_mk0)), rfl, bel.frame _, fun h => by cases h⟩
theorem over : Rows.fnExactMayWriteRow.holds Try.pinned (OpenSpec.ofChange Rows.fnExactMayWriteSpec) :=
  OpenClaim.holds_of_wide 7 Try.f7 rfl rfl rfl rfl rfl rfl rfl ⟨rfl, rfl, rfl, rfl, rfl⟩ rfl rfl rfl rfl rfl (by kernel_rfl) Try.func7 (by kernel_rfl)
    (of_decide_eq_true (by kernel_rfl)) (by unfold Func.isWrapper; first | (rw [if_pos (by decide +kernel)]; kernel_rfl) | (rw [if_neg (by decide +kernel)]; exact ⟨rfl, rfl⟩))
    (fun os started H enc _ => lifted os started H enc)
theorem proved : Rows.FnExactMayWriteSaid := over
#print axioms proved
end Go.Proofs.Ytfgnaneajonapaa.fnExactMayWrite
namespace Go.Proofs.Ytfgnaneajonapaa
/-- The row, under a short name, for the claim. -/
theorem fnExactMayWrite_holds : Rows.FnExactMayWriteSaid := fnExactMayWrite.proved
end Go.Proofs.Ytfgnaneajonapaa
