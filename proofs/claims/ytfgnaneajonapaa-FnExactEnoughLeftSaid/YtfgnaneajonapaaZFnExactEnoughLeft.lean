/- The law FnExactEnoughLeft holds for every input: the statement's row, out of its pure statement and the printed walk. -/
import Derived.Test.YtfgnaneajonapaaRows
import Derived.WalkKit
import Derived.ProofKit
import Derived.OpenShut
import Derived.ShutString
import Derived.ChangeOld
import Derived.Below
import Derived.SizedLaws
import Derived.Carry
import Derived.Test.YtfgnaneajonapaaBFnExactEnoughLeft1
import Derived.Test.YtfgnaneajonapaaBFnExactEnoughLeft2
import Derived.Test.YtfgnaneajonapaaBFnExactEnoughLeft3
import Derived.Test.YtfgnaneajonapaaBFnExactEnoughLeft4
import Derived.Test.YtfgnaneajonapaaBFnExactEnoughLeft5
import Derived.Test.YtfgnaneajonapaaBFnExactEnoughLeft6
namespace Go.Proofs.Ytfgnaneajonapaa.fnExactEnoughLeft
open Go.ChangeShapes Go.WideShapes Go.ChangeAt Go.RowKit Go.Proofs.YtfgnaneajonapaaW.PrintWords Go.Proofs.Ytfgnaneajonapaa.Pr Go.Proofs.Ytfgnaneajonapaa.Opn Go.Proofs.Ytfgnaneajonapaa.SFnExactEnoughLeft
open Go.ChangeMaps (open_string shut_string)
set_option linter.unusedVariables false
theorem own : ownKnob Try.prog.godebug = none := by kernel_rfl
theorem laidOut : laidOutB Try.prog = true := by kernel_rfl
set_option maxRecDepth 100000 in
set_option maxHeartbeats 1000000 in
theorem lifted (os : Os) (started : os.Started) (H : Type) (enc : TypeId × Value → H) :
    ReturnsInHanded {} Try.checked os 10 .any (Rows.fnExactEnoughLeftSpec.pre6 enc Try.prog Try.f10 Rows.fnExactEnoughLeftRow.domain false) (Rows.fnExactEnoughLeftSpec.post enc Try.prog Try.f10 false true false false) := by
  refine returnsInHanded_of_change_sized (C := Try.checked) own started (by kernel_rfl) Try.func10
    (ChangeSpec.witness6 (enc := enc) (C := Try.checked) false ⟨#[], #[.agg #[.bool false, .slice none 0 0, .int .i64 0, .int .i64 0, .slice none 0 0, .slice none 0 0, .int .i64 0, .slice none 0 0, .slice none 0 0, .slice none 0 0, .slice none 0 0]], []⟩ 8 (by kernel_rfl) (by kernel_rfl) (by kernel_rfl) (by kernel_rfl)) ?_
  intro W base args ds gs before hval0 hW hcnd hsz0 _
  have hval : ∀ (j : Nat) t v, Try.f10.params[j]? = some t → args[j]? = some v → Value.okWide Try.prog W .any base t v := hval0
  have hW' := hW
  obtain ⟨p, q, hA0, hV, rfl, hfz, hnd⟩ := hW
  have hA : DataW.TrodAll enc Try.prog W 0 (fun _ => true) true Try.f10.params.toList args.toList ds p := hA0
  rw [Try.params10] at hA hval
  obtain ⟨v0, vs0, d0, ds0, p0, q0, hargs, rfl, rfl, h0, r0⟩ := trodAll_cons hA
  obtain ⟨rfl, rfl, rfl⟩ := trodAll_nil r0
  obtain rfl : args = #[v0] := by cases args; simp_all
  obtain ⟨rfl, rfl⟩ := trodVars_none hV
  obtain ⟨cs0, rfl, _⟩ := okWide_struct Try.underlying86 (hval 0 86 v0 rfl rfl)
  have b0 := h0
  have lt0 : ∀ x ∈ p0, x.block < W.heap.size := by obtain ⟨m, hm⟩ := b0; exact DataW.trod_lt m _ _ _ hm
  obtain ⟨x0, hk0, w0⟩ := arg_struct op86 h0
  obtain ⟨cl0⟩ := cs0
  have hk0' : k86.K W x0 cl0 := hk0
  clear hk0
  obtain ⟨_, _, rfl, ⟨_, _, rfl, rfl, ⟨_, _, rfl, ⟨_, _, rfl, ⟨A0_1, c0_1, rfl, hc0_1, hr0_1⟩, rfl⟩, ⟨_, _, rfl, rfl, ⟨_, _, rfl, ⟨A0_2, c0_2, rfl, hc0_2, hr0_2⟩, ⟨_, _, rfl, ⟨A0_3, c0_3, rfl, hc0_3, hr0_3⟩, rfl⟩⟩⟩⟩⟩, ⟨_, _, rfl, ⟨A0_4, c0_4, rfl, hc0_4, hr0_4⟩, ⟨_, _, rfl, ⟨A0_5, c0_5, rfl, hc0_5, hr0_5⟩, ⟨_, _, rfl, ⟨A0_6, c0_6, rfl, hc0_6, hr0_6⟩, ⟨A0_7, c0_7, rfl, hc0_7, hr0_7⟩⟩⟩⟩⟩ := hk0'
  obtain ⟨k, h⟩ := Pure.FnExactEnoughLeft x0 w0
  clear hA0 hval0 hsz0
  refine (laws_FnExactEnoughLeft.calls k _ _ _ _ _ _ _ _ _ _ _ _ _ _ _ _ _ _ _ _ _ _ _ _ _ true W (by first | exact hr0_1 | assumption) (by first | exact hc0_1 | assumption) (by first | exact hr0_4 | assumption) (by first | exact hc0_4 | assumption) (by first | exact hr0_5 | assumption) (by first | exact hc0_5 | assumption) (by first | exact hr0_7 | assumption) (by first | exact hc0_7 | assumption) (by first | exact hr0_8 | assumption) (by first | exact hc0_8 | assumption) (by first | exact hr0_9 | assumption) (by first | exact hc0_9 | assumption) (by first | exact hr0_10 | assumption) (by first | exact hc0_10 | assumption) h).mono fun e W' ⟨he, bel⟩ => ?_
  subst he
  exact ⟨_, rfl, _, _, _, [], _, [], hW', trodAll_mk1 (shut_bool Try.underlying4 _), (trodAll_cons_mk (Below.trod laidOut (by kernel_rfl) (of_decide_eq_true (by kernel_rfl)) b0 bel lt0) trodAll_mk0), rfl, bel.frame _, fun h => by cases h⟩
theorem over : Rows.fnExactEnoughLeftRow.holds Try.pinned (OpenSpec.ofChange Rows.fnExactEnoughLeftSpec) :=
  OpenClaim.holds_of_wide 10 Try.f10 rfl rfl rfl rfl rfl rfl rfl ⟨rfl, rfl, rfl, rfl, rfl⟩ rfl rfl rfl rfl rfl (by kernel_rfl) Try.func10 (by kernel_rfl)
    (of_decide_eq_true (by kernel_rfl)) (by unfold Func.isWrapper; first | (rw [if_pos (by decide +kernel)]; kernel_rfl) | (rw [if_neg (by decide +kernel)]; exact ⟨rfl, rfl⟩))
    (fun os started H enc _ => lifted os started H enc)
theorem proved : Rows.FnExactEnoughLeftSaid := over
#print axioms proved
end Go.Proofs.Ytfgnaneajonapaa.fnExactEnoughLeft
namespace Go.Proofs.Ytfgnaneajonapaa
/-- The row, under a short name, for the claim. -/
theorem fnExactEnoughLeft_holds : Rows.FnExactEnoughLeftSaid := fnExactEnoughLeft.proved
end Go.Proofs.Ytfgnaneajonapaa
