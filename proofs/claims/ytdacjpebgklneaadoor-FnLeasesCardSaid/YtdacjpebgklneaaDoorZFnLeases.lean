/- The law FnLeases holds for every input: the statement's row, out of its pure statement and the printed walk. -/
import Derived.Test.YtdacjpebgklneaaDoorRows
import Derived.WalkKit
import Derived.ProofKit
import Derived.OpenShut
import Derived.ShutString
import Derived.ChangeOld
import Derived.Below
import Derived.SizedLaws
import Derived.Carry
import Derived.LaidMore
import Derived.Lay
import Derived.SevenTiedAt
import Derived.Stop.Joined
import Derived.Test.YtdacjpebgklneaaDoorCards
import Derived.Test.YtdacjpebgklneaaDoorTie
import Derived.Test.YtdacjpebgklneaaDoorBFnLeases1
import Derived.Test.YtdacjpebgklneaaDoorBFnLeases2
import Derived.Test.YtdacjpebgklneaaDoorBFnLeases3
import Derived.Test.YtdacjpebgklneaaDoorBFnLeases4
import Derived.Test.YtdacjpebgklneaaDoorBFnLeases5
import Derived.Test.YtdacjpebgklneaaDoorBFnLeases6
namespace Go.Proofs.YtdacjpebgklneaaDoor.fnLeases
open Go.ChangeShapes Go.WideShapes Go.ChangeAt Go.RowKit Go.Proofs.YtdacjpebgklneaaDoorW.PrintWords Go.Proofs.YtdacjpebgklneaaDoor.Pr Go.Proofs.YtdacjpebgklneaaDoor.Opn Go.Proofs.YtdacjpebgklneaaDoor.SFnLeases
open Go.ChangeMaps (open_string shut_string)
set_option linter.unusedVariables false
theorem own : ownKnob Tryd.prog.godebug = none := by kernel_rfl
theorem laidOut : laidOutB Tryd.prog = true := by kernel_rfl
set_option maxRecDepth 100000 in
set_option maxHeartbeats 1000000 in
theorem lifted (os : Os) (started : os.Started) (H : Type) (enc : TypeId × Value → H) :
    ReturnsInHanded {} Tryd.checked os 3 .any (fun w args => (Rows.fnLeasesSpec.pre enc Tryd.prog Tryd.f3 Rows.fnLeasesRow.domain false w args ∧ laidMetH Tryd.prog Rows.fnLeasesRow.laid w) ∧ sizedMet enc Tryd.prog Tryd.f3 (OpenSpec.ofChange Rows.fnLeasesSpec) false w args) (Rows.fnLeasesSpec.post enc Tryd.prog Tryd.f3 false true false false) := by
  refine returnsInHanded_of_change_and (C := Tryd.checked) (X := fun w _ => laidMetH Tryd.prog Rows.fnLeasesRow.laid w) (fun _ _ _ hh h => h.of_heap hh) own started (by kernel_rfl) Tryd.func3
    (ChangeSpec.witness_shaped (enc := enc) (C := Tryd.checked) (os := os) (X := fun w _ => laidMetH Tryd.prog Rows.fnLeasesRow.laid w) false (World.laidAll Tryd.prog os Rows.fnLeasesRow.laid) #[.slice none 0 0] 8 (World.laidAll_os _ _ _)
      (World.shaped_of_ZipB (by kernel_rfl) (by kernel_rfl)) (by kernel_rfl) (by kernel_rfl) (by kernel_rfl)
      (by rw [MakeChecks.laidMetH_plain _ _ _ (by kernel_rfl)]; exact laidMet_laidAll _ (by kernel_rfl) (by kernel_rfl))) ?_
  intro W base args ds gs before hval0 hW hcnd hsz0 hL _
  have hval : ∀ (j : Nat) t v, Tryd.f3.params[j]? = some t → args[j]? = some v → Value.okWide Tryd.prog W .any base t v := hval0
  have hW' := hW
  obtain ⟨p, q, hA0, hV, rfl, hfz, hnd⟩ := hW
  have hA : DataW.TrodAll enc Tryd.prog W 0 (fun _ => true) true Tryd.f3.params.toList args.toList ds p := hA0
  rw [Tryd.params3] at hA hval
  obtain ⟨v0, vs0, d0, ds0, p0, q0, hargs, rfl, rfl, h0, r0⟩ := trodAll_cons hA
  obtain ⟨rfl, rfl, rfl⟩ := trodAll_nil r0
  obtain rfl : args = #[v0] := by cases args; simp_all
  obtain ⟨rfl, rfl⟩ := trodVars_none hV
  obtain ⟨A0, n0, c0, rfl⟩ := okWide_slice Tryd.underlying22 (hval 0 22 v0 rfl rfl)
  have b0 := h0
  have lt0 : ∀ x ∈ p0, x.block < W.heap.size := by obtain ⟨m, hm⟩ := b0; exact DataW.trod_lt m _ _ _ hm
  obtain ⟨l0, rfl, hc0, hr0, w0⟩ := arg_slice (opens_slice Tryd.underlying22 (by kernel_rfl) (opens_int .u8 Tryd.underlying5)) h0
  obtain ⟨k, h⟩ := Pure.FnLeases l0 w0
  clear hA0 hval0 hsz0
  refine (laws_FnLeases.calls k _ _ _ true W (by first | exact hr0 | assumption) (by first | exact hc0 | assumption) h).mono fun e W' ⟨he, bel⟩ => ?_
  subst he
  exact ⟨_, rfl, _, _, _, [], _, [], hW', trodAll_mk1 (shut_bool Tryd.underlying4 _), (trodAll_cons_mk (Below.trod laidOut (by kernel_rfl) (of_decide_eq_true (by kernel_rfl)) b0 bel lt0) trodAll_mk0), rfl, bel.frame _, fun h => by cases h⟩
theorem over : Rows.fnLeasesRow.holds Tryd.pinned (OpenSpec.ofChange Rows.fnLeasesSpec) :=
  OpenClaim.holds_of_wide 3 Tryd.f3 rfl rfl rfl rfl rfl rfl rfl ⟨rfl, rfl, rfl, rfl, rfl⟩ rfl rfl rfl rfl rfl (by kernel_rfl) Tryd.func3 (by kernel_rfl)
    (of_decide_eq_true (by kernel_rfl)) (by unfold Func.isWrapper; first | (rw [if_pos (by decide +kernel)]; kernel_rfl) | (rw [if_neg (by decide +kernel)]; exact ⟨rfl, rfl⟩))
    (fun os started H enc _ => lifted os started H enc)
theorem proved : Rows.FnLeasesCardSaid :=
  Claim7.holds_tied_plain_at .later [] [.data, .pinned] true (true, "03122cbbe40f8eaf12e06d1b66a55b473dfa9349e72b87d54a7ead1e1b97233f") false over (fun _ h => by cases h) (by kernel_rfl) (fun _ h => by cases h) fnLeases_row_tie rfl ⟨rfl, rfl⟩ (by kernel_rfl) rfl
    (fun f fn hf hfn => by
      obtain rfl : f = 3 := Option.some.inj ((show Tryd.prog.funcNamed "loop.example/g00197/laws.FnLeases" = some 3 by kernel_rfl).symm.trans hf) |>.symm
      obtain rfl : fn = Tryd.f3 := (Option.some.inj (Tryd.func3.symm.trans hfn)).symm
      exact ⟨by kernel_rfl, fun j t ht => by
        rw [Tryd.params3] at ht
        have hm : t ∈ [22] := by simpa using Array.mem_of_getElem? ht
        have hall : ([22].all fun u => !Tryd.prog.wantsStandIn u) = true := by kernel_rfl
        exact (show Tryd.prog.wantsStandIn t = false by simpa using List.all_eq_true.1 hall t hm)⟩)
    (by kernel_rfl)
#print axioms proved
end Go.Proofs.YtdacjpebgklneaaDoor.fnLeases
namespace Go.Proofs.YtdacjpebgklneaaDoor
/-- The row, under a short name, for the claim. -/
theorem fnLeases_holds : Rows.FnLeasesCardSaid := fnLeases.proved
end Go.Proofs.YtdacjpebgklneaaDoor
