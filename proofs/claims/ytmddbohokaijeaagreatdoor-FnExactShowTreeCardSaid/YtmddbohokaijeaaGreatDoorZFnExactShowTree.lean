/- The law FnExactShowTree holds for every input: the statement's row, out of its pure statement and the printed walk. -/
import Derived.Test.YtmddbohokaijeaaGreatDoorRows
import Derived.WalkKit
import Derived.ProofKit
import Derived.OpenShut
import Derived.ShutString
import Derived.ChangeOld
import Derived.Below
import Derived.SizedLaws
import Derived.Carry
import Derived.LaidMore
import Derived.Lay
import Derived.SevenTiedAt
import Derived.Stop.Joined
import Derived.Stop.LaidErr
import Derived.Lib.LaidTab
import Derived.Test.YtmddbohokaijeaaGreatDoorCards
import Derived.Test.YtmddbohokaijeaaGreatDoorTie
import Derived.Test.YtmddbohokaijeaaGreatDoorBFnExactShowTree1
import Derived.Test.YtmddbohokaijeaaGreatDoorBFnExactShowTree2
import Derived.Test.YtmddbohokaijeaaGreatDoorBFnExactShowTree3
import Derived.Test.YtmddbohokaijeaaGreatDoorBFnExactShowTree4
namespace Go.Proofs.YtmddbohokaijeaaGreatDoor.fnExactShowTree
open Go.ChangeShapes Go.WideShapes Go.ChangeAt Go.RowKit Go.Proofs.YtmddbohokaijeaaGreatDoorW.PrintWords Go.Proofs.YtmddbohokaijeaaGreatDoor.Pr Go.Proofs.YtmddbohokaijeaaGreatDoor.Opn Go.Proofs.YtmddbohokaijeaaGreatDoor.SFnExactShowTree
open Go.ChangeMaps (open_string shut_string)
set_option linter.unusedVariables false
theorem own : ownKnob Tryz.prog.godebug = none := by kernel_rfl
theorem laidOut : laidOutB Tryz.prog = true := by kernel_rfl
set_option maxRecDepth 100000 in
set_option maxHeartbeats 1000000 in
theorem lifted (os : Os) (started : os.Started) (H : Type) (enc : TypeId × Value → H) :
  ReturnsInHanded {} Tryz.checked os 3 .any (fun w args => (Rows.fnExactShowTreeSpec.pre enc Tryz.prog Tryz.f3 Rows.fnExactShowTreeRow.domain false w args ∧ laidMetH Tryz.prog Rows.fnExactShowTreeRow.laid w) ∧ sizedMet enc Tryz.prog Tryz.f3 (OpenSpec.ofChange Rows.fnExactShowTreeSpec) false w args) (Rows.fnExactShowTreeSpec.post enc Tryz.prog Tryz.f3 false true false false) := by
 refine returnsInHanded_of_change_and (C := Tryz.checked) (X := fun w _ => laidMetH Tryz.prog Rows.fnExactShowTreeRow.laid w) (fun _ _ _ hh h => h.of_heap hh) own started (by kernel_rfl) Tryz.func3
  (ChangeSpec.witness_shaped (enc := enc) (C := Tryz.checked) (os := os) (X := fun w _ => laidMetH Tryz.prog Rows.fnExactShowTreeRow.laid w) false (World.laidAll Tryz.prog os Rows.fnExactShowTreeRow.laid) #[.agg #[.slice none 0 0, .int .i64 0]] 8 (World.laidAll_os _ _ _)
   (World.shaped_of_ZipB (by kernel_rfl) (by kernel_rfl)) (by kernel_rfl) (by kernel_rfl) (by kernel_rfl)
   (by rw [MakeChecks.laidMetH_plain _ _ _ (by kernel_rfl)]; exact laidMet_laidAll _ (by kernel_rfl) (by kernel_rfl))) ?_
 intro W base args ds gs before hval0 hW hcnd hsz0 hL _
 have hval : ∀ (j : Nat) t v, Tryz.f3.params[j]? = some t → args[j]? = some v → Value.okWide Tryz.prog W .any base t v := hval0
 have hW' := hW
 obtain ⟨p, q, hA0, hV, rfl, hfz, hnd⟩ := hW
 have hA : DataW.TrodAll enc Tryz.prog W 0 (fun _ => true) true Tryz.f3.params.toList args.toList ds p := hA0
 rw [Tryz.params3] at hA hval
 obtain ⟨v0, vs0, d0, ds0, p0, q0, hargs, rfl, rfl, h0, r0⟩ := trodAll_cons hA
 obtain ⟨rfl, rfl, rfl⟩ := trodAll_nil r0
 obtain rfl : args = #[v0] := by cases args; simp_all
 obtain ⟨rfl, rfl⟩ := trodVars_none hV
 obtain ⟨cs0, rfl, _⟩ := okWide_struct Tryz.underlying24 (hval 0 24 v0 rfl rfl)
 have b0 := h0
 have lt0 : ∀ x ∈ p0, x.block < W.heap.size := by obtain ⟨m, hm⟩ := b0; exact DataW.trod_lt m _ _ _ hm
 obtain ⟨x0, hk0, w0⟩ := arg_struct op24 h0
 obtain ⟨cl0⟩ := cs0
 have hk0' : k24.K W x0 cl0 := hk0
 clear hk0
 obtain ⟨_, _, rfl, ⟨A0_1, c0_1, rfl, hc0_1, hr0_1⟩, rfl⟩ := hk0'
 have hL1 : laidMet Tryz.prog Rows.fnExactShowTreeRow.laid W := by rw [MakeChecks.laidMetH_plain _ _ _ (by kernel_rfl)] at hL; exact hL
 have e1 : (Rows.laid_internal_strconv_uint64pow10 : DataW Unit) = Go.Lib.tabData .u64 Go.Lib.pow10Tab := by kernel_rfl
 have hL2 : laidMet Tryz.prog (("internal/strconv.uint64pow10", Go.Lib.tabData .u64 Go.Lib.pow10Tab) :: []) W := by rw [← e1]; exact hL1.tail.tail
 have htab : Go.Lib.TabIs Tryz.prog W "internal/strconv.uint64pow10" .u64 Go.Lib.pow10Tab := Go.Lib.tabIs_of_head (show Tryz.prog.globalNamed "internal/strconv.uint64pow10" = some 1 by kernel_rfl) (show (Tryz.prog.globals[1]?).map (·.type) = some 126 by kernel_rfl) (show Tryz.prog.underlying 126 = some (.array 20 86) by kernel_rfl) (show Tryz.prog.underlying 86 = some (.int .u64) by kernel_rfl) (by kernel_rfl) (by kernel_rfl) hL2
 clear hA0 hval0 hsz0
 refine (Pure.FnExactShowTree x0 _ _ W (by first | exact hr0_1 | assumption) (by first | exact hc0_1 | assumption) w0 htab).mono fun e W' ⟨he, bel⟩ => ?_
 subst he
 exact ⟨_, rfl, _, _, _, [], _, [], hW', trodAll_mk1 (shut_bool Tryz.underlying4 _), (trodAll_cons_mk (Below.trod laidOut (by kernel_rfl) (of_decide_eq_true (by kernel_rfl)) b0 bel lt0) trodAll_mk0), rfl, bel.frame _, fun h => by cases h⟩
theorem over : Rows.fnExactShowTreeRow.holds Tryz.pinned (OpenSpec.ofChange Rows.fnExactShowTreeSpec) :=
 OpenClaim.holds_of_wide 3 Tryz.f3 rfl rfl rfl rfl rfl rfl rfl ⟨rfl, rfl, rfl, rfl, rfl⟩ rfl rfl rfl rfl rfl (by kernel_rfl) Tryz.func3 (by kernel_rfl)
  (of_decide_eq_true (by kernel_rfl)) (by unfold Func.isWrapper; first | (rw [if_pos (by decide +kernel)]; kernel_rfl) | (rw [if_neg (by decide +kernel)]; exact ⟨rfl, rfl⟩))
  (fun os started H enc _ => lifted os started H enc)
theorem proved : Rows.FnExactShowTreeCardSaid :=
 Claim7.holds_tied_plain_at .later [] [.data, .data, .data] true (true, "1e35bb61e31855d91d78ff09e01a350b48b7d4a0a4bf700b64f0f5dc44acfade") false over (fun _ h => by cases h) (by kernel_rfl) (fun _ h => by cases h) fnExactShowTree_row_tie rfl ⟨rfl, rfl⟩ (by kernel_rfl) rfl
  (fun f fn hf hfn => by
   obtain rfl : f = 3 := Option.some.inj ((show Tryz.prog.funcNamed "loop.example/g00197/laws.FnExactShowTree" = some 3 by kernel_rfl).symm.trans hf) |>.symm
   obtain rfl : fn = Tryz.f3 := (Option.some.inj (Tryz.func3.symm.trans hfn)).symm
   exact ⟨by kernel_rfl, fun j t ht => by
    rw [Tryz.params3] at ht
    have hm : t ∈ [24] := by simpa using Array.mem_of_getElem? ht
    have hall : ([24].all fun u => !Tryz.prog.wantsStandIn u) = true := by kernel_rfl
    exact (show Tryz.prog.wantsStandIn t = false by simpa using List.all_eq_true.1 hall t hm)⟩)
  (by kernel_rfl)
#print axioms proved
end Go.Proofs.YtmddbohokaijeaaGreatDoor.fnExactShowTree
namespace Go.Proofs.YtmddbohokaijeaaGreatDoor
/-- The row, under a short name, for the claim. -/
theorem fnExactShowTree_holds : Rows.FnExactShowTreeCardSaid := fnExactShowTree.proved
end Go.Proofs.YtmddbohokaijeaaGreatDoor
