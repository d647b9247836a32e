/- A part of the proof of the law FnLeases: its texts, one behind the other. -/
import Derived.ChangeArms
import Derived.Deep.Slices
import Derived.Laws.BitsLemmas
import Derived.WideShapes
import Derived.Test.YtdacjpebgklneaaDoorBFnLeases1
import Derived.Test.YtdacjpebgklneaaDoorBFnLeases2
import Derived.Test.YtdacjpebgklneaaDoorBFnLeases3
import Derived.Test.YtdacjpebgklneaaDoorBFnLeases4
import Derived.Test.YtdacjpebgklneaaDoorBFnLeases5
namespace Go.Proofs.YtdacjpebgklneaaDoor.Pr
open Go.RowKit Go.Proofs.YtdacjpebgklneaaDoorW.PrintWords Go.Proofs.YtdacjpebgklneaaDoorW.PrintLast Go.Proofs.YtdacjpebgklneaaDoorW.PrintMore
attribute [local go_sem] max2_int min2_int max_two min_two max_three min_three max_four min_four
set_option linter.unusedVariables false
set_option linter.unusedSimpArgs false
def laws_FnLeases.l0 : Nat → List (S35) → Int → List (S35) → Bool → Bool → List (S35) → Bool → Bool → List (S35) → List ByteArray → Int → Int → Option (Bool)
  | 0, _, _, _, _, _, _, _, _, _, _, _, _ => none
  | k + 1, x3, x4, x5, x6, x8, x9, x10, x13, x14, x15, x16, x17 => if x17 < (x3.length : Int) then (if 0 ≤ x17 then (if (wrap64 (x4 - ((rd_T35 x3 x17).f2))) ≥ 12 then ((impl_HolderOf.f k x5 ((rd_T35 x3 x17).f0)).bind fun t344 => (if t344 = ((rd_T35 x3 x17).f1) then (laws_FnLeases.l0 k x3 x4 x5 x6 x8 x9 x10 x13 x14 x15 (wrap64 (x16 + 1)) (wrap64 (x17 + 1))) else (some false))) else ((impl_HolderOf.f k x5 ((rd_T35 x3 x17).f0)).bind fun t347 => (if t347 = ((rd_T35 x3 x17).f1) then (laws_FnLeases.l0 k x3 x4 x5 x6 x8 x9 x10 x13 x14 x15 x16 (wrap64 (x17 + 1))) else (some false)))) else (none)) else (if x6 = true then (if x8 = true then (some false) else (if x10 = true then (if x13 = true then (some false) else ((impl_LeasesOk.f k x3).bind fun t349 => (if t349 = true then ((impl_LeasesOk.f k x5).bind fun t350 => (if t350 = true then ((impl_LeasesOk.f k x9).bind fun t351 => (if t351 = true then ((impl_HolderOf.f k x5 (⟨#[47, 108, 101, 97, 115, 101]⟩ : ByteArray)).bind fun t352 => (if t352 = 4 then ((impl_HolderOf.f k x9 (⟨#[47, 108, 101, 97, 115, 101]⟩ : ByteArray)).bind fun t353 => (if t353 = 5 then ((impl_HolderOf.f k x14 (⟨#[47, 108, 101, 97, 115, 101]⟩ : ByteArray)).bind fun t354 => (if t354 = 0 then (if (x14.length : Int) = (x3.length : Int) then (if (x15.length : Int) = x16 then ((spec_Expired.f k x3 x4).bind fun t355 => ((laws_sameTexts.f k x15 t355).bind fun t358 => (some t358))) else (some false)) else (some false)) else (some false))) else (some false))) else (some false))) else (some false))) else (some false))) else (some false)))) else (some false))) else (some false))
def laws_FnLeases.f (k : Nat) (l0 : List Int) : Option (Bool) := (laws_big.f l0).bind fun t309 => (if t309 = true then (some true) else ((spec_DrawLeases.f k l0).bind fun t310 => ((spec_DrawPlaces.f k l0).bind fun t313 => (if 0 < (t313.length : Int) then ((impl_TakeLease.f t310 (⟨#[47, 108, 101, 97, 115, 101]⟩ : ByteArray) 4 (wrap64 (30 + (Int.tmod (rd t313 0) 20)))).bind fun bt317 => ((impl_TakeLease.f bt317.1 (⟨#[47, 108, 101, 97, 115, 101]⟩ : ByteArray) 5 (wrap64 ((wrap64 ((wrap64 (30 + (Int.tmod (rd t313 0) 20))) + 5)) - 1))).bind fun bt321 => ((impl_TakeLease.f bt317.1 (⟨#[47, 108, 101, 97, 115, 101]⟩ : ByteArray) 5 (wrap64 ((wrap64 (30 + (Int.tmod (rd t313 0) 20))) + 5))).bind fun bt325 => ((impl_RenewLeases.f k bt317.1 4 (wrap64 ((wrap64 (30 + (Int.tmod (rd t313 0) 20))) + 5))).bind fun t329 => ((impl_TakeLease.f t329 (⟨#[47, 108, 101, 97, 115, 101]⟩ : ByteArray) 5 (wrap64 ((wrap64 (30 + (Int.tmod (rd t313 0) 20))) + 5))).bind fun bt332 => ((impl_DropLease.f bt317.1 (⟨#[47, 108, 101, 97, 115, 101]⟩ : ByteArray)).bind fun t336 => ((impl_Expired.f k t310 (wrap64 (30 + (Int.tmod (rd t313 0) 20)))).bind fun t339 => (laws_FnLeases.l0 k t310 (wrap64 (30 + (Int.tmod (rd t313 0) 20))) bt317.1 bt317.2 bt321.2 bt325.1 bt325.2 bt332.2 t336 t339 0 0)))))))) else (none)))))
def laws_FnLeases.T18 : Bool × List (List Nat × List Nat) := (true, [([], []), ([], []), ([], []), ([1, 2], [1, 2]), ([3], [3]), ([4], [4]), ([0, 5], [0, 5]), ([], []), ([], []), ([7, 8], [7, 8]), ([9], [9]), ([10], [10]), ([6, 11], [6, 11])])
def laws_FnLeases.B18 : List Nat := [0, 0, 0, 6, 14, 30, 63, 0, 0, 384, 896, 1920, 4095]
theorem laws_FnLeases.tab18 : rtab .any (opsOf Tryd.f3 18) = laws_FnLeases.T18 := by kernel_rfl
theorem laws_FnLeases.bits18 : waitsOk laws_FnLeases.T18.2 laws_FnLeases.B18 = true := by kernel_rfl
set_option maxHeartbeats 8000000 in
set_option maxRecDepth 100000 in
theorem laws_FnLeases.calls (k : Nat) (A0 : Option Addr) (c0 : Nat) (l0 : List Int) (r : Bool) (w : World) (hr0 : Kd.C (Kd.int .u8) w A0 l0.length l0) (hc0 : l0.length ≤ c0) (h : laws_FnLeases.f k l0 = some r) :
    Calls Tryd.prog 3 #[.slice A0 l0.length c0] w fun e w' => e = .returned (.bool r) ∧ Below w.heap.size w w' := by
  have HR0 := Aside0.mk hr0
  have HC0 := Aside0.mk hc0
  clear hr0 hc0
  have HB := Aside0.mk (Below.refl w.heap.size w)
  have H : ((laws_big.f l0).bind fun t309 => (if t309 = true then (some true) else ((spec_DrawLeases.f k l0).bind fun t310 => ((spec_DrawPlaces.f k l0).bind fun t313 => (if 0 < (t313.length : Int) then ((impl_TakeLease.f t310 (⟨#[47, 108, 101, 97, 115, 101]⟩ : ByteArray) 4 (wrap64 (30 + (Int.tmod (rd t313 0) 20)))).bind fun bt317 => ((impl_TakeLease.f bt317.1 (⟨#[47, 108, 101, 97, 115, 101]⟩ : ByteArray) 5 (wrap64 ((wrap64 ((wrap64 (30 + (Int.tmod (rd t313 0) 20))) + 5)) - 1))).bind fun bt321 => ((impl_TakeLease.f bt317.1 (⟨#[47, 108, 101, 97, 115, 101]⟩ : ByteArray) 5 (wrap64 ((wrap64 (30 + (Int.tmod (rd t313 0) 20))) + 5))).bind fun bt325 => ((impl_RenewLeases.f k bt317.1 4 (wrap64 ((wrap64 (30 + (Int.tmod (rd t313 0) 20))) + 5))).bind fun t329 => ((impl_TakeLease.f t329 (⟨#[47, 108, 101, 97, 115, 101]⟩ : ByteArray) 5 (wrap64 ((wrap64 (30 + (Int.tmod (rd t313 0) 20))) + 5))).bind fun bt332 => ((impl_DropLease.f bt317.1 (⟨#[47, 108, 101, 97, 115, 101]⟩ : ByteArray)).bind fun t336 => ((impl_Expired.f k t310 (wrap64 (30 + (Int.tmod (rd t313 0) 20)))).bind fun t339 => (laws_FnLeases.l0 k t310 (wrap64 (30 + (Int.tmod (rd t313 0) 20))) bt317.1 bt317.2 bt321.2 bt325.1 bt325.2 bt332.2 t336 t339 0 0)))))))) else (none)))))) = some r := h
  clear h
  replace H := Option.bind_eq_some_iff.mp H
  obtain ⟨t309, A20, H⟩ := H
  replace H : (if t309 = true then (some true) else ((spec_DrawLeases.f k l0).bind fun t310 => ((spec_DrawPlaces.f k l0).bind fun t313 => (if 0 < (t313.length : Int) then ((impl_TakeLease.f t310 (⟨#[47, 108, 101, 97, 115, 101]⟩ : ByteArray) 4 (wrap64 (30 + (Int.tmod (rd t313 0) 20)))).bind fun bt317 => ((impl_TakeLease.f bt317.1 (⟨#[47, 108, 101, 97, 115, 101]⟩ : ByteArray) 5 (wrap64 ((wrap64 ((wrap64 (30 + (Int.tmod (rd t313 0) 20))) + 5)) - 1))).bind fun bt321 => ((impl_TakeLease.f bt317.1 (⟨#[47, 108, 101, 97, 115, 101]⟩ : ByteArray) 5 (wrap64 ((wrap64 (30 + (Int.tmod (rd t313 0) 20))) + 5))).bind fun bt325 => ((impl_RenewLeases.f k bt317.1 4 (wrap64 ((wrap64 (30 + (Int.tmod (rd t313 0) 20))) + 5))).bind fun t329 => ((impl_TakeLease.f t329 (⟨#[47, 108, 101, 97, 115, 101]⟩ : ByteArray) 5 (wrap64 ((wrap64 (30 + (Int.tmod (rd t313 0) 20))) + 5))).bind fun bt332 => ((impl_DropLease.f bt317.1 (⟨#[47, 108, 101, 97, 115, 101]⟩ : ByteArray)).bind fun t336 => ((impl_Expired.f k t310 (wrap64 (30 + (Int.tmod (rd t313 0) 20)))).bind fun t339 => (laws_FnLeases.l0 k t310 (wrap64 (30 + (Int.tmod (rd t313 0) 20))) bt317.1 bt317.2 bt321.2 bt325.1 bt325.2 bt332.2 t336 t339 0 0)))))))) else (none))))) = some r := H
  have A2 := Aside0.mk A20
  clear A20
  by_cases c3 : t309 = true
  · subst c3
    have H1 : (some true) = some r := by rw [if_pos rfl] at H; exact H
    clear H
    have H := H1
    clear H1
    obtain rfl := Option.some.inj H
    go_enter Tryd.func3, Tryd.ntmps3
    go_wp2_with (first | ((with_reducible refine gate_callee (f := 4) rfl ?_); refine GL (some 19) rfl rfl Tryd.func4 #[.slice A0 l0.length c0] rfl ?_; (with_reducible refine (laws_big.calls _ _ l0 true _ ?side1 ?side2 A2.out).mono ?_); (case side1 => exact CC HR0.out); (case side2 => exact HC0.out); rintro e w' ⟨rfl, ⟨nd, rfl⟩⟩; refine ⟨_, rfl, ?_⟩))
    go_ret
    exact ⟨ER, (BB HB.out)⟩
  · replace c3 := Bool.eq_false_iff.mpr c3
    subst c3
    have H1 : ((spec_DrawLeases.f k l0).bind fun t310 => ((spec_DrawPlaces.f k l0).bind fun t313 => (if 0 < (t313.length : Int) then ((impl_TakeLease.f t310 (⟨#[47, 108, 101, 97, 115, 101]⟩ : ByteArray) 4 (wrap64 (30 + (Int.tmod (rd t313 0) 20)))).bind fun bt317 => ((impl_TakeLease.f bt317.1 (⟨#[47, 108, 101, 97, 115, 101]⟩ : ByteArray) 5 (wrap64 ((wrap64 ((wrap64 (30 + (Int.tmod (rd t313 0) 20))) + 5)) - 1))).bind fun bt321 => ((impl_TakeLease.f bt317.1 (⟨#[47, 108, 101, 97, 115, 101]⟩ : ByteArray) 5 (wrap64 ((wrap64 (30 + (Int.tmod (rd t313 0) 20))) + 5))).bind fun bt325 => ((impl_RenewLeases.f k bt317.1 4 (wrap64 ((wrap64 (30 + (Int.tmod (rd t313 0) 20))) + 5))).bind fun t329 => ((impl_TakeLease.f t329 (⟨#[47, 108, 101, 97, 115, 101]⟩ : ByteArray) 5 (wrap64 ((wrap64 (30 + (Int.tmod (rd t313 0) 20))) + 5))).bind fun bt332 => ((impl_DropLease.f bt317.1 (⟨#[47, 108, 101, 97, 115, 101]⟩ : ByteArray)).bind fun t336 => ((impl_Expired.f k t310 (wrap64 (30 + (Int.tmod (rd t313 0) 20)))).bind fun t339 => (laws_FnLeases.l0 k t310 (wrap64 (30 + (Int.tmod (rd t313 0) 20))) bt317.1 bt317.2 bt321.2 bt325.1 bt325.2 bt332.2 t336 t339 0 0)))))))) else (none)))) = some r := by rw [if_neg (show ¬ (false = true) by decide)] at H; exact H
    clear H
    have H := H1
    clear H1
    replace H := Option.bind_eq_some_iff.mp H
    obtain ⟨t310, A40, H⟩ := H
    replace H : ((spec_DrawPlaces.f k l0).bind fun t313 => (if 0 < (t313.length : Int) then ((impl_TakeLease.f t310 (⟨#[47, 108, 101, 97, 115, 101]⟩ : ByteArray) 4 (wrap64 (30 + (Int.tmod (rd t313 0) 20)))).bind fun bt317 => ((impl_TakeLease.f bt317.1 (⟨#[47, 108, 101, 97, 115, 101]⟩ : ByteArray) 5 (wrap64 ((wrap64 ((wrap64 (30 + (Int.tmod (rd t313 0) 20))) + 5)) - 1))).bind fun bt321 => ((impl_TakeLease.f bt317.1 (⟨#[47, 108, 101, 97, 115, 101]⟩ : ByteArray) 5 (wrap64 ((wrap64 (30 + (Int.tmod (rd t313 0) 20))) + 5))).bind fun bt325 => ((impl_RenewLeases.f k bt317.1 4 (wrap64 ((wrap64 (30 + (Int.tmod (rd t313 0) 20))) + 5))).bind fun t329 => ((impl_TakeLease.f t329 (⟨#[47, 108, 101, 97, 115, 101]⟩ : ByteArray) 5 (wrap64 ((wrap64 (30 + (Int.tmod (rd t313 0) 20))) + 5))).bind fun bt332 => ((impl_DropLease.f bt317.1 (⟨#[47, 108, 101, 97, 115, 101]⟩ : ByteArray)).bind fun t336 => ((impl_Expired.f k t310 (wrap64 (30 + (Int.tmod (rd t313 0) 20)))).bind fun t339 => (laws_FnLeases.l0 k t310 (wrap64 (30 + (Int.tmod (rd t313 0) 20))) bt317.1 bt317.2 bt321.2 bt325.1 bt325.2 bt332.2 t336 t339 0 0)))))))) else (none))) = some r := H
    have A4 := Aside0.mk A40
    clear A40
    replace H := Option.bind_eq_some_iff.mp H
    obtain ⟨t313, A50, H⟩ := H
    replace H : (if 0 < (t313.length : Int) then ((impl_TakeLease.f t310 (⟨#[47, 108, 101, 97, 115, 101]⟩ : ByteArray) 4 (wrap64 (30 + (Int.tmod (rd t313 0) 20)))).bind fun bt317 => ((impl_TakeLease.f bt317.1 (⟨#[47, 108, 101, 97, 115, 101]⟩ : ByteArray) 5 (wrap64 ((wrap64 ((wrap64 (30 + (Int.tmod (rd t313 0) 20))) + 5)) - 1))).bind fun bt321 => ((impl_TakeLease.f bt317.1 (⟨#[47, 108, 101, 97, 115, 101]⟩ : ByteArray) 5 (wrap64 ((wrap64 (30 + (Int.tmod (rd t313 0) 20))) + 5))).bind fun bt325 => ((impl_RenewLeases.f k bt317.1 4 (wrap64 ((wrap64 (30 + (Int.tmod (rd t313 0) 20))) + 5))).bind fun t329 => ((impl_TakeLease.f t329 (⟨#[47, 108, 101, 97, 115, 101]⟩ : ByteArray) 5 (wrap64 ((wrap64 (30 + (Int.tmod (rd t313 0) 20))) + 5))).bind fun bt332 => ((impl_DropLease.f bt317.1 (⟨#[47, 108, 101, 97, 115, 101]⟩ : ByteArray)).bind fun t336 => ((impl_Expired.f k t310 (wrap64 (30 + (Int.tmod (rd t313 0) 20)))).bind fun t339 => (laws_FnLeases.l0 k t310 (wrap64 (30 + (Int.tmod (rd t313 0) 20))) bt317.1 bt317.2 bt321.2 bt325.1 bt325.2 bt332.2 t336 t339 0 0)))))))) else (none)) = some r := H
    have A5 := Aside0.mk A50
    clear A50
    by_cases c6 : 0 < (t313.length : Int)
    · rw [if_pos c6] at H
      have c6b0 : decide (0 < (t313.length : Int)) = true := decide_eq_true c6
      have c6b1 : decide (0 < t313.length) = true := decide_eq_true (by omega)
      clear c6
      replace H := Option.bind_eq_some_iff.mp H
      obtain ⟨⟨t317, t318⟩, A70, H⟩ := H
      replace H : ((impl_TakeLease.f t317 (⟨#[47, 108, 101, 97, 115, 101]⟩ : ByteArray) 5 (wrap64 ((wrap64 ((wrap64 (30 + (Int.tmod (rd t313 0) 20))) + 5)) - 1))).bind fun bt321 => ((impl_TakeLease.f t317 (⟨#[47, 108, 101, 97, 115, 101]⟩ : ByteArray) 5 (wrap64 ((wrap64 (30 + (Int.tmod (rd t313 0) 20))) + 5))).bind fun bt325 => ((impl_RenewLeases.f k t317 4 (wrap64 ((wrap64 (30 + (Int.tmod (rd t313 0) 20))) + 5))).bind fun t329 => ((impl_TakeLease.f t329 (⟨#[47, 108, 101, 97, 115, 101]⟩ : ByteArray) 5 (wrap64 ((wrap64 (30 + (Int.tmod (rd t313 0) 20))) + 5))).bind fun bt332 => ((impl_DropLease.f t317 (⟨#[47, 108, 101, 97, 115, 101]⟩ : ByteArray)).bind fun t336 => ((impl_Expired.f k t310 (wrap64 (30 + (Int.tmod (rd t313 0) 20)))).bind fun t339 => (laws_FnLeases.l0 k t310 (wrap64 (30 + (Int.tmod (rd t313 0) 20))) t317 t318 bt321.2 bt325.1 bt325.2 bt332.2 t336 t339 0 0))))))) = some r := H
      have A7 := Aside0.mk A70
      clear A70
      replace H := Option.bind_eq_some_iff.mp H
      obtain ⟨⟨t321, t322⟩, A80, H⟩ := H
      replace H : ((impl_TakeLease.f t317 (⟨#[47, 108, 101, 97, 115, 101]⟩ : ByteArray) 5 (wrap64 ((wrap64 (30 + (Int.tmod (rd t313 0) 20))) + 5))).bind fun bt325 => ((impl_RenewLeases.f k t317 4 (wrap64 ((wrap64 (30 + (Int.tmod (rd t313 0) 20))) + 5))).bind fun t329 => ((impl_TakeLease.f t329 (⟨#[47, 108, 101, 97, 115, 101]⟩ : ByteArray) 5 (wrap64 ((wrap64 (30 + (Int.tmod (rd t313 0) 20))) + 5))).bind fun bt332 => ((impl_DropLease.f t317 (⟨#[47, 108, 101, 97, 115, 101]⟩ : ByteArray)).bind fun t336 => ((impl_Expired.f k t310 (wrap64 (30 + (Int.tmod (rd t313 0) 20)))).bind fun t339 => (laws_FnLeases.l0 k t310 (wrap64 (30 + (Int.tmod (rd t313 0) 20))) t317 t318 t322 bt325.1 bt325.2 bt332.2 t336 t339 0 0)))))) = some r := H
      have A8 := Aside0.mk A80
      clear A80
      replace H := Option.bind_eq_some_iff.mp H
      obtain ⟨⟨t325, t326⟩, A90, H⟩ := H
      replace H : ((impl_RenewLeases.f k t317 4 (wrap64 ((wrap64 (30 + (Int.tmod (rd t313 0) 20))) + 5))).bind fun t329 => ((impl_TakeLease.f t329 (⟨#[47, 108, 101, 97, 115, 101]⟩ : ByteArray) 5 (wrap64 ((wrap64 (30 + (Int.tmod (rd t313 0) 20))) + 5))).bind fun bt332 => ((impl_DropLease.f t317 (⟨#[47, 108, 101, 97, 115, 101]⟩ : ByteArray)).bind fun t336 => ((impl_Expired.f k t310 (wrap64 (30 + (Int.tmod (rd t313 0) 20)))).bind fun t339 => (laws_FnLeases.l0 k t310 (wrap64 (30 + (Int.tmod (rd t313 0) 20))) t317 t318 t322 t325 t326 bt332.2 t336 t339 0 0))))) = some r := H
      have A9 := Aside0.mk A90
      clear A90
      replace H := Option.bind_eq_some_iff.mp H
      obtain ⟨t329, A100, H⟩ := H
      replace H : ((impl_TakeLease.f t329 (⟨#[47, 108, 101, 97, 115, 101]⟩ : ByteArray) 5 (wrap64 ((wrap64 (30 + (Int.tmod (rd t313 0) 20))) + 5))).bind fun bt332 => ((impl_DropLease.f t317 (⟨#[47, 108, 101, 97, 115, 101]⟩ : ByteArray)).bind fun t336 => ((impl_Expired.f k t310 (wrap64 (30 + (Int.tmod (rd t313 0) 20)))).bind fun t339 => (laws_FnLeases.l0 k t310 (wrap64 (30 + (Int.tmod (rd t313 0) 20))) t317 t318 t322 t325 t326 bt332.2 t336 t339 0 0)))) = some r := H
      have A10 := Aside0.mk A100
      clear A100
      replace H := Option.bind_eq_some_iff.mp H
      obtain ⟨⟨t332, t333⟩, A110, H⟩ := H
      replace H : ((impl_DropLease.f t317 (⟨#[47, 108, 101, 97, 115, 101]⟩ : ByteArray)).bind fun t336 => ((impl_Expired.f k t310 (wrap64 (30 + (Int.tmod (rd t313 0) 20)))).bind fun t339 => (laws_FnLeases.l0 k t310 (wrap64 (30 + (Int.tmod (rd t313 0) 20))) t317 t318 t322 t325 t326 t333 t336 t339 0 0))) = some r := H
      have A11 := Aside0.mk A110
      clear A110
      replace H := Option.bind_eq_some_iff.mp H
      obtain ⟨t336, A120, H⟩ := H
      replace H : ((impl_Expired.f k t310 (wrap64 (30 + (Int.tmod (rd t313 0) 20)))).bind fun t339 => (laws_FnLeases.l0 k t310 (wrap64 (30 + (Int.tmod (rd t313 0) 20))) t317 t318 t322 t325 t326 t333 t336 t339 0 0)) = some r := H
      have A12 := Aside0.mk A120
      clear A120
      replace H := Option.bind_eq_some_iff.mp H
      obtain ⟨t339, A130, H⟩ := H
      replace H : (laws_FnLeases.l0 k t310 (wrap64 (30 + (Int.tmod (rd t313 0) 20))) t317 t318 t322 t325 t326 t333 t336 t339 0 0) = some r := H
      have A13 := Aside0.mk A130
      clear A130
      have H' := Aside0.mk H
      clear H
      go_enter Tryd.func3, Tryd.ntmps3
      go_wp2_with (first | ((with_reducible refine gate_callee (f := 4) rfl ?_); refine GL (some 19) rfl rfl Tryd.func4 #[.slice A0 l0.length c0] rfl ?_; (with_reducible refine (laws_big.calls _ _ l0 false _ ?side1 ?side2 A2.out).mono ?_); (case side1 => exact CC HR0.out); (case side2 => exact HC0.out); rintro e w' ⟨rfl, ⟨nd, rfl⟩⟩; refine ⟨_, rfl, ?_⟩) | ((with_reducible refine gate_callee (f := 5) rfl ?_); refine GL (some 21) rfl rfl Tryd.func5 #[.slice A0 l0.length c0] rfl ?_; (with_reducible refine (spec_DrawLeases.calls k _ _ l0 t310 _ ?side1 ?side2 A4.out).mono ?_); (case side1 => exact CC HR0.out); (case side2 => exact HC0.out); rintro e w14 ⟨v311, rfl, ho0, hb⟩; refine ⟨_, rfl, ?_⟩; have HO312 := Aside0.mk (Kd.R_lower ho0 (below_size (BB HB.out))); replace HB := Aside0.mk (below_step (BB HB.out) hb); (try clear hb); (try clear ho0)) | ((with_reducible refine gate_callee (f := 6) rfl ?_); refine GL (some 23) rfl rfl Tryd.func6 #[.slice A0 l0.length c0] rfl ?_; (with_reducible refine (spec_DrawPlaces.calls k _ _ l0 t313 _ ?side1 ?side2 A5.out).mono ?_); (case side1 => exact CC (Kd.C_below HR0.out HB.out)); (case side2 => exact HC0.out); rintro e w15 ⟨v314, rfl, ho0, hb⟩; refine ⟨_, rfl, ?_⟩; have HO315 := Aside0.mk (Kd.R_lower ho0 (below_size (BB HB.out))); replace HO312 := Aside0.mk (Kd.R_below (RR HO312.out) hb); replace HB := Aside0.mk (below_step (BB HB.out) hb); (try clear hb); (try clear ho0); obtain ⟨Ao16, co16, eo16⟩ := Kd.R_slice HO315.out; subst eo16; have p316 : 0 ≤ (0 : Int) := (by omega); have q316 : 0 < (t313.length : Int) := DT; obtain ⟨ad316, e316, hx316_0⟩ := Kd.at_int (Kd.R_reads' HO315.out).2.2 0 p316 q316; cases e316; have qi316 : (0 < t313.length) = True := eq_true (by omega); (try rw [show ((0 : Int)).toNat = 0 from rfl] at hx316_0); (try rw [Addr.add_zero'] at hx316_0); replace p316 := eq_true p316; replace q316 := eq_true q316; obtain ⟨Ao17, co17, eo17⟩ := Kd.R_slice HO312.out; subst eo17) | ((with_reducible refine gate_callee (f := 7) rfl ?_); refine GL (some 31) rfl rfl Tryd.func7 #[.slice Ao17 t310.length co17, .string (⟨#[47, 108, 101, 97, 115, 101]⟩ : ByteArray), .int .i64 4, .int .i64 (wrap64 (30 + (Int.tmod (rd t313 0) 20)))] rfl ?_; (with_reducible refine (impl_TakeLease.calls _ _ t310 (⟨#[47, 108, 101, 97, 115, 101]⟩ : ByteArray) 4 (wrap64 (30 + (Int.tmod (rd t313 0) 20))) t317 t318 _ ?side1 ?side2 A7.out).mono ?_); (case side1 => exact CC (Kd.R_reads' HO312.out).2.2); (case side2 => exact (Kd.R_reads' HO312.out).2.1); rintro e w18 ⟨v319, rfl, ho0, hb⟩; refine ⟨_, rfl, ?_⟩; have HO320 := Aside0.mk (Kd.R_lower (Kd.R_new' ho0 (Kd.R_lt (RR HO312.out))) (below_size (BB HB.out))); replace HO312 := Aside0.mk (Kd.R_elder' (RR HO312.out) (Kd.R_base ho0) hb); replace HO315 := Aside0.mk (Kd.R_below (RR HO315.out) hb); replace HB := Aside0.mk (below_step (BB HB.out) hb); (try clear hb); (try clear ho0); obtain ⟨Ao19, co19, eo19⟩ := Kd.R_slice HO320.out; subst eo19) | ((with_reducible refine gate_callee (f := 7) rfl ?_); refine GL (some 39) rfl rfl Tryd.func7 #[.slice Ao19 t317.length co19, .string (⟨#[47, 108, 101, 97, 115, 101]⟩ : ByteArray), .int .i64 5, .int .i64 (wrap64 ((wrap64 ((wrap64 (30 + (Int.tmod (rd t313 0) 20))) + 5)) - 1))] rfl ?_; (with_reducible refine (impl_TakeLease.calls _ _ t317 (⟨#[47, 108, 101, 97, 115, 101]⟩ : ByteArray) 5 (wrap64 ((wrap64 ((wrap64 (30 + (Int.tmod (rd t313 0) 20))) + 5)) - 1)) t321 t322 _ ?side1 ?side2 A8.out).mono ?_); (case side1 => exact CC (Kd.R_reads' HO320.out).2.2); (case side2 => exact (Kd.R_reads' HO320.out).2.1); rintro e w20 ⟨v323, rfl, ho0, hb⟩; refine ⟨_, rfl, ?_⟩; have HO324 := Aside0.mk (Kd.R_lower (Kd.R_new' (Kd.R_new' ho0 (Kd.R_lt (RR HO312.out))) (Kd.R_lt (RR HO320.out))) (below_size (BB HB.out))); replace HO312 := Aside0.mk (Kd.R_elder' (RR HO312.out) (Kd.R_base ho0) hb); replace HO315 := Aside0.mk (Kd.R_below (RR HO315.out) hb); replace HO320 := Aside0.mk (Kd.R_elder' (RR HO320.out) (Kd.R_base ho0) hb); replace HB := Aside0.mk (below_step (BB HB.out) hb); (try clear hb); (try clear ho0)) | ((with_reducible refine gate_callee (f := 7) rfl ?_); refine GL (some 46) rfl rfl Tryd.func7 #[.slice Ao19 t317.length co19, .string (⟨#[47, 108, 101, 97, 115, 101]⟩ : ByteArray), .int .i64 5, .int .i64 (wrap64 ((wrap64 (30 + (Int.tmod (rd t313 0) 20))) + 5))] rfl ?_; (with_reducible refine (impl_TakeLease.calls _ _ t317 (⟨#[47, 108, 101, 97, 115, 101]⟩ : ByteArray) 5 (wrap64 ((wrap64 (30 + (Int.tmod (rd t313 0) 20))) + 5)) t325 t326 _ ?side1 ?side2 A9.out).mono ?_); (case side1 => exact CC (Kd.R_reads' HO320.out).2.2); (case side2 => exact (Kd.R_reads' HO320.out).2.1); rintro e w21 ⟨v327, rfl, ho0, hb⟩; refine ⟨_, rfl, ?_⟩; have HO328 := Aside0.mk (Kd.R_lower (Kd.R_new' (Kd.R_new' (Kd.R_new' ho0 (Kd.R_lt (RR HO312.out))) (Kd.R_lt (RR HO320.out))) (Kd.R_lt (RR HO324.out))) (below_size (BB HB.out))); replace HO312 := Aside0.mk (Kd.R_elder' (RR HO312.out) (Kd.R_base ho0) hb); replace HO315 := Aside0.mk (Kd.R_below (RR HO315.out) hb); replace HO320 := Aside0.mk (Kd.R_elder' (RR HO320.out) (Kd.R_base ho0) hb); replace HO324 := Aside0.mk (Kd.R_elder' (RR HO324.out) (Kd.R_base ho0) hb); replace HB := Aside0.mk (below_step (BB HB.out) hb); (try clear hb); (try clear ho0)) | ((with_reducible refine gate_callee (f := 8) rfl ?_); refine GL (some 52) rfl rfl Tryd.func8 #[.slice Ao19 t317.length co19, .int .i64 4, .int .i64 (wrap64 ((wrap64 (30 + (Int.tmod (rd t313 0) 20))) + 5))] rfl ?_; (with_reducible refine (impl_RenewLeases.calls k _ _ t317 4 (wrap64 ((wrap64 (30 + (Int.tmod (rd t313 0) 20))) + 5)) t329 _ ?side1 ?side2 A10.out).mono ?_); (case side1 => exact CC (Kd.R_reads' HO320.out).2.2); (case side2 => exact (Kd.R_reads' HO320.out).2.1); rintro e w22 ⟨v330, rfl, ho0, hb⟩; refine ⟨_, rfl, ?_⟩; have HO331 := Aside0.mk (Kd.R_lower (Kd.R_new' (Kd.R_new' (Kd.R_new' (Kd.R_new' ho0 (Kd.R_lt (RR HO312.out))) (Kd.R_lt (RR HO320.out))) (Kd.R_lt (RR HO324.out))) (Kd.R_lt (RR HO328.out))) (below_size (BB HB.out))); replace HO312 := Aside0.mk (Kd.R_elder' (RR HO312.out) (Kd.R_base ho0) hb); replace HO315 := Aside0.mk (Kd.R_below (RR HO315.out) hb); replace HO320 := Aside0.mk (Kd.R_elder' (RR HO320.out) (Kd.R_base ho0) hb); replace HO324 := Aside0.mk (Kd.R_elder' (RR HO324.out) (Kd.R_base ho0) hb); replace HO328 := Aside0.mk (Kd.R_elder' (RR HO328.out) (Kd.R_base ho0) hb); replace HB := Aside0.mk (below_step (BB HB.out) hb); (try clear hb); (try clear ho0); obtain ⟨Ao23, co23, eo23⟩ := Kd.R_slice HO331.out; subst eo23) | ((with_reducible refine gate_callee (f := 7) rfl ?_); refine GL (some 57) rfl rfl Tryd.func7 #[.slice Ao23 t329.length co23, .string (⟨#[47, 108, 101, 97, 115, 101]⟩ : ByteArray), .int .i64 5, .int .i64 (wrap64 ((wrap64 (30 + (Int.tmod (rd t313 0) 20))) + 5))] rfl ?_; (with_reducible refine (impl_TakeLease.calls _ _ t329 (⟨#[47, 108, 101, 97, 115, 101]⟩ : ByteArray) 5 (wrap64 ((wrap64 (30 + (Int.tmod (rd t313 0) 20))) + 5)) t332 t333 _ ?side1 ?side2 A11.out).mono ?_); (case side1 => exact CC (Kd.R_reads' HO331.out).2.2); (case side2 => exact (Kd.R_reads' HO331.out).2.1); rintro e w24 ⟨v334, rfl, ho0, hb⟩; refine ⟨_, rfl, ?_⟩; have HO335 := Aside0.mk (Kd.R_lower (Kd.R_new' (Kd.R_new' (Kd.R_new' (Kd.R_new' (Kd.R_new' ho0 (Kd.R_lt (RR HO312.out))) (Kd.R_lt (RR HO320.out))) (Kd.R_lt (RR HO324.out))) (Kd.R_lt (RR HO328.out))) (Kd.R_lt (RR HO331.out))) (below_size (BB HB.out))); replace HO312 := Aside0.mk (Kd.R_elder' (RR HO312.out) (Kd.R_base ho0) hb); replace HO315 := Aside0.mk (Kd.R_below (RR HO315.out) hb); replace HO320 := Aside0.mk (Kd.R_elder' (RR HO320.out) (Kd.R_base ho0) hb); replace HO324 := Aside0.mk (Kd.R_elder' (RR HO324.out) (Kd.R_base ho0) hb); replace HO328 := Aside0.mk (Kd.R_elder' (RR HO328.out) (Kd.R_base ho0) hb); replace HO331 := Aside0.mk (Kd.R_elder' (RR HO331.out) (Kd.R_base ho0) hb); replace HB := Aside0.mk (below_step (BB HB.out) hb); (try clear hb); (try clear ho0)) | ((with_reducible refine gate_callee (f := 9) rfl ?_); refine GL (some 61) rfl rfl Tryd.func9 #[.slice Ao19 t317.length co19, .string (⟨#[47, 108, 101, 97, 115, 101]⟩ : ByteArray)] rfl ?_; (with_reducible refine (impl_DropLease.calls _ _ t317 (⟨#[47, 108, 101, 97, 115, 101]⟩ : ByteArray) t336 _ ?side1 ?side2 A12.out).mono ?_); (case side1 => exact CC (Kd.R_reads' HO320.out).2.2); (case side2 => exact (Kd.R_reads' HO320.out).2.1); rintro e w25 ⟨v337, rfl, ho0, hb⟩; refine ⟨_, rfl, ?_⟩; have HO338 := Aside0.mk (Kd.R_lower (Kd.R_new' (Kd.R_new' (Kd.R_new' (Kd.R_new' (Kd.R_new' (Kd.R_new' ho0 (Kd.R_lt (RR HO312.out))) (Kd.R_lt (RR HO320.out))) (Kd.R_lt (RR HO324.out))) (Kd.R_lt (RR HO328.out))) (Kd.R_lt (RR HO331.out))) (Kd.R_lt (RR HO335.out))) (below_size (BB HB.out))); replace HO312 := Aside0.mk (Kd.R_elder' (RR HO312.out) (Kd.R_base ho0) hb); replace HO315 := Aside0.mk (Kd.R_below (RR HO315.out) hb); replace HO320 := Aside0.mk (Kd.R_elder' (RR HO320.out) (Kd.R_base ho0) hb); replace HO324 := Aside0.mk (Kd.R_elder' (RR HO324.out) (Kd.R_base ho0) hb); replace HO328 := Aside0.mk (Kd.R_elder' (RR HO328.out) (Kd.R_base ho0) hb); replace HO331 := Aside0.mk (Kd.R_elder' (RR HO331.out) (Kd.R_base ho0) hb); replace HO335 := Aside0.mk (Kd.R_elder' (RR HO335.out) (Kd.R_base ho0) hb); replace HB := Aside0.mk (below_step (BB HB.out) hb); (try clear hb); (try clear ho0)) | ((with_reducible refine gate_callee (f := 10) rfl ?_); refine GL (some 64) rfl rfl Tryd.func10 #[.slice Ao17 t310.length co17, .int .i64 (wrap64 (30 + (Int.tmod (rd t313 0) 20)))] rfl ?_; (with_reducible refine (impl_Expired.calls k _ _ t310 (wrap64 (30 + (Int.tmod (rd t313 0) 20))) t339 _ ?side1 ?side2 A13.out).mono ?_); (case side1 => exact CC (Kd.R_reads' HO312.out).2.2); (case side2 => exact (Kd.R_reads' HO312.out).2.1); rintro e w26 ⟨v340, rfl, ho0, hb⟩; refine ⟨_, rfl, ?_⟩; have HO341 := Aside0.mk (Kd.R_lower ho0 (below_size (BB HB.out))); replace HO312 := Aside0.mk (Kd.R_below (RR HO312.out) hb); replace HO315 := Aside0.mk (Kd.R_below (RR HO315.out) hb); replace HO320 := Aside0.mk (Kd.R_below (RR HO320.out) hb); replace HO324 := Aside0.mk (Kd.R_below (RR HO324.out) hb); replace HO328 := Aside0.mk (Kd.R_below (RR HO328.out) hb); replace HO331 := Aside0.mk (Kd.R_below (RR HO331.out) hb); replace HO335 := Aside0.mk (Kd.R_below (RR HO335.out) hb); replace HO338 := Aside0.mk (Kd.R_below (RR HO338.out) hb); replace HB := Aside0.mk (below_step (BB HB.out) hb); (try clear hb); (try clear ho0)))
      go_loopg [16, 17] k (fun kq v16 v17 w' => ∃ (x16_1 : Int) (x17_1 : Int), v16 = .int .i64 x16_1 ∧ v17 = .int .i64 x17_1 ∧ Aside0 (laws_FnLeases.l0 kq t310 (wrap64 (30 + (Int.tmod (rd t313 0) 20))) t317 t318 t322 t325 t326 t333 t336 t339 x16_1 x17_1 = some r) ∧ Aside0 (kq ≤ k) ∧ Aside0 (Kd.R k35 35 w' w.heap.size (fun k_ => some k_ ≠ ((.slice Ao19 t317.length co19) : Value).ownBlock ∧ some k_ ≠ (v327 : Value).ownBlock ∧ some k_ ≠ (v337 : Value).ownBlock) (.slice Ao17 t310.length co17) t310) ∧ Aside0 (Kd.R k35 35 w' w.heap.size (fun k_ => some k_ ≠ ((.slice Ao17 t310.length co17) : Value).ownBlock ∧ some k_ ≠ (v327 : Value).ownBlock ∧ some k_ ≠ (v337 : Value).ownBlock) (.slice Ao19 t317.length co19) t317) ∧ Aside0 (Kd.R k35 35 w' w.heap.size (fun k_ => some k_ ≠ ((.slice Ao17 t310.length co17) : Value).ownBlock ∧ some k_ ≠ ((.slice Ao19 t317.length co19) : Value).ownBlock ∧ some k_ ≠ (v337 : Value).ownBlock) v327 t325) ∧ Aside0 (Kd.R k35 35 w' w.heap.size (fun k_ => some k_ ≠ ((.slice Ao17 t310.length co17) : Value).ownBlock ∧ some k_ ≠ ((.slice Ao19 t317.length co19) : Value).ownBlock ∧ some k_ ≠ (v327 : Value).ownBlock) v337 t336) ∧ Aside0 (Kd.R Kd.string 9 w' w.heap.size (fun _ => True) v340 t339) ∧ Aside0 (Below w.heap.size w w'))
      case atStart => exact ⟨(0), (0), FR, FR, H', ⟨Nat.le_refl _⟩, ⟨by (with_reducible repeat (first | apply Kd.R_alloc | apply Kd.R_drewN | apply Kd.R_drew)); exact Kd.R_mono HO312.out (fun _ hk => ⟨hk.1.1.1.1.1.2, ⟨hk.1.1.1.2, hk.2⟩⟩)⟩, ⟨by (with_reducible repeat (first | apply Kd.R_alloc | apply Kd.R_drewN | apply Kd.R_drew)); exact Kd.R_mono HO320.out (fun _ hk => ⟨hk.1.1.1.1.1.2, ⟨hk.1.1.1.2, hk.2⟩⟩)⟩, ⟨by (with_reducible repeat (first | apply Kd.R_alloc | apply Kd.R_drewN | apply Kd.R_drew)); exact Kd.R_mono HO328.out (fun _ hk => ⟨hk.1.1.1.1.1.2, ⟨hk.1.1.1.1.2, hk.2⟩⟩)⟩, ⟨by (with_reducible repeat (first | apply Kd.R_alloc | apply Kd.R_drewN | apply Kd.R_drew)); exact Kd.R_mono HO338.out (fun _ hk => ⟨hk.1.1.1.1.1.2, ⟨hk.1.1.1.1.2, hk.1.1.2⟩⟩)⟩, ⟨(RR HO341.out)⟩, ⟨(BB HB.out)⟩⟩
      case round =>
        clear H'
        try clear c1
        try clear p2
        try clear c3
        try clear p3
        try clear q3
        try clear hx3
        try clear qi3
        try clear c4
        try clear c5
        try clear c6
        try clear c6b0
        try clear c6b1
        try clear p6
        try clear c7
        try clear c8
        try clear c9
        try clear c10
        try clear hx316_0
        try clear p316
        try clear q316
        obtain ⟨x16_1, x17_1, rfl, rfl, HA, HK1, HO_3, HO_5, HO_9, HO_14, HO_15, HB⟩ := hrel
        cases gk with
        | zero => exact absurd HA.out (by simp [laws_FnLeases.l0])
        | succ k1 =>
          have H := HA.out
          clear HA
          simp only [laws_FnLeases.l0] at H
          by_cases c27 : x17_1 < (t310.length : Int)
          · rw [if_pos c27] at H
            have c27b0 : decide (x17_1 < (t310.length : Int)) = true := decide_eq_true c27
            clear c27
            by_cases c28 : 0 ≤ x17_1
            · rw [if_pos c28] at H
              have c28b0 : decide (0 ≤ x17_1) = true := decide_eq_true c28
              clear c28
              by_cases c29 : (wrap64 ((wrap64 (30 + (Int.tmod (rd t313 0) 20))) - ((rd_T35 t310 x17_1).f2))) ≥ 12
              · rw [if_pos c29] at H
                have c29b0 : decide (12 ≤ (wrap64 ((wrap64 (30 + (Int.tmod (rd t313 0) 20))) - ((rd_T35 t310 x17_1).f2)))) = true := decide_eq_true c29
                clear c29
                replace H := Option.bind_eq_some_iff.mp H
                obtain ⟨t344, A300, H⟩ := H
                replace H : (if t344 = ((rd_T35 t310 x17_1).f1) then (laws_FnLeases.l0 k1 t310 (wrap64 (30 + (Int.tmod (rd t313 0) 20))) t317 t318 t322 t325 t326 t333 t336 t339 (wrap64 (x16_1 + 1)) (wrap64 (x17_1 + 1))) else (some false)) = some r := H
                have A30 := Aside0.mk A300
                clear A300
                by_cases c31 : t344 = ((rd_T35 t310 x17_1).f1)
                · rw [if_pos c31] at H
                  have c31b0 : (t344 == ((rd_T35 t310 x17_1).f1)) = true := beq_iff_eq.mpr c31
                  have c31b1 : (t344 != ((rd_T35 t310 x17_1).f1)) = false := bne_eq_false_iff_eq.mpr c31
                  clear c31
                  have H' := Aside0.mk H
                  clear H
                  have p342 : 0 ≤ (x17_1 : Int) := DT
                  have q342 : x17_1 < (t310.length : Int) := DT
                  obtain ⟨ad342, e342, hx342_0, hx342_1, hx342_2⟩ := at_T35 (Kd.R_reads' HO_3.out).2.2 x17_1 p342 q342
                  cases e342
                  replace p342 := eq_true p342
                  replace q342 := eq_true q342
                  try go_wp2
                  have n0_ := Aside0.mk (Kd.R_drew HO_3.out)
                  have n1_ := Aside0.mk (Kd.R_drew HO_5.out)
                  have n2_ := Aside0.mk (Kd.R_drew HO_9.out)
                  have n3_ := Aside0.mk (Kd.R_drew HO_14.out)
                  have n4_ := Aside0.mk (Kd.R_drew HO_15.out)
                  have n5_ := Aside0.mk (below_drew1 HB.out)
                  clear HO_3
                  clear HO_5
                  clear HO_9
                  clear HO_14
                  clear HO_15
                  clear HB
                  have HO_3 := n0_
                  have HO_5 := n1_
                  have HO_9 := n2_
                  have HO_14 := n3_
                  have HO_15 := n4_
                  have HB := n5_
                  clear n0_ n1_ n2_ n3_ n4_ n5_
                  have p343 : 0 ≤ (x17_1 : Int) := DT
                  have q343 : x17_1 < (t310.length : Int) := DT
                  obtain ⟨ad343, e343, hx343_0, hx343_1, hx343_2⟩ := at_T35 (Kd.R_reads' HO_3.out).2.2 x17_1 p343 q343
                  obtain rfl : ad342 = ad343 := (by injection e343)
                  replace p343 := eq_true p343
                  replace q343 := eq_true q343
                  have p345 : 0 ≤ (x17_1 : Int) := DT
                  have q345 : x17_1 < (t310.length : Int) := DT
                  obtain ⟨ad345, e345, hx345_0, hx345_1, hx345_2⟩ := at_T35 (Kd.R_reads' HO_3.out).2.2 x17_1 p345 q345
                  obtain rfl : ad342 = ad345 := (by injection e345)
                  replace p345 := eq_true p345
                  replace q345 := eq_true q345
                  refine start_ (n := 13) (S := fun w' => w'.cell? (ad342.add ((x17_1).toNat * 3)) = some (.string ((rd_T35 t310 x17_1).f0)) ∧ w'.cell? ⟨(ad342.add ((x17_1).toNat * 3)).block, (ad342.add ((x17_1).toNat * 3)).off + 1, none⟩ = some (.int .i64 ((rd_T35 t310 x17_1).f1)) ∧ w'.cell? ⟨(ad342.add ((x17_1).toNat * 3)).block, (ad342.add ((x17_1).toNat * 3)).off + 2, none⟩ = some (.int .i64 ((rd_T35 t310 x17_1).f2)) ∧ w'.cell? (ad342.add ((x17_1).toNat * 3)) = some (.string ((rd_T35 t310 x17_1).f0)) ∧ w'.cell? ⟨(ad342.add ((x17_1).toNat * 3)).block, (ad342.add ((x17_1).toNat * 3)).off + 1, none⟩ = some (.int .i64 ((rd_T35 t310 x17_1).f1)) ∧ w'.cell? ⟨(ad342.add ((x17_1).toNat * 3)).block, (ad342.add ((x17_1).toNat * 3)).off + 2, none⟩ = some (.int .i64 ((rd_T35 t310 x17_1).f2))) (ds := []) #[false, false, false, false, false, false, false, false, false, false, false, false, false] (by kernel_rfl) rfl rfl ⟨hx343_0, hx343_1, hx343_2, hx345_0, hx345_1, hx345_2⟩ (fun hHeld => ?_); refine with_tabW laws_FnLeases.tab18 laws_FnLeases.bits18 (fun HT_ HW_ => ?_)
                  generalize wr.drew = w32 at HO_3 HO_5 HO_9 HO_14 HO_15 HB hx343_0 hx343_1 hx343_2 hx345_0 hx345_1 hx345_2 hHeld ⊢
                  refine pure_ (i := 0) (N := some 81) (v := ?_) (a' := ?_) #[true, false, false, false, false, false, false, false, false, false, false, false, false] rfl rfl (any_of HT_.out (by kernel_rfl)) (fun _ _ _ h => h) (Or.inl ⟨by rfl, ?_⟩) ?_ ?_
                  rotate_left
                  · intro w'
                    go_simp
                    with_reducible rfl
                  rotate_left
                  · simp only [Act.put, List.setIfInBounds_toArray, List.set_cons_zero, List.set_cons_succ, i64_w, i32_w]
                    rfl
                  refine pure_ (i := 1) (N := some 82) (v := ?_) (a' := ?_) #[true, true, false, false, false, false, false, false, false, false, false, false, false] rfl rfl (any_of HT_.out (by kernel_rfl)) (fun _ _ _ h => h) (Or.inl ⟨by rfl, ?_⟩) ?_ ?_
                  rotate_left
                  · intro w'
                    go_simp
                    with_reducible rfl
                  rotate_left
                  · simp only [Act.put, List.setIfInBounds_toArray, List.set_cons_zero, List.set_cons_succ, i64_w, i32_w]
                    rfl
                  refine pure_ (i := 2) (N := some 83) (v := ?_) (a' := ?_) #[true, true, true, false, false, false, false, false, false, false, false, false, false] rfl rfl (any_of HT_.out (by kernel_rfl)) (fun _ _ _ h => h) (Or.inl ⟨by rfl, ?_⟩) ?_ ?_
                  rotate_left
                  · intro w'
                    go_simp
                    with_reducible rfl
                  rotate_left
                  · simp only [Act.put, List.setIfInBounds_toArray, List.set_cons_zero, List.set_cons_succ, i64_w, i32_w]
                    rfl
                  refine pure_ (i := 3) (N := some 84) (v := ?_) (a' := ?_) #[true, true, true, true, false, false, false, false, false, false, false, false, false] rfl rfl (any_of HT_.out (by kernel_rfl)) (fun _ _ _ h => h) (Or.inl ⟨by rfl, ?_⟩) ?_ ?_
                  rotate_left
                  · intro w'
                    go_simp
                    with_reducible rfl
                  rotate_left
                  · simp only [Act.put, List.setIfInBounds_toArray, List.set_cons_zero, List.set_cons_succ, i64_w, i32_w]
                    rfl
                  refine pure_ (i := 4) (N := some 85) (v := ?_) (a' := ?_) #[true, true, true, true, true, false, false, false, false, false, false, false, false] rfl rfl (any_of HT_.out (by kernel_rfl)) (fun _ _ _ h => h) (Or.inl ⟨by rfl, ?_⟩) ?_ ?_
                  rotate_left
                  · intro w'
                    go_simp
                    with_reducible rfl
                  rotate_left
                  · simp only [Act.put, List.setIfInBounds_toArray, List.set_cons_zero, List.set_cons_succ, i64_w, i32_w]
                    rfl
                  refine pure_ (i := 7) (N := some 88) (v := ?_) (a' := ?_) #[true, true, true, true, true, false, false, true, false, false, false, false, false] rfl rfl (any_of HT_.out (by kernel_rfl)) (fun _ _ _ h => h) (Or.inl ⟨by rfl, ?_⟩) ?_ ?_
                  rotate_left
                  · intro w'
                    go_simp
                    with_reducible rfl
                  rotate_left
                  · simp only [Act.put, List.setIfInBounds_toArray, List.set_cons_zero, List.set_cons_succ, i64_w, i32_w]
                    rfl
                  refine pure_ (i := 8) (N := some 89) (v := ?_) (a' := ?_) #[true, true, true, true, true, false, false, true, true, false, false, false, false] rfl rfl (any_of HT_.out (by kernel_rfl)) (fun _ _ _ h => h) (Or.inl ⟨by rfl, ?_⟩) ?_ ?_
                  rotate_left
                  · intro w'
                    go_simp
                    with_reducible rfl
                  rotate_left
                  · simp only [Act.put, List.setIfInBounds_toArray, List.set_cons_zero, List.set_cons_succ, i64_w, i32_w]
                    rfl
                  refine pure_ (i := 9) (N := some 90) (v := ?_) (a' := ?_) #[true, true, true, true, true, false, false, true, true, true, false, false, false] rfl rfl (any_of HT_.out (by kernel_rfl)) (fun _ _ _ h => h) (Or.inl ⟨by rfl, ?_⟩) ?_ ?_
                  rotate_left
                  · intro w'
                    go_simp
                    with_reducible rfl
                  rotate_left
                  · simp only [Act.put, List.setIfInBounds_toArray, List.set_cons_zero, List.set_cons_succ, i64_w, i32_w]
                    rfl
                  refine pure_ (i := 10) (N := some 91) (v := ?_) (a' := ?_) #[true, true, true, true, true, false, false, true, true, true, true, false, false] rfl rfl (any_of HT_.out (by kernel_rfl)) (fun _ _ _ h => h) (Or.inl ⟨by rfl, ?_⟩) ?_ ?_
                  rotate_left
                  · intro w'
                    go_simp
                    with_reducible rfl
                  rotate_left
                  · simp only [Act.put, List.setIfInBounds_toArray, List.set_cons_zero, List.set_cons_succ, i64_w, i32_w]
                    rfl
                  refine take_ (i := 5) (N := some 86) (v := ?_) (a' := ?_) #[true, true, true, true, true, true, false, true, true, true, true, false, false] rfl rfl (take_ofW HT_.out HW_.out (by kernel_rfl)) (fun _ _ _ h => h) (Or.inl ⟨by rfl, ?_⟩) hHeld ?_ ?_
                  rotate_left
                  · rintro w' ⟨s0, s1, s2, s3, s4, s5⟩
                    go_simp
                    with_reducible rfl
                  rotate_left
                  · simp only [Act.put, List.setIfInBounds_toArray, List.set_cons_zero, List.set_cons_succ, i64_w, i32_w]
                    rfl
                  refine take_ (i := 11) (N := some 92) (v := ?_) (a' := ?_) #[true, true, true, true, true, true, false, true, true, true, true, true, false] rfl rfl (take_ofW HT_.out HW_.out (by kernel_rfl)) (fun _ _ _ h => h) (Or.inl ⟨by rfl, ?_⟩) hHeld ?_ ?_
                  rotate_left
                  · rintro w' ⟨s0, s1, s2, s3, s4, s5⟩
                    go_simp
                    with_reducible rfl
                  rotate_left
                  · simp only [Act.put, List.setIfInBounds_toArray, List.set_cons_zero, List.set_cons_succ, i64_w, i32_w]
                    rfl
                  refine one_ (i := 6) (N := some 87) #[true, true, true, true, true, true, true, true, true, true, true, true, false] rfl rfl (one_of HT_.out (by kernel_rfl)) (by decide) (fun K hK => ?_)
                  refine goes_ Tryd.func11 (by kernel_rfl) rfl #[.slice Ao19 t317.length co19, .string ((rd_T35 t310 x17_1).f0)] (by rfl) rfl rfl (by (try simp only [List.map_toArray, List.map_cons, List.map_nil]); first | done | rfl | (simp only [List.length_drop, List.length_take]; rfl)) ?_
                  with_reducible refine (impl_HolderOf.calls k1 _ _ t317 ((rd_T35 t310 x17_1).f0) t344 _ ?side1 ?side2 A30.out).mono ?_
                  (case side1 => exact CC (Kd.R_reads' HO_5.out).2.2)
                  (case side2 => exact (Kd.R_reads' HO_5.out).2.1)
                  rintro e w33 ⟨rfl, hb⟩
                  have HS0_ := (hb.cell (World.block_lt_of_cell? _ _ (hHeld.1))).trans (hHeld.1)
                  have HS1_ := (hb.cell (World.block_lt_of_cell? _ _ (hHeld.2.1))).trans (hHeld.2.1)
                  have HS2_ := (hb.cell (World.block_lt_of_cell? _ _ (hHeld.2.2.1))).trans (hHeld.2.2.1)
                  have HS3_ := (hb.cell (World.block_lt_of_cell? _ _ (hHeld.2.2.2.1))).trans (hHeld.2.2.2.1)
                  have HS4_ := (hb.cell (World.block_lt_of_cell? _ _ (hHeld.2.2.2.2.1))).trans (hHeld.2.2.2.2.1)
                  have HS5_ := (hb.cell (World.block_lt_of_cell? _ _ (hHeld.2.2.2.2.2))).trans (hHeld.2.2.2.2.2)
                  refine ⟨_, rfl, ?_⟩
                  have n0_ := Aside0.mk (Kd.R_below (RR HO_3.out) hb)
                  have n1_ := Aside0.mk (Kd.R_below (RR HO_5.out) hb)
                  have n2_ := Aside0.mk (Kd.R_below (RR HO_9.out) hb)
                  have n3_ := Aside0.mk (Kd.R_below (RR HO_14.out) hb)
                  have n4_ := Aside0.mk (Kd.R_below (RR HO_15.out) hb)
                  have n5_ := Aside0.mk (below_step (BB HB.out) hb)
                  clear HO_3
                  clear HO_5
                  clear HO_9
                  clear HO_14
                  clear HO_15
                  clear HB
                  have HO_3 := n0_
                  have HO_5 := n1_
                  have HO_9 := n2_
                  have HO_14 := n3_
                  have HO_15 := n4_
                  have HB := n5_
                  clear n0_ n1_ n2_ n3_ n4_ n5_
                  (try clear hb)
                  (try clear hb2)
                  (try clear hk)
                  (try clear hi)
                  refine hK.out _ _ ⟨HS0_, HS1_, HS2_, HS3_, HS4_, HS5_⟩ (fun hHeld => ?_)
                  clear hK K
                  refine norm_ (a' := ?_) ?_ ?_
                  rotate_left
                  · show Act.put _ (some 87) _ = _
                    simp only [Act.put, List.setIfInBounds_toArray, List.set_cons_zero, List.set_cons_succ, i64_w, i32_w]
                    rfl
                  refine pure_ (i := 12) (N := some 93) (v := ?_) (a' := ?_) #[true, true, true, true, true, true, true, true, true, true, true, true, true] rfl rfl (any_of HT_.out (by kernel_rfl)) (fun _ _ _ h => h) (Or.inl ⟨by rfl, ?_⟩) ?_ ?_
                  rotate_left
                  · intro w'
                    go_simp
                    with_reducible rfl
                  rotate_left
                  · simp only [Act.put, List.setIfInBounds_toArray, List.set_cons_zero, List.set_cons_succ, i64_w, i32_w]
                    rfl
                  refine done_ (done_of HT_.out (by kernel_rfl)) ?_
                  try go_wp2
                  go_roundg k1
                  case measure => have := HK1.out; omega
                  case rel => exact ⟨(wrap64 (x16_1 + 1)), (wrap64 (x17_1 + 1)), FR, FR, H', ⟨by have := HK1.out; omega⟩, ⟨(RR HO_3.out)⟩, ⟨(RR HO_5.out)⟩, ⟨(RR HO_9.out)⟩, ⟨(RR HO_14.out)⟩, ⟨(RR HO_15.out)⟩, ⟨(BB HB.out)⟩⟩
                · rw [if_neg c31] at H
                  have c31b0 : (t344 == ((rd_T35 t310 x17_1).f1)) = false := beq_eq_false_iff_ne.mpr c31
                  have c31b1 : (t344 != ((rd_T35 t310 x17_1).f1)) = true := bne_iff_ne.mpr c31
                  obtain rfl := Option.some.inj H
                  have p342 : 0 ≤ (x17_1 : Int) := DT
                  have q342 : x17_1 < (t310.length : Int) := DT
                  obtain ⟨ad342, e342, hx342_0, hx342_1, hx342_2⟩ := at_T35 (Kd.R_reads' HO_3.out).2.2 x17_1 p342 q342
                  cases e342
                  replace p342 := eq_true p342
                  replace q342 := eq_true q342
                  try go_wp2
                  have n0_ := Aside0.mk (Kd.R_drew HO_3.out)
                  have n1_ := Aside0.mk (Kd.R_drew HO_5.out)
                  have n2_ := Aside0.mk (Kd.R_drew HO_9.out)
                  have n3_ := Aside0.mk (Kd.R_drew HO_14.out)
                  have n4_ := Aside0.mk (Kd.R_drew HO_15.out)
                  have n5_ := Aside0.mk (below_drew1 HB.out)
                  clear HO_3
                  clear HO_5
                  clear HO_9
                  clear HO_14
                  clear HO_15
                  clear HB
                  have HO_3 := n0_
                  have HO_5 := n1_
                  have HO_9 := n2_
                  have HO_14 := n3_
                  have HO_15 := n4_
                  have HB := n5_
                  clear n0_ n1_ n2_ n3_ n4_ n5_
                  have p343 : 0 ≤ (x17_1 : Int) := DT
                  have q343 : x17_1 < (t310.length : Int) := DT
                  obtain ⟨ad343, e343, hx343_0, hx343_1, hx343_2⟩ := at_T35 (Kd.R_reads' HO_3.out).2.2 x17_1 p343 q343
                  obtain rfl : ad342 = ad343 := (by injection e343)
                  replace p343 := eq_true p343
                  replace q343 := eq_true q343
                  have p345 : 0 ≤ (x17_1 : Int) := DT
                  have q345 : x17_1 < (t310.length : Int) := DT
                  obtain ⟨ad345, e345, hx345_0, hx345_1, hx345_2⟩ := at_T35 (Kd.R_reads' HO_3.out).2.2 x17_1 p345 q345
                  obtain rfl : ad342 = ad345 := (by injection e345)
                  replace p345 := eq_true p345
                  replace q345 := eq_true q345
                  refine start_ (n := 13) (S := fun w' => w'.cell? (ad342.add ((x17_1).toNat * 3)) = some (.string ((rd_T35 t310 x17_1).f0)) ∧ w'.cell? ⟨(ad342.add ((x17_1).toNat * 3)).block, (ad342.add ((x17_1).toNat * 3)).off + 1, none⟩ = some (.int .i64 ((rd_T35 t310 x17_1).f1)) ∧ w'.cell? ⟨(ad342.add ((x17_1).toNat * 3)).block, (ad342.add ((x17_1).toNat * 3)).off + 2, none⟩ = some (.int .i64 ((rd_T35 t310 x17_1).f2)) ∧ w'.cell? (ad342.add ((x17_1).toNat * 3)) = some (.string ((rd_T35 t310 x17_1).f0)) ∧ w'.cell? ⟨(ad342.add ((x17_1).toNat * 3)).block, (ad342.add ((x17_1).toNat * 3)).off + 1, none⟩ = some (.int .i64 ((rd_T35 t310 x17_1).f1)) ∧ w'.cell? ⟨(ad342.add ((x17_1).toNat * 3)).block, (ad342.add ((x17_1).toNat * 3)).off + 2, none⟩ = some (.int .i64 ((rd_T35 t310 x17_1).f2))) (ds := []) #[false, false, false, false, false, false, false, false, false, false, false, false, false] (by kernel_rfl) rfl rfl ⟨hx343_0, hx343_1, hx343_2, hx345_0, hx345_1, hx345_2⟩ (fun hHeld => ?_); refine with_tabW laws_FnLeases.tab18 laws_FnLeases.bits18 (fun HT_ HW_ => ?_)
                  generalize wr.drew = w34 at HO_3 HO_5 HO_9 HO_14 HO_15 HB hx343_0 hx343_1 hx343_2 hx345_0 hx345_1 hx345_2 hHeld ⊢
                  refine pure_ (i := 0) (N := some 81) (v := ?_) (a' := ?_) #[true, false, false, false, false, false, false, false, false, false, false, false, false] rfl rfl (any_of HT_.out (by kernel_rfl)) (fun _ _ _ h => h) (Or.inl ⟨by rfl, ?_⟩) ?_ ?_
                  rotate_left
                  · intro w'
                    go_simp
                    with_reducible rfl
                  rotate_left
                  · simp only [Act.put, List.setIfInBounds_toArray, List.set_cons_zero, List.set_cons_succ, i64_w, i32_w]
                    rfl
                  refine pure_ (i := 1) (N := some 82) (v := ?_) (a' := ?_) #[true, true, false, false, false, false, false, false, false, false, false, false, false] rfl rfl (any_of HT_.out (by kernel_rfl)) (fun _ _ _ h => h) (Or.inl ⟨by rfl, ?_⟩) ?_ ?_
                  rotate_left
                  · intro w'
                    go_simp
                    with_reducible rfl
                  rotate_left
                  · simp only [Act.put, List.setIfInBounds_toArray, List.set_cons_zero, List.set_cons_succ, i64_w, i32_w]
                    rfl
                  refine pure_ (i := 2) (N := some 83) (v := ?_) (a' := ?_) #[true, true, true, false, false, false, false, false, false, false, false, false, false] rfl rfl (any_of HT_.out (by kernel_rfl)) (fun _ _ _ h => h) (Or.inl ⟨by rfl, ?_⟩) ?_ ?_
                  rotate_left
                  · intro w'
                    go_simp
                    with_reducible rfl
                  rotate_left
                  · simp only [Act.put, List.setIfInBounds_toArray, List.set_cons_zero, List.set_cons_succ, i64_w, i32_w]
                    rfl
                  refine pure_ (i := 3) (N := some 84) (v := ?_) (a' := ?_) #[true, true, true, true, false, false, false, false, false, false, false, false, false] rfl rfl (any_of HT_.out (by kernel_rfl)) (fun _ _ _ h => h) (Or.inl ⟨by rfl, ?_⟩) ?_ ?_
                  rotate_left
                  · intro w'
                    go_simp
                    with_reducible rfl
                  rotate_left
                  · simp only [Act.put, List.setIfInBounds_toArray, List.set_cons_zero, List.set_cons_succ, i64_w, i32_w]
                    rfl
                  refine pure_ (i := 4) (N := some 85) (v := ?_) (a' := ?_) #[true, true, true, true, true, false, false, false, false, false, false, false, false] rfl rfl (any_of HT_.out (by kernel_rfl)) (fun _ _ _ h => h) (Or.inl ⟨by rfl, ?_⟩) ?_ ?_
                  rotate_left
                  · intro w'
                    go_simp
                    with_reducible rfl
                  rotate_left
                  · simp only [Act.put, List.setIfInBounds_toArray, List.set_cons_zero, List.set_cons_succ, i64_w, i32_w]
                    rfl
                  refine pure_ (i := 7) (N := some 88) (v := ?_) (a' := ?_) #[true, true, true, true, true, false, false, true, false, false, false, false, false] rfl rfl (any_of HT_.out (by kernel_rfl)) (fun _ _ _ h => h) (Or.inl ⟨by rfl, ?_⟩) ?_ ?_
                  rotate_left
                  · intro w'
                    go_simp
                    with_reducible rfl
                  rotate_left
                  · simp only [Act.put, List.setIfInBounds_toArray, List.set_cons_zero, List.set_cons_succ, i64_w, i32_w]
                    rfl
                  refine pure_ (i := 8) (N := some 89) (v := ?_) (a' := ?_) #[true, true, true, true, true, false, false, true, true, false, false, false, false] rfl rfl (any_of HT_.out (by kernel_rfl)) (fun _ _ _ h => h) (Or.inl ⟨by rfl, ?_⟩) ?_ ?_
                  rotate_left
                  · intro w'
                    go_simp
                    with_reducible rfl
                  rotate_left
                  · simp only [Act.put, List.setIfInBounds_toArray, List.set_cons_zero, List.set_cons_succ, i64_w, i32_w]
                    rfl
                  refine pure_ (i := 9) (N := some 90) (v := ?_) (a' := ?_) #[true, true, true, true, true, false, false, true, true, true, false, false, false] rfl rfl (any_of HT_.out (by kernel_rfl)) (fun _ _ _ h => h) (Or.inl ⟨by rfl, ?_⟩) ?_ ?_
                  rotate_left
                  · intro w'
                    go_simp
                    with_reducible rfl
                  rotate_left
                  · simp only [Act.put, List.setIfInBounds_toArray, List.set_cons_zero, List.set_cons_succ, i64_w, i32_w]
                    rfl
                  refine pure_ (i := 10) (N := some 91) (v := ?_) (a' := ?_) #[true, true, true, true, true, false, false, true, true, true, true, false, false] rfl rfl (any_of HT_.out (by kernel_rfl)) (fun _ _ _ h => h) (Or.inl ⟨by rfl, ?_⟩) ?_ ?_
                  rotate_left
                  · intro w'
                    go_simp
                    with_reducible rfl
                  rotate_left
                  · simp only [Act.put, List.setIfInBounds_toArray, List.set_cons_zero, List.set_cons_succ, i64_w, i32_w]
                    rfl
                  refine take_ (i := 5) (N := some 86) (v := ?_) (a' := ?_) #[true, true, true, true, true, true, false, true, true, true, true, false, false] rfl rfl (take_ofW HT_.out HW_.out (by kernel_rfl)) (fun _ _ _ h => h) (Or.inl ⟨by rfl, ?_⟩) hHeld ?_ ?_
                  rotate_left
                  · rintro w' ⟨s0, s1, s2, s3, s4, s5⟩
                    go_simp
                    with_reducible rfl
                  rotate_left
                  · simp only [Act.put, List.setIfInBounds_toArray, List.set_cons_zero, List.set_cons_succ, i64_w, i32_w]
                    rfl
                  refine take_ (i := 11) (N := some 92) (v := ?_) (a' := ?_) #[true, true, true, true, true, true, false, true, true, true, true, true, false] rfl rfl (take_ofW HT_.out HW_.out (by kernel_rfl)) (fun _ _ _ h => h) (Or.inl ⟨by rfl, ?_⟩) hHeld ?_ ?_
                  rotate_left
                  · rintro w' ⟨s0, s1, s2, s3, s4, s5⟩
                    go_simp
                    with_reducible rfl
                  rotate_left
                  · simp only [Act.put, List.setIfInBounds_toArray, List.set_cons_zero, List.set_cons_succ, i64_w, i32_w]
                    rfl
                  refine one_ (i := 6) (N := some 87) #[true, true, true, true, true, true, true, true, true, true, true, true, false] rfl rfl (one_of HT_.out (by kernel_rfl)) (by decide) (fun K hK => ?_)
                  refine goes_ Tryd.func11 (by kernel_rfl) rfl #[.slice Ao19 t317.length co19, .string ((rd_T35 t310 x17_1).f0)] (by rfl) rfl rfl (by (try simp only [List.map_toArray, List.map_cons, List.map_nil]); first | done | rfl | (simp only [List.length_drop, List.length_take]; rfl)) ?_
                  with_reducible refine (impl_HolderOf.calls k1 _ _ t317 ((rd_T35 t310 x17_1).f0) t344 _ ?side1 ?side2 A30.out).mono ?_
                  (case side1 => exact CC (Kd.R_reads' HO_5.out).2.2)
                  (case side2 => exact (Kd.R_reads' HO_5.out).2.1)
                  rintro e w35 ⟨rfl, hb⟩
                  have HS0_ := (hb.cell (World.block_lt_of_cell? _ _ (hHeld.1))).trans (hHeld.1)
                  have HS1_ := (hb.cell (World.block_lt_of_cell? _ _ (hHeld.2.1))).trans (hHeld.2.1)
                  have HS2_ := (hb.cell (World.block_lt_of_cell? _ _ (hHeld.2.2.1))).trans (hHeld.2.2.1)
                  have HS3_ := (hb.cell (World.block_lt_of_cell? _ _ (hHeld.2.2.2.1))).trans (hHeld.2.2.2.1)
                  have HS4_ := (hb.cell (World.block_lt_of_cell? _ _ (hHeld.2.2.2.2.1))).trans (hHeld.2.2.2.2.1)
                  have HS5_ := (hb.cell (World.block_lt_of_cell? _ _ (hHeld.2.2.2.2.2))).trans (hHeld.2.2.2.2.2)
                  refine ⟨_, rfl, ?_⟩
                  have n0_ := Aside0.mk (Kd.R_below (RR HO_3.out) hb)
                  have n1_ := Aside0.mk (Kd.R_below (RR HO_5.out) hb)
                  have n2_ := Aside0.mk (Kd.R_below (RR HO_9.out) hb)
                  have n3_ := Aside0.mk (Kd.R_below (RR HO_14.out) hb)
                  have n4_ := Aside0.mk (Kd.R_below (RR HO_15.out) hb)
                  have n5_ := Aside0.mk (below_step (BB HB.out) hb)
                  clear HO_3
                  clear HO_5
                  clear HO_9
                  clear HO_14
                  clear HO_15
                  clear HB
                  have HO_3 := n0_
                  have HO_5 := n1_
                  have HO_9 := n2_
                  have HO_14 := n3_
                  have HO_15 := n4_
                  have HB := n5_
                  clear n0_ n1_ n2_ n3_ n4_ n5_
                  (try clear hb)
                  (try clear hb2)
                  (try clear hk)
                  (try clear hi)
                  refine hK.out _ _ ⟨HS0_, HS1_, HS2_, HS3_, HS4_, HS5_⟩ (fun hHeld => ?_)
                  clear hK K
                  refine norm_ (a' := ?_) ?_ ?_
                  rotate_left
                  · show Act.put _ (some 87) _ = _
                    simp only [Act.put, List.setIfInBounds_toArray, List.set_cons_zero, List.set_cons_succ, i64_w, i32_w]
                    rfl
                  refine pure_ (i := 12) (N := some 93) (v := ?_) (a' := ?_) #[true, true, true, true, true, true, true, true, true, true, true, true, true] rfl rfl (any_of HT_.out (by kernel_rfl)) (fun _ _ _ h => h) (Or.inl ⟨by rfl, ?_⟩) ?_ ?_
                  rotate_left
                  · intro w'
                    go_simp
                    with_reducible rfl
                  rotate_left
                  · simp only [Act.put, List.setIfInBounds_toArray, List.set_cons_zero, List.set_cons_succ, i64_w, i32_w]
                    rfl
                  refine done_ (done_of HT_.out (by kernel_rfl)) ?_
                  try go_wp2
                  go_ret
                  exact ⟨ER, (BB HB.out)⟩
              · rw [if_neg c29] at H
                have c29b0 : decide (12 ≤ (wrap64 ((wrap64 (30 + (Int.tmod (rd t313 0) 20))) - ((rd_T35 t310 x17_1).f2)))) = false := decide_eq_false c29
                clear c29
                replace H := Option.bind_eq_some_iff.mp H
                obtain ⟨t347, A360, H⟩ := H
                replace H : (if t347 = ((rd_T35 t310 x17_1).f1) then (laws_FnLeases.l0 k1 t310 (wrap64 (30 + (Int.tmod (rd t313 0) 20))) t317 t318 t322 t325 t326 t333 t336 t339 x16_1 (wrap64 (x17_1 + 1))) else (some false)) = some r := H
                have A36 := Aside0.mk A360
                clear A360
                by_cases c37 : t347 = ((rd_T35 t310 x17_1).f1)
                · rw [if_pos c37] at H
                  have c37b0 : (t347 == ((rd_T35 t310 x17_1).f1)) = true := beq_iff_eq.mpr c37
                  have c37b1 : (t347 != ((rd_T35 t310 x17_1).f1)) = false := bne_eq_false_iff_eq.mpr c37
                  clear c37
                  have H' := Aside0.mk H
                  clear H
                  have p342 : 0 ≤ (x17_1 : Int) := DT
                  have q342 : x17_1 < (t310.length : Int) := DT
                  obtain ⟨ad342, e342, hx342_0, hx342_1, hx342_2⟩ := at_T35 (Kd.R_reads' HO_3.out).2.2 x17_1 p342 q342
                  cases e342
                  replace p342 := eq_true p342
                  replace q342 := eq_true q342
                  try go_wp2
                  have n0_ := Aside0.mk (Kd.R_drew HO_3.out)
                  have n1_ := Aside0.mk (Kd.R_drew HO_5.out)
                  have n2_ := Aside0.mk (Kd.R_drew HO_9.out)
                  have n3_ := Aside0.mk (Kd.R_drew HO_14.out)
                  have n4_ := Aside0.mk (Kd.R_drew HO_15.out)
                  have n5_ := Aside0.mk (below_drew1 HB.out)
                  clear HO_3
                  clear HO_5
                  clear HO_9
                  clear HO_14
                  clear HO_15
                  clear HB
                  have HO_3 := n0_
                  have HO_5 := n1_
                  have HO_9 := n2_
                  have HO_14 := n3_
                  have HO_15 := n4_
                  have HB := n5_
                  clear n0_ n1_ n2_ n3_ n4_ n5_
                  have p346 : 0 ≤ (x17_1 : Int) := DT
                  have q346 : x17_1 < (t310.length : Int) := DT
                  obtain ⟨ad346, e346, hx346_0, hx346_1, hx346_2⟩ := at_T35 (Kd.R_reads' HO_3.out).2.2 x17_1 p346 q346
                  obtain rfl : ad342 = ad346 := (by injection e346)
                  replace p346 := eq_true p346
                  replace q346 := eq_true q346
                  have p348 : 0 ≤ (x17_1 : Int) := DT
                  have q348 : x17_1 < (t310.length : Int) := DT
                  obtain ⟨ad348, e348, hx348_0, hx348_1, hx348_2⟩ := at_T35 (Kd.R_reads' HO_3.out).2.2 x17_1 p348 q348
                  obtain rfl : ad342 = ad348 := (by injection e348)
                  replace p348 := eq_true p348
                  replace q348 := eq_true q348
                  refine start_ (n := 13) (S := fun w' => w'.cell? (ad342.add ((x17_1).toNat * 3)) = some (.string ((rd_T35 t310 x17_1).f0)) ∧ w'.cell? ⟨(ad342.add ((x17_1).toNat * 3)).block, (ad342.add ((x17_1).toNat * 3)).off + 1, none⟩ = some (.int .i64 ((rd_T35 t310 x17_1).f1)) ∧ w'.cell? ⟨(ad342.add ((x17_1).toNat * 3)).block, (ad342.add ((x17_1).toNat * 3)).off + 2, none⟩ = some (.int .i64 ((rd_T35 t310 x17_1).f2)) ∧ w'.cell? (ad342.add ((x17_1).toNat * 3)) = some (.string ((rd_T35 t310 x17_1).f0)) ∧ w'.cell? ⟨(ad342.add ((x17_1).toNat * 3)).block, (ad342.add ((x17_1).toNat * 3)).off + 1, none⟩ = some (.int .i64 ((rd_T35 t310 x17_1).f1)) ∧ w'.cell? ⟨(ad342.add ((x17_1).toNat * 3)).block, (ad342.add ((x17_1).toNat * 3)).off + 2, none⟩ = some (.int .i64 ((rd_T35 t310 x17_1).f2))) (ds := []) #[false, false, false, false, false, false, false, false, false, false, false, false, false] (by kernel_rfl) rfl rfl ⟨hx346_0, hx346_1, hx346_2, hx348_0, hx348_1, hx348_2⟩ (fun hHeld => ?_); refine with_tabW laws_FnLeases.tab18 laws_FnLeases.bits18 (fun HT_ HW_ => ?_)
                  generalize wr.drew = w38 at HO_3 HO_5 HO_9 HO_14 HO_15 HB hx346_0 hx346_1 hx346_2 hx348_0 hx348_1 hx348_2 hHeld ⊢
                  refine pure_ (i := 0) (N := some 81) (v := ?_) (a' := ?_) #[true, false, false, false, false, false, false, false, false, false, false, false, false] rfl rfl (any_of HT_.out (by kernel_rfl)) (fun _ _ _ h => h) (Or.inl ⟨by rfl, ?_⟩) ?_ ?_
                  rotate_left
                  · intro w'
                    go_simp
                    with_reducible rfl
                  rotate_left
                  · simp only [Act.put, List.setIfInBounds_toArray, List.set_cons_zero, List.set_cons_succ, i64_w, i32_w]
                    rfl
                  refine pure_ (i := 1) (N := some 82) (v := ?_) (a' := ?_) #[true, true, false, false, false, false, false, false, false, false, false, false, false] rfl rfl (any_of HT_.out (by kernel_rfl)) (fun _ _ _ h => h) (Or.inl ⟨by rfl, ?_⟩) ?_ ?_
                  rotate_left
                  · intro w'
                    go_simp
                    with_reducible rfl
                  rotate_left
                  · simp only [Act.put, List.setIfInBounds_toArray, List.set_cons_zero, List.set_cons_succ, i64_w, i32_w]
                    rfl
                  refine pure_ (i := 2) (N := some 83) (v := ?_) (a' := ?_) #[true, true, true, false, false, false, false, false, false, false, false, false, false] rfl rfl (any_of HT_.out (by kernel_rfl)) (fun _ _ _ h => h) (Or.inl ⟨by rfl, ?_⟩) ?_ ?_
                  rotate_left
                  · intro w'
                    go_simp
                    with_reducible rfl
                  rotate_left
                  · simp only [Act.put, List.setIfInBounds_toArray, List.set_cons_zero, List.set_cons_succ, i64_w, i32_w]
                    rfl
                  refine pure_ (i := 3) (N := some 84) (v := ?_) (a' := ?_) #[true, true, true, true, false, false, false, false, false, false, false, false, false] rfl rfl (any_of HT_.out (by kernel_rfl)) (fun _ _ _ h => h) (Or.inl ⟨by rfl, ?_⟩) ?_ ?_
                  rotate_left
                  · intro w'
                    go_simp
                    with_reducible rfl
                  rotate_left
                  · simp only [Act.put, List.setIfInBounds_toArray, List.set_cons_zero, List.set_cons_succ, i64_w, i32_w]
                    rfl
                  refine pure_ (i := 4) (N := some 85) (v := ?_) (a' := ?_) #[true, true, true, true, true, false, false, false, false, false, false, false, false] rfl rfl (any_of HT_.out (by kernel_rfl)) (fun _ _ _ h => h) (Or.inl ⟨by rfl, ?_⟩) ?_ ?_
                  rotate_left
                  · intro w'
                    go_simp
                    with_reducible rfl
                  rotate_left
                  · simp only [Act.put, List.setIfInBounds_toArray, List.set_cons_zero, List.set_cons_succ, i64_w, i32_w]
                    rfl
                  refine pure_ (i := 7) (N := some 88) (v := ?_) (a' := ?_) #[true, true, true, true, true, false, false, true, false, false, false, false, false] rfl rfl (any_of HT_.out (by kernel_rfl)) (fun _ _ _ h => h) (Or.inl ⟨by rfl, ?_⟩) ?_ ?_
                  rotate_left
                  · intro w'
                    go_simp
                    with_reducible rfl
                  rotate_left
                  · simp only [Act.put, List.setIfInBounds_toArray, List.set_cons_zero, List.set_cons_succ, i64_w, i32_w]
                    rfl
                  refine pure_ (i := 8) (N := some 89) (v := ?_) (a' := ?_) #[true, true, true, true, true, false, false, true, true, false, false, false, false] rfl rfl (any_of HT_.out (by kernel_rfl)) (fun _ _ _ h => h) (Or.inl ⟨by rfl, ?_⟩) ?_ ?_
                  rotate_left
                  · intro w'
                    go_simp
                    with_reducible rfl
                  rotate_left
                  · simp only [Act.put, List.setIfInBounds_toArray, List.set_cons_zero, List.set_cons_succ, i64_w, i32_w]
                    rfl
                  refine pure_ (i := 9) (N := some 90) (v := ?_) (a' := ?_) #[true, true, true, true, true, false, false, true, true, true, false, false, false] rfl rfl (any_of HT_.out (by kernel_rfl)) (fun _ _ _ h => h) (Or.inl ⟨by rfl, ?_⟩) ?_ ?_
                  rotate_left
                  · intro w'
                    go_simp
                    with_reducible rfl
                  rotate_left
                  · simp only [Act.put, List.setIfInBounds_toArray, List.set_cons_zero, List.set_cons_succ, i64_w, i32_w]
                    rfl
                  refine pure_ (i := 10) (N := some 91) (v := ?_) (a' := ?_) #[true, true, true, true, true, false, false, true, true, true, true, false, false] rfl rfl (any_of HT_.out (by kernel_rfl)) (fun _ _ _ h => h) (Or.inl ⟨by rfl, ?_⟩) ?_ ?_
                  rotate_left
                  · intro w'
                    go_simp
                    with_reducible rfl
                  rotate_left
                  · simp only [Act.put, List.setIfInBounds_toArray, List.set_cons_zero, List.set_cons_succ, i64_w, i32_w]
                    rfl
                  refine take_ (i := 5) (N := some 86) (v := ?_) (a' := ?_) #[true, true, true, true, true, true, false, true, true, true, true, false, false] rfl rfl (take_ofW HT_.out HW_.out (by kernel_rfl)) (fun _ _ _ h => h) (Or.inl ⟨by rfl, ?_⟩) hHeld ?_ ?_
                  rotate_left
                  · rintro w' ⟨s0, s1, s2, s3, s4, s5⟩
                    go_simp
                    with_reducible rfl
                  rotate_left
                  · simp only [Act.put, List.setIfInBounds_toArray, List.set_cons_zero, List.set_cons_succ, i64_w, i32_w]
                    rfl
                  refine take_ (i := 11) (N := some 92) (v := ?_) (a' := ?_) #[true, true, true, true, true, true, false, true, true, true, true, true, false] rfl rfl (take_ofW HT_.out HW_.out (by kernel_rfl)) (fun _ _ _ h => h) (Or.inl ⟨by rfl, ?_⟩) hHeld ?_ ?_
                  rotate_left
                  · rintro w' ⟨s0, s1, s2, s3, s4, s5⟩
                    go_simp
                    with_reducible rfl
                  rotate_left
                  · simp only [Act.put, List.setIfInBounds_toArray, List.set_cons_zero, List.set_cons_succ, i64_w, i32_w]
                    rfl
                  refine one_ (i := 6) (N := some 87) #[true, true, true, true, true, true, true, true, true, true, true, true, false] rfl rfl (one_of HT_.out (by kernel_rfl)) (by decide) (fun K hK => ?_)
                  refine goes_ Tryd.func11 (by kernel_rfl) rfl #[.slice Ao19 t317.length co19, .string ((rd_T35 t310 x17_1).f0)] (by rfl) rfl rfl (by (try simp only [List.map_toArray, List.map_cons, List.map_nil]); first | done | rfl | (simp only [List.length_drop, List.length_take]; rfl)) ?_
                  with_reducible refine (impl_HolderOf.calls k1 _ _ t317 ((rd_T35 t310 x17_1).f0) t347 _ ?side1 ?side2 A36.out).mono ?_
                  (case side1 => exact CC (Kd.R_reads' HO_5.out).2.2)
                  (case side2 => exact (Kd.R_reads' HO_5.out).2.1)
                  rintro e w39 ⟨rfl, hb⟩
                  have HS0_ := (hb.cell (World.block_lt_of_cell? _ _ (hHeld.1))).trans (hHeld.1)
                  have HS1_ := (hb.cell (World.block_lt_of_cell? _ _ (hHeld.2.1))).trans (hHeld.2.1)
                  have HS2_ := (hb.cell (World.block_lt_of_cell? _ _ (hHeld.2.2.1))).trans (hHeld.2.2.1)
                  have HS3_ := (hb.cell (World.block_lt_of_cell? _ _ (hHeld.2.2.2.1))).trans (hHeld.2.2.2.1)
                  have HS4_ := (hb.cell (World.block_lt_of_cell? _ _ (hHeld.2.2.2.2.1))).trans (hHeld.2.2.2.2.1)
                  have HS5_ := (hb.cell (World.block_lt_of_cell? _ _ (hHeld.2.2.2.2.2))).trans (hHeld.2.2.2.2.2)
                  refine ⟨_, rfl, ?_⟩
                  have n0_ := Aside0.mk (Kd.R_below (RR HO_3.out) hb)
                  have n1_ := Aside0.mk (Kd.R_below (RR HO_5.out) hb)
                  have n2_ := Aside0.mk (Kd.R_below (RR HO_9.out) hb)
                  have n3_ := Aside0.mk (Kd.R_below (RR HO_14.out) hb)
                  have n4_ := Aside0.mk (Kd.R_below (RR HO_15.out) hb)
                  have n5_ := Aside0.mk (below_step (BB HB.out) hb)
                  clear HO_3
                  clear HO_5
                  clear HO_9
                  clear HO_14
                  clear HO_15
                  clear HB
                  have HO_3 := n0_
                  have HO_5 := n1_
                  have HO_9 := n2_
                  have HO_14 := n3_
                  have HO_15 := n4_
                  have HB := n5_
                  clear n0_ n1_ n2_ n3_ n4_ n5_
                  (try clear hb)
                  (try clear hb2)
                  (try clear hk)
                  (try clear hi)
                  refine hK.out _ _ ⟨HS0_, HS1_, HS2_, HS3_, HS4_, HS5_⟩ (fun hHeld => ?_)
                  clear hK K
                  refine norm_ (a' := ?_) ?_ ?_
                  rotate_left
                  · show Act.put _ (some 87) _ = _
                    simp only [Act.put, List.setIfInBounds_toArray, List.set_cons_zero, List.set_cons_succ, i64_w, i32_w]
                    rfl
                  refine pure_ (i := 12) (N := some 93) (v := ?_) (a' := ?_) #[true, true, true, true, true, true, true, true, true, true, true, true, true] rfl rfl (any_of HT_.out (by kernel_rfl)) (fun _ _ _ h => h) (Or.inl ⟨by rfl, ?_⟩) ?_ ?_
                  rotate_left
                  · intro w'
                    go_simp
                    with_reducible rfl
                  rotate_left
                  · simp only [Act.put, List.setIfInBounds_toArray, List.set_cons_zero, List.set_cons_succ, i64_w, i32_w]
                    rfl
                  refine done_ (done_of HT_.out (by kernel_rfl)) ?_
                  try go_wp2
                  go_roundg k1
                  case measure => have := HK1.out; omega
                  case rel => exact ⟨(x16_1), (wrap64 (x17_1 + 1)), FR, FR, H', ⟨by have := HK1.out; omega⟩, ⟨(RR HO_3.out)⟩, ⟨(RR HO_5.out)⟩, ⟨(RR HO_9.out)⟩, ⟨(RR HO_14.out)⟩, ⟨(RR HO_15.out)⟩, ⟨(BB HB.out)⟩⟩
                · rw [if_neg c37] at H
                  have c37b0 : (t347 == ((rd_T35 t310 x17_1).f1)) = false := beq_eq_false_iff_ne.mpr c37
                  have c37b1 : (t347 != ((rd_T35 t310 x17_1).f1)) = true := bne_iff_ne.mpr c37
                  obtain rfl := Option.some.inj H
                  have p342 : 0 ≤ (x17_1 : Int) := DT
                  have q342 : x17_1 < (t310.length : Int) := DT
                  obtain ⟨ad342, e342, hx342_0, hx342_1, hx342_2⟩ := at_T35 (Kd.R_reads' HO_3.out).2.2 x17_1 p342 q342
                  cases e342
                  replace p342 := eq_true p342
                  replace q342 := eq_true q342
                  try go_wp2
                  have n0_ := Aside0.mk (Kd.R_drew HO_3.out)
                  have n1_ := Aside0.mk (Kd.R_drew HO_5.out)
                  have n2_ := Aside0.mk (Kd.R_drew HO_9.out)
                  have n3_ := Aside0.mk (Kd.R_drew HO_14.out)
                  have n4_ := Aside0.mk (Kd.R_drew HO_15.out)
                  have n5_ := Aside0.mk (below_drew1 HB.out)
                  clear HO_3
                  clear HO_5
                  clear HO_9
                  clear HO_14
                  clear HO_15
                  clear HB
                  have HO_3 := n0_
                  have HO_5 := n1_
                  have HO_9 := n2_
                  have HO_14 := n3_
                  have HO_15 := n4_
                  have HB := n5_
                  clear n0_ n1_ n2_ n3_ n4_ n5_
                  have p346 : 0 ≤ (x17_1 : Int) := DT
                  have q346 : x17_1 < (t310.length : Int) := DT
                  obtain ⟨ad346, e346, hx346_0, hx346_1, hx346_2⟩ := at_T35 (Kd.R_reads' HO_3.out).2.2 x17_1 p346 q346
                  obtain rfl : ad342 = ad346 := (by injection e346)
                  replace p346 := eq_true p346
                  replace q346 := eq_true q346
                  have p348 : 0 ≤ (x17_1 : Int) := DT
                  have q348 : x17_1 < (t310.length : Int) := DT
                  obtain ⟨ad348, e348, hx348_0, hx348_1, hx348_2⟩ := at_T35 (Kd.R_reads' HO_3.out).2.2 x17_1 p348 q348
                  obtain rfl : ad342 = ad348 := (by injection e348)
                  replace p348 := eq_true p348
                  replace q348 := eq_true q348
                  refine start_ (n := 13) (S := fun w' => w'.cell? (ad342.add ((x17_1).toNat * 3)) = some (.string ((rd_T35 t310 x17_1).f0)) ∧ w'.cell? ⟨(ad342.add ((x17_1).toNat * 3)).block, (ad342.add ((x17_1).toNat * 3)).off + 1, none⟩ = some (.int .i64 ((rd_T35 t310 x17_1).f1)) ∧ w'.cell? ⟨(ad342.add ((x17_1).toNat * 3)).block, (ad342.add ((x17_1).toNat * 3)).off + 2, none⟩ = some (.int .i64 ((rd_T35 t310 x17_1).f2)) ∧ w'.cell? (ad342.add ((x17_1).toNat * 3)) = some (.string ((rd_T35 t310 x17_1).f0)) ∧ w'.cell? ⟨(ad342.add ((x17_1).toNat * 3)).block, (ad342.add ((x17_1).toNat * 3)).off + 1, none⟩ = some (.int .i64 ((rd_T35 t310 x17_1).f1)) ∧ w'.cell? ⟨(ad342.add ((x17_1).toNat * 3)).block, (ad342.add ((x17_1).toNat * 3)).off + 2, none⟩ = some (.int .i64 ((rd_T35 t310 x17_1).f2))) (ds := []) #[false, false, false, false, false, false, false, false, false, false, false, false, false] (by kernel_rfl) rfl rfl ⟨hx346_0, hx346_1, hx346_2, hx348_0, hx348_1, hx348_2⟩ (fun hHeld => ?_); refine with_tabW laws_FnLeases.tab18 laws_FnLeases.bits18 (fun HT_ HW_ => ?_)
                  generalize wr.drew = w40 at HO_3 HO_5 HO_9 HO_14 HO_15 HB hx346_0 hx346_1 hx346_2 hx348_0 hx348_1 hx348_2 hHeld ⊢
                  refine pure_ (i := 0) (N := some 81) (v := ?_) (a' := ?_) #[true, false, false, false, false, false, false, false, false, false, false, false, false] rfl rfl (any_of HT_.out (by kernel_rfl)) (fun _ _ _ h => h) (Or.inl ⟨by rfl, ?_⟩) ?_ ?_
                  rotate_left
                  · intro w'
                    go_simp
                    with_reducible rfl
                  rotate_left
                  · simp only [Act.put, List.setIfInBounds_toArray, List.set_cons_zero, List.set_cons_succ, i64_w, i32_w]
                    rfl
                  refine pure_ (i := 1) (N := some 82) (v := ?_) (a' := ?_) #[true, true, false, false, false, false, false, false, false, false, false, false, false] rfl rfl (any_of HT_.out (by kernel_rfl)) (fun _ _ _ h => h) (Or.inl ⟨by rfl, ?_⟩) ?_ ?_
                  rotate_left
                  · intro w'
                    go_simp
                    with_reducible rfl
                  rotate_left
                  · simp only [Act.put, List.setIfInBounds_toArray, List.set_cons_zero, List.set_cons_succ, i64_w, i32_w]
                    rfl
                  refine pure_ (i := 2) (N := some 83) (v := ?_) (a' := ?_) #[true, true, true, false, false, false, false, false, false, false, false, false, false] rfl rfl (any_of HT_.out (by kernel_rfl)) (fun _ _ _ h => h) (Or.inl ⟨by rfl, ?_⟩) ?_ ?_
                  rotate_left
                  · intro w'
                    go_simp
                    with_reducible rfl
                  rotate_left
                  · simp only [Act.put, List.setIfInBounds_toArray, List.set_cons_zero, List.set_cons_succ, i64_w, i32_w]
                    rfl
                  refine pure_ (i := 3) (N := some 84) (v := ?_) (a' := ?_) #[true, true, true, true, false, false, false, false, false, false, false, false, false] rfl rfl (any_of HT_.out (by kernel_rfl)) (fun _ _ _ h => h) (Or.inl ⟨by rfl, ?_⟩) ?_ ?_
                  rotate_left
                  · intro w'
                    go_simp
                    with_reducible rfl
                  rotate_left
                  · simp only [Act.put, List.setIfInBounds_toArray, List.set_cons_zero, List.set_cons_succ, i64_w, i32_w]
                    rfl
                  refine pure_ (i := 4) (N := some 85) (v := ?_) (a' := ?_) #[true, true, true, true, true, false, false, false, false, false, false, false, false] rfl rfl (any_of HT_.out (by kernel_rfl)) (fun _ _ _ h => h) (Or.inl ⟨by rfl, ?_⟩) ?_ ?_
                  rotate_left
                  · intro w'
                    go_simp
                    with_reducible rfl
                  rotate_left
                  · simp only [Act.put, List.setIfInBounds_toArray, List.set_cons_zero, List.set_cons_succ, i64_w, i32_w]
                    rfl
                  refine pure_ (i := 7) (N := some 88) (v := ?_) (a' := ?_) #[true, true, true, true, true, false, false, true, false, false, false, false, false] rfl rfl (any_of HT_.out (by kernel_rfl)) (fun _ _ _ h => h) (Or.inl ⟨by rfl, ?_⟩) ?_ ?_
                  rotate_left
                  · intro w'
                    go_simp
                    with_reducible rfl
                  rotate_left
                  · simp only [Act.put, List.setIfInBounds_toArray, List.set_cons_zero, List.set_cons_succ, i64_w, i32_w]
                    rfl
                  refine pure_ (i := 8) (N := some 89) (v := ?_) (a' := ?_) #[true, true, true, true, true, false, false, true, true, false, false, false, false] rfl rfl (any_of HT_.out (by kernel_rfl)) (fun _ _ _ h => h) (Or.inl ⟨by rfl, ?_⟩) ?_ ?_
                  rotate_left
                  · intro w'
                    go_simp
                    with_reducible rfl
                  rotate_left
                  · simp only [Act.put, List.setIfInBounds_toArray, List.set_cons_zero, List.set_cons_succ, i64_w, i32_w]
                    rfl
                  refine pure_ (i := 9) (N := some 90) (v := ?_) (a' := ?_) #[true, true, true, true, true, false, false, true, true, true, false, false, false] rfl rfl (any_of HT_.out (by kernel_rfl)) (fun _ _ _ h => h) (Or.inl ⟨by rfl, ?_⟩) ?_ ?_
                  rotate_left
                  · intro w'
                    go_simp
                    with_reducible rfl
                  rotate_left
                  · simp only [Act.put, List.setIfInBounds_toArray, List.set_cons_zero, List.set_cons_succ, i64_w, i32_w]
                    rfl
                  refine pure_ (i := 10) (N := some 91) (v := ?_) (a' := ?_) #[true, true, true, true, true, false, false, true, true, true, true, false, false] rfl rfl (any_of HT_.out (by kernel_rfl)) (fun _ _ _ h => h) (Or.inl ⟨by rfl, ?_⟩) ?_ ?_
                  rotate_left
                  · intro w'
                    go_simp
                    with_reducible rfl
                  rotate_left
                  · simp only [Act.put, List.setIfInBounds_toArray, List.set_cons_zero, List.set_cons_succ, i64_w, i32_w]
                    rfl
                  refine take_ (i := 5) (N := some 86) (v := ?_) (a' := ?_) #[true, true, true, true, true, true, false, true, true, true, true, false, false] rfl rfl (take_ofW HT_.out HW_.out (by kernel_rfl)) (fun _ _ _ h => h) (Or.inl ⟨by rfl, ?_⟩) hHeld ?_ ?_
                  rotate_left
                  · rintro w' ⟨s0, s1, s2, s3, s4, s5⟩
                    go_simp
                    with_reducible rfl
                  rotate_left
                  · simp only [Act.put, List.setIfInBounds_toArray, List.set_cons_zero, List.set_cons_succ, i64_w, i32_w]
                    rfl
                  refine take_ (i := 11) (N := some 92) (v := ?_) (a' := ?_) #[true, true, true, true, true, true, false, true, true, true, true, true, false] rfl rfl (take_ofW HT_.out HW_.out (by kernel_rfl)) (fun _ _ _ h => h) (Or.inl ⟨by rfl, ?_⟩) hHeld ?_ ?_
                  rotate_left
                  · rintro w' ⟨s0, s1, s2, s3, s4, s5⟩
                    go_simp
                    with_reducible rfl
                  rotate_left
                  · simp only [Act.put, List.setIfInBounds_toArray, List.set_cons_zero, List.set_cons_succ, i64_w, i32_w]
                    rfl
                  refine one_ (i := 6) (N := some 87) #[true, true, true, true, true, true, true, true, true, true, true, true, false] rfl rfl (one_of HT_.out (by kernel_rfl)) (by decide) (fun K hK => ?_)
                  refine goes_ Tryd.func11 (by kernel_rfl) rfl #[.slice Ao19 t317.length co19, .string ((rd_T35 t310 x17_1).f0)] (by rfl) rfl rfl (by (try simp only [List.map_toArray, List.map_cons, List.map_nil]); first | done | rfl | (simp only [List.length_drop, List.length_take]; rfl)) ?_
                  with_reducible refine (impl_HolderOf.calls k1 _ _ t317 ((rd_T35 t310 x17_1).f0) t347 _ ?side1 ?side2 A36.out).mono ?_
                  (case side1 => exact CC (Kd.R_reads' HO_5.out).2.2)
                  (case side2 => exact (Kd.R_reads' HO_5.out).2.1)
                  rintro e w41 ⟨rfl, hb⟩
                  have HS0_ := (hb.cell (World.block_lt_of_cell? _ _ (hHeld.1))).trans (hHeld.1)
                  have HS1_ := (hb.cell (World.block_lt_of_cell? _ _ (hHeld.2.1))).trans (hHeld.2.1)
                  have HS2_ := (hb.cell (World.block_lt_of_cell? _ _ (hHeld.2.2.1))).trans (hHeld.2.2.1)
                  have HS3_ := (hb.cell (World.block_lt_of_cell? _ _ (hHeld.2.2.2.1))).trans (hHeld.2.2.2.1)
                  have HS4_ := (hb.cell (World.block_lt_of_cell? _ _ (hHeld.2.2.2.2.1))).trans (hHeld.2.2.2.2.1)
                  have HS5_ := (hb.cell (World.block_lt_of_cell? _ _ (hHeld.2.2.2.2.2))).trans (hHeld.2.2.2.2.2)
                  refine ⟨_, rfl, ?_⟩
                  have n0_ := Aside0.mk (Kd.R_below (RR HO_3.out) hb)
                  have n1_ := Aside0.mk (Kd.R_below (RR HO_5.out) hb)
                  have n2_ := Aside0.mk (Kd.R_below (RR HO_9.out) hb)
                  have n3_ := Aside0.mk (Kd.R_below (RR HO_14.out) hb)
                  have n4_ := Aside0.mk (Kd.R_below (RR HO_15.out) hb)
                  have n5_ := Aside0.mk (below_step (BB HB.out) hb)
                  clear HO_3
                  clear HO_5
                  clear HO_9
                  clear HO_14
                  clear HO_15
                  clear HB
                  have HO_3 := n0_
                  have HO_5 := n1_
                  have HO_9 := n2_
                  have HO_14 := n3_
                  have HO_15 := n4_
                  have HB := n5_
                  clear n0_ n1_ n2_ n3_ n4_ n5_
                  (try clear hb)
                  (try clear hb2)
                  (try clear hk)
                  (try clear hi)
                  refine hK.out _ _ ⟨HS0_, HS1_, HS2_, HS3_, HS4_, HS5_⟩ (fun hHeld => ?_)
                  clear hK K
                  refine norm_ (a' := ?_) ?_ ?_
                  rotate_left
                  · show Act.put _ (some 87) _ = _
                    simp only [Act.put, List.setIfInBounds_toArray, List.set_cons_zero, List.set_cons_succ, i64_w, i32_w]
                    rfl
                  refine pure_ (i := 12) (N := some 93) (v := ?_) (a' := ?_) #[true, true, true, true, true, true, true, true, true, true, true, true, true] rfl rfl (any_of HT_.out (by kernel_rfl)) (fun _ _ _ h => h) (Or.inl ⟨by rfl, ?_⟩) ?_ ?_
                  rotate_left
                  · intro w'
                    go_simp
                    with_reducible rfl
                  rotate_left
                  · simp only [Act.put, List.setIfInBounds_toArray, List.set_cons_zero, List.set_cons_succ, i64_w, i32_w]
                    rfl
                  refine done_ (done_of HT_.out (by kernel_rfl)) ?_
                  try go_wp2
                  go_ret
                  exact ⟨ER, (BB HB.out)⟩
            · rw [if_neg c28] at H
              exact absurd H (by simp)
          · rw [if_neg c27] at H
            have c27b0 : decide (x17_1 < (t310.length : Int)) = false := decide_eq_false c27
            clear c27
            by_cases c42 : t318 = true
            · subst c42
              have H1 : (if t322 = true then (some false) else (if t326 = true then (if t333 = true then (some false) else ((impl_LeasesOk.f k1 t310).bind fun t349 => (if t349 = true then ((impl_LeasesOk.f k1 t317).bind fun t350 => (if t350 = true then ((impl_LeasesOk.f k1 t325).bind fun t351 => (if t351 = true then ((impl_HolderOf.f k1 t317 (⟨#[47, 108, 101, 97, 115, 101]⟩ : ByteArray)).bind fun t352 => (if t352 = 4 then ((impl_HolderOf.f k1 t325 (⟨#[47, 108, 101, 97, 115, 101]⟩ : ByteArray)).bind fun t353 => (if t353 = 5 then ((impl_HolderOf.f k1 t336 (⟨#[47, 108, 101, 97, 115, 101]⟩ : ByteArray)).bind fun t354 => (if t354 = 0 then (if (t336.length : Int) = (t310.length : Int) then (if (t339.length : Int) = x16_1 then ((spec_Expired.f k1 t310 (wrap64 (30 + (Int.tmod (rd t313 0) 20)))).bind fun t355 => ((laws_sameTexts.f k1 t339 t355).bind fun t358 => (some t358))) else (some false)) else (some false)) else (some false))) else (some false))) else (some false))) else (some false))) else (some false))) else (some false)))) else (some false))) = some r := by rw [if_pos rfl] at H; exact H
              clear H
              have H := H1
              clear H1
              by_cases c43 : t322 = true
              · subst c43
                have H1 : (some false) = some r := by rw [if_pos rfl] at H; exact H
                clear H
                have H := H1
                clear H1
                obtain rfl := Option.some.inj H
                go_wp2
                go_ret
                exact ⟨ER, (BB HB.out)⟩
              · replace c43 := Bool.eq_false_iff.mpr c43
                subst c43
                have H1 : (if t326 = true then (if t333 = true then (some false) else ((impl_LeasesOk.f k1 t310).bind fun t349 => (if t349 = true then ((impl_LeasesOk.f k1 t317).bind fun t350 => (if t350 = true then ((impl_LeasesOk.f k1 t325).bind fun t351 => (if t351 = true then ((impl_HolderOf.f k1 t317 (⟨#[47, 108, 101, 97, 115, 101]⟩ : ByteArray)).bind fun t352 => (if t352 = 4 then ((impl_HolderOf.f k1 t325 (⟨#[47, 108, 101, 97, 115, 101]⟩ : ByteArray)).bind fun t353 => (if t353 = 5 then ((impl_HolderOf.f k1 t336 (⟨#[47, 108, 101, 97, 115, 101]⟩ : ByteArray)).bind fun t354 => (if t354 = 0 then (if (t336.length : Int) = (t310.length : Int) then (if (t339.length : Int) = x16_1 then ((spec_Expired.f k1 t310 (wrap64 (30 + (Int.tmod (rd t313 0) 20)))).bind fun t355 => ((laws_sameTexts.f k1 t339 t355).bind fun t358 => (some t358))) else (some false)) else (some false)) else (some false))) else (some false))) else (some false))) else (some false))) else (some false))) else (some false)))) else (some false)) = some r := by rw [if_neg (show ¬ (false = true) by decide)] at H; exact H
                clear H
                have H := H1
                clear H1
                by_cases c44 : t326 = true
                · subst c44
                  have H1 : (if t333 = true then (some false) else ((impl_LeasesOk.f k1 t310).bind fun t349 => (if t349 = true then ((impl_LeasesOk.f k1 t317).bind fun t350 => (if t350 = true then ((impl_LeasesOk.f k1 t325).bind fun t351 => (if t351 = true then ((impl_HolderOf.f k1 t317 (⟨#[47, 108, 101, 97, 115, 101]⟩ : ByteArray)).bind fun t352 => (if t352 = 4 then ((impl_HolderOf.f k1 t325 (⟨#[47, 108, 101, 97, 115, 101]⟩ : ByteArray)).bind fun t353 => (if t353 = 5 then ((impl_HolderOf.f k1 t336 (⟨#[47, 108, 101, 97, 115, 101]⟩ : ByteArray)).bind fun t354 => (if t354 = 0 then (if (t336.length : Int) = (t310.length : Int) then (if (t339.length : Int) = x16_1 then ((spec_Expired.f k1 t310 (wrap64 (30 + (Int.tmod (rd t313 0) 20)))).bind fun t355 => ((laws_sameTexts.f k1 t339 t355).bind fun t358 => (some t358))) else (some false)) else (some false)) else (some false))) else (some false))) else (some false))) else (some false))) else (some false))) else (some false)))) = some r := by rw [if_pos rfl] at H; exact H
                  clear H
                  have H := H1
                  clear H1
                  by_cases c45 : t333 = true
                  · subst c45
                    have H1 : (some false) = some r := by rw [if_pos rfl] at H; exact H
                    clear H
                    have H := H1
                    clear H1
                    obtain rfl := Option.some.inj H
                    go_wp2
                    go_ret
                    exact ⟨ER, (BB HB.out)⟩
                  · replace c45 := Bool.eq_false_iff.mpr c45
                    subst c45
                    have H1 : ((impl_LeasesOk.f k1 t310).bind fun t349 => (if t349 = true then ((impl_LeasesOk.f k1 t317).bind fun t350 => (if t350 = true then ((impl_LeasesOk.f k1 t325).bind fun t351 => (if t351 = true then ((impl_HolderOf.f k1 t317 (⟨#[47, 108, 101, 97, 115, 101]⟩ : ByteArray)).bind fun t352 => (if t352 = 4 then ((impl_HolderOf.f k1 t325 (⟨#[47, 108, 101, 97, 115, 101]⟩ : ByteArray)).bind fun t353 => (if t353 = 5 then ((impl_HolderOf.f k1 t336 (⟨#[47, 108, 101, 97, 115, 101]⟩ : ByteArray)).bind fun t354 => (if t354 = 0 then (if (t336.length : Int) = (t310.length : Int) then (if (t339.length : Int) = x16_1 then ((spec_Expired.f k1 t310 (wrap64 (30 + (Int.tmod (rd t313 0) 20)))).bind fun t355 => ((laws_sameTexts.f k1 t339 t355).bind fun t358 => (some t358))) else (some false)) else (some false)) else (some false))) else (some false))) else (some false))) else (some false))) else (some false))) else (some false))) = some r := by rw [if_neg (show ¬ (false = true) by decide)] at H; exact H
                    clear H
                    have H := H1
                    clear H1
                    replace H := Option.bind_eq_some_iff.mp H
                    obtain ⟨t349, A460, H⟩ := H
                    replace H : (if t349 = true then ((impl_LeasesOk.f k1 t317).bind fun t350 => (if t350 = true then ((impl_LeasesOk.f k1 t325).bind fun t351 => (if t351 = true then ((impl_HolderOf.f k1 t317 (⟨#[47, 108, 101, 97, 115, 101]⟩ : ByteArray)).bind fun t352 => (if t352 = 4 then ((impl_HolderOf.f k1 t325 (⟨#[47, 108, 101, 97, 115, 101]⟩ : ByteArray)).bind fun t353 => (if t353 = 5 then ((impl_HolderOf.f k1 t336 (⟨#[47, 108, 101, 97, 115, 101]⟩ : ByteArray)).bind fun t354 => (if t354 = 0 then (if (t336.length : Int) = (t310.length : Int) then (if (t339.length : Int) = x16_1 then ((spec_Expired.f k1 t310 (wrap64 (30 + (Int.tmod (rd t313 0) 20)))).bind fun t355 => ((laws_sameTexts.f k1 t339 t355).bind fun t358 => (some t358))) else (some false)) else (some false)) else (some false))) else (some false))) else (some false))) else (some false))) else (some false))) else (some false)) = some r := H
                    have A46 := Aside0.mk A460
                    clear A460
                    by_cases c47 : t349 = true
                    · subst c47
                      have H1 : ((impl_LeasesOk.f k1 t317).bind fun t350 => (if t350 = true then ((impl_LeasesOk.f k1 t325).bind fun t351 => (if t351 = true then ((impl_HolderOf.f k1 t317 (⟨#[47, 108, 101, 97, 115, 101]⟩ : ByteArray)).bind fun t352 => (if t352 = 4 then ((impl_HolderOf.f k1 t325 (⟨#[47, 108, 101, 97, 115, 101]⟩ : ByteArray)).bind fun t353 => (if t353 = 5 then ((impl_HolderOf.f k1 t336 (⟨#[47, 108, 101, 97, 115, 101]⟩ : ByteArray)).bind fun t354 => (if t354 = 0 then (if (t336.length : Int) = (t310.length : Int) then (if (t339.length : Int) = x16_1 then ((spec_Expired.f k1 t310 (wrap64 (30 + (Int.tmod (rd t313 0) 20)))).bind fun t355 => ((laws_sameTexts.f k1 t339 t355).bind fun t358 => (some t358))) else (some false)) else (some false)) else (some false))) else (some false))) else (some false))) else (some false))) else (some false))) = some r := by rw [if_pos rfl] at H; exact H
                      clear H
                      have H := H1
                      clear H1
                      replace H := Option.bind_eq_some_iff.mp H
                      obtain ⟨t350, A480, H⟩ := H
                      replace H : (if t350 = true then ((impl_LeasesOk.f k1 t325).bind fun t351 => (if t351 = true then ((impl_HolderOf.f k1 t317 (⟨#[47, 108, 101, 97, 115, 101]⟩ : ByteArray)).bind fun t352 => (if t352 = 4 then ((impl_HolderOf.f k1 t325 (⟨#[47, 108, 101, 97, 115, 101]⟩ : ByteArray)).bind fun t353 => (if t353 = 5 then ((impl_HolderOf.f k1 t336 (⟨#[47, 108, 101, 97, 115, 101]⟩ : ByteArray)).bind fun t354 => (if t354 = 0 then (if (t336.length : Int) = (t310.length : Int) then (if (t339.length : Int) = x16_1 then ((spec_Expired.f k1 t310 (wrap64 (30 + (Int.tmod (rd t313 0) 20)))).bind fun t355 => ((laws_sameTexts.f k1 t339 t355).bind fun t358 => (some t358))) else (some false)) else (some false)) else (some false))) else (some false))) else (some false))) else (some false))) else (some false)) = some r := H
                      have A48 := Aside0.mk A480
                      clear A480
                      by_cases c49 : t350 = true
                      · subst c49
                        have H1 : ((impl_LeasesOk.f k1 t325).bind fun t351 => (if t351 = true then ((impl_HolderOf.f k1 t317 (⟨#[47, 108, 101, 97, 115, 101]⟩ : ByteArray)).bind fun t352 => (if t352 = 4 then ((impl_HolderOf.f k1 t325 (⟨#[47, 108, 101, 97, 115, 101]⟩ : ByteArray)).bind fun t353 => (if t353 = 5 then ((impl_HolderOf.f k1 t336 (⟨#[47, 108, 101, 97, 115, 101]⟩ : ByteArray)).bind fun t354 => (if t354 = 0 then (if (t336.length : Int) = (t310.length : Int) then (if (t339.length : Int) = x16_1 then ((spec_Expired.f k1 t310 (wrap64 (30 + (Int.tmod (rd t313 0) 20)))).bind fun t355 => ((laws_sameTexts.f k1 t339 t355).bind fun t358 => (some t358))) else (some false)) else (some false)) else (some false))) else (some false))) else (some false))) else (some false))) = some r := by rw [if_pos rfl] at H; exact H
                        clear H
                        have H := H1
                        clear H1
                        replace H := Option.bind_eq_some_iff.mp H
                        obtain ⟨t351, A500, H⟩ := H
                        replace H : (if t351 = true then ((impl_HolderOf.f k1 t317 (⟨#[47, 108, 101, 97, 115, 101]⟩ : ByteArray)).bind fun t352 => (if t352 = 4 then ((impl_HolderOf.f k1 t325 (⟨#[47, 108, 101, 97, 115, 101]⟩ : ByteArray)).bind fun t353 => (if t353 = 5 then ((impl_HolderOf.f k1 t336 (⟨#[47, 108, 101, 97, 115, 101]⟩ : ByteArray)).bind fun t354 => (if t354 = 0 then (if (t336.length : Int) = (t310.length : Int) then (if (t339.length : Int) = x16_1 then ((spec_Expired.f k1 t310 (wrap64 (30 + (Int.tmod (rd t313 0) 20)))).bind fun t355 => ((laws_sameTexts.f k1 t339 t355).bind fun t358 => (some t358))) else (some false)) else (some false)) else (some false))) else (some false))) else (some false))) else (some false)) = some r := H
                        have A50 := Aside0.mk A500
                        clear A500
                        by_cases c51 : t351 = true
                        · subst c51
                          have H1 : ((impl_HolderOf.f k1 t317 (⟨#[47, 108, 101, 97, 115, 101]⟩ : ByteArray)).bind fun t352 => (if t352 = 4 then ((impl_HolderOf.f k1 t325 (⟨#[47, 108, 101, 97, 115, 101]⟩ : ByteArray)).bind fun t353 => (if t353 = 5 then ((impl_HolderOf.f k1 t336 (⟨#[47, 108, 101, 97, 115, 101]⟩ : ByteArray)).bind fun t354 => (if t354 = 0 then (if (t336.length : Int) = (t310.length : Int) then (if (t339.length : Int) = x16_1 then ((spec_Expired.f k1 t310 (wrap64 (30 + (Int.tmod (rd t313 0) 20)))).bind fun t355 => ((laws_sameTexts.f k1 t339 t355).bind fun t358 => (some t358))) else (some false)) else (some false)) else (some false))) else (some false))) else (some false))) = some r := by rw [if_pos rfl] at H; exact H
                          clear H
                          have H := H1
                          clear H1
                          replace H := Option.bind_eq_some_iff.mp H
                          obtain ⟨t352, A520, H⟩ := H
                          replace H : (if t352 = 4 then ((impl_HolderOf.f k1 t325 (⟨#[47, 108, 101, 97, 115, 101]⟩ : ByteArray)).bind fun t353 => (if t353 = 5 then ((impl_HolderOf.f k1 t336 (⟨#[47, 108, 101, 97, 115, 101]⟩ : ByteArray)).bind fun t354 => (if t354 = 0 then (if (t336.length : Int) = (t310.length : Int) then (if (t339.length : Int) = x16_1 then ((spec_Expired.f k1 t310 (wrap64 (30 + (Int.tmod (rd t313 0) 20)))).bind fun t355 => ((laws_sameTexts.f k1 t339 t355).bind fun t358 => (some t358))) else (some false)) else (some false)) else (some false))) else (some false))) else (some false)) = some r := H
                          have A52 := Aside0.mk A520
                          clear A520
                          by_cases c53 : t352 = 4
                          · rw [if_pos c53] at H
                            have c53b0 : (t352 == 4) = true := beq_iff_eq.mpr c53
                            have c53b1 : (t352 != 4) = false := bne_eq_false_iff_eq.mpr c53
                            clear c53
                            replace H := Option.bind_eq_some_iff.mp H
                            obtain ⟨t353, A540, H⟩ := H
                            replace H : (if t353 = 5 then ((impl_HolderOf.f k1 t336 (⟨#[47, 108, 101, 97, 115, 101]⟩ : ByteArray)).bind fun t354 => (if t354 = 0 then (if (t336.length : Int) = (t310.length : Int) then (if (t339.length : Int) = x16_1 then ((spec_Expired.f k1 t310 (wrap64 (30 + (Int.tmod (rd t313 0) 20)))).bind fun t355 => ((laws_sameTexts.f k1 t339 t355).bind fun t358 => (some t358))) else (some false)) else (some false)) else (some false))) else (some false)) = some r := H
                            have A54 := Aside0.mk A540
                            clear A540
                            by_cases c55 : t353 = 5
                            · rw [if_pos c55] at H
                              have c55b0 : (t353 == 5) = true := beq_iff_eq.mpr c55
                              have c55b1 : (t353 != 5) = false := bne_eq_false_iff_eq.mpr c55
                              clear c55
                              replace H := Option.bind_eq_some_iff.mp H
                              obtain ⟨t354, A560, H⟩ := H
                              replace H : (if t354 = 0 then (if (t336.length : Int) = (t310.length : Int) then (if (t339.length : Int) = x16_1 then ((spec_Expired.f k1 t310 (wrap64 (30 + (Int.tmod (rd t313 0) 20)))).bind fun t355 => ((laws_sameTexts.f k1 t339 t355).bind fun t358 => (some t358))) else (some false)) else (some false)) else (some false)) = some r := H
                              have A56 := Aside0.mk A560
                              clear A560
                              by_cases c57 : t354 = 0
                              · rw [if_pos c57] at H
                                have c57b0 : (t354 == 0) = true := beq_iff_eq.mpr c57
                                have c57b1 : (t354 != 0) = false := bne_eq_false_iff_eq.mpr c57
                                clear c57
                                by_cases c58 : (t336.length : Int) = (t310.length : Int)
                                · rw [if_pos c58] at H
                                  have c58b0 : ((t336.length : Int) == (t310.length : Int)) = true := beq_iff_eq.mpr c58
                                  have c58b1 : ((t336.length : Int) != (t310.length : Int)) = false := bne_eq_false_iff_eq.mpr c58
                                  have c58b2 : (t336.length == t310.length) = true := by first | simpa using c58 | (simp at c58 ⊢; omega)
                                  clear c58
                                  by_cases c59 : (t339.length : Int) = x16_1
                                  · rw [if_pos c59] at H
                                    have c59b0 : ((t339.length : Int) == x16_1) = true := beq_iff_eq.mpr c59
                                    have c59b1 : ((t339.length : Int) != x16_1) = false := bne_eq_false_iff_eq.mpr c59
                                    clear c59
                                    replace H := Option.bind_eq_some_iff.mp H
                                    obtain ⟨t355, A600, H⟩ := H
                                    replace H : ((laws_sameTexts.f k1 t339 t355).bind fun t358 => (some t358)) = some r := H
                                    have A60 := Aside0.mk A600
                                    clear A600
                                    replace H := Option.bind_eq_some_iff.mp H
                                    obtain ⟨t358, A610, H⟩ := H
                                    replace H : (some t358) = some r := H
                                    have A61 := Aside0.mk A610
                                    clear A610
                                    obtain rfl := Option.some.inj H
                                    go_wp2_with (first | (go_at_call 12; (with_reducible refine (impl_LeasesOk.calls k1 _ _ t310 true _ ?side1 ?side2 A46.out).mono ?_); (case side1 => exact CC (Kd.R_reads' HO_3.out).2.2); (case side2 => exact (Kd.R_reads' HO_3.out).2.1); rintro e w62 ⟨rfl, hb⟩; replace HO_3 := Aside0.mk (Kd.R_below (RR HO_3.out) hb); replace HO_5 := Aside0.mk (Kd.R_below (RR HO_5.out) hb); replace HO_9 := Aside0.mk (Kd.R_below (RR HO_9.out) hb); replace HO_14 := Aside0.mk (Kd.R_below (RR HO_14.out) hb); replace HO_15 := Aside0.mk (Kd.R_below (RR HO_15.out) hb); replace HB := Aside0.mk (below_step (BB HB.out) hb); (try clear hb); (try clear hb2); (try clear hk); (try clear hi)) | (go_at_call 12; (with_reducible refine (impl_LeasesOk.calls k1 _ _ t317 true _ ?side1 ?side2 A48.out).mono ?_); (case side1 => exact CC (Kd.R_reads' HO_5.out).2.2); (case side2 => exact (Kd.R_reads' HO_5.out).2.1); rintro e w63 ⟨rfl, hb⟩; replace HO_3 := Aside0.mk (Kd.R_below (RR HO_3.out) hb); replace HO_5 := Aside0.mk (Kd.R_below (RR HO_5.out) hb); replace HO_9 := Aside0.mk (Kd.R_below (RR HO_9.out) hb); replace HO_14 := Aside0.mk (Kd.R_below (RR HO_14.out) hb); replace HO_15 := Aside0.mk (Kd.R_below (RR HO_15.out) hb); replace HB := Aside0.mk (below_step (BB HB.out) hb); (try clear hb); (try clear hb2); (try clear hk); (try clear hi); obtain ⟨Ao64, co64, eo64⟩ := Kd.R_slice HO_9.out; subst eo64) | (go_at_call 12; (with_reducible refine (impl_LeasesOk.calls k1 _ _ t325 true _ ?side1 ?side2 A50.out).mono ?_); (case side1 => exact CC (Kd.R_reads' HO_9.out).2.2); (case side2 => exact (Kd.R_reads' HO_9.out).2.1); rintro e w65 ⟨rfl, hb⟩; replace HO_3 := Aside0.mk (Kd.R_below (RR HO_3.out) hb); replace HO_5 := Aside0.mk (Kd.R_below (RR HO_5.out) hb); replace HO_9 := Aside0.mk (Kd.R_below (RR HO_9.out) hb); replace HO_14 := Aside0.mk (Kd.R_below (RR HO_14.out) hb); replace HO_15 := Aside0.mk (Kd.R_below (RR HO_15.out) hb); replace HB := Aside0.mk (below_step (BB HB.out) hb); (try clear hb); (try clear hb2); (try clear hk); (try clear hi)) | (go_at_call 11; (with_reducible refine (impl_HolderOf.calls k1 _ _ t317 (⟨#[47, 108, 101, 97, 115, 101]⟩ : ByteArray) t352 _ ?side1 ?side2 A52.out).mono ?_); (case side1 => exact CC (Kd.R_reads' HO_5.out).2.2); (case side2 => exact (Kd.R_reads' HO_5.out).2.1); rintro e w66 ⟨rfl, hb⟩; replace HO_3 := Aside0.mk (Kd.R_below (RR HO_3.out) hb); replace HO_5 := Aside0.mk (Kd.R_below (RR HO_5.out) hb); replace HO_9 := Aside0.mk (Kd.R_below (RR HO_9.out) hb); replace HO_14 := Aside0.mk (Kd.R_below (RR HO_14.out) hb); replace HO_15 := Aside0.mk (Kd.R_below (RR HO_15.out) hb); replace HB := Aside0.mk (below_step (BB HB.out) hb); (try clear hb); (try clear hb2); (try clear hk); (try clear hi)) | (go_at_call 11; (with_reducible refine (impl_HolderOf.calls k1 _ _ t325 (⟨#[47, 108, 101, 97, 115, 101]⟩ : ByteArray) t353 _ ?side1 ?side2 A54.out).mono ?_); (case side1 => exact CC (Kd.R_reads' HO_9.out).2.2); (case side2 => exact (Kd.R_reads' HO_9.out).2.1); rintro e w67 ⟨rfl, hb⟩; replace HO_3 := Aside0.mk (Kd.R_below (RR HO_3.out) hb); replace HO_5 := Aside0.mk (Kd.R_below (RR HO_5.out) hb); replace HO_9 := Aside0.mk (Kd.R_below (RR HO_9.out) hb); replace HO_14 := Aside0.mk (Kd.R_below (RR HO_14.out) hb); replace HO_15 := Aside0.mk (Kd.R_below (RR HO_15.out) hb); replace HB := Aside0.mk (below_step (BB HB.out) hb); (try clear hb); (try clear hb2); (try clear hk); (try clear hi); obtain ⟨Ao68, co68, eo68⟩ := Kd.R_slice HO_14.out; subst eo68) | (go_at_call 11; (with_reducible refine (impl_HolderOf.calls k1 _ _ t336 (⟨#[47, 108, 101, 97, 115, 101]⟩ : ByteArray) t354 _ ?side1 ?side2 A56.out).mono ?_); (case side1 => exact CC (Kd.R_reads' HO_14.out).2.2); (case side2 => exact (Kd.R_reads' HO_14.out).2.1); rintro e w69 ⟨rfl, hb⟩; replace HO_3 := Aside0.mk (Kd.R_below (RR HO_3.out) hb); replace HO_5 := Aside0.mk (Kd.R_below (RR HO_5.out) hb); replace HO_9 := Aside0.mk (Kd.R_below (RR HO_9.out) hb); replace HO_14 := Aside0.mk (Kd.R_below (RR HO_14.out) hb); replace HO_15 := Aside0.mk (Kd.R_below (RR HO_15.out) hb); replace HB := Aside0.mk (below_step (BB HB.out) hb); (try clear hb); (try clear hb2); (try clear hk); (try clear hi); obtain ⟨Ao70, co70, eo70⟩ := Kd.R_slice HO_15.out; subst eo70) | (go_at_call 14; (with_reducible refine (spec_Expired.calls k1 _ _ t310 (wrap64 (30 + (Int.tmod (rd t313 0) 20))) t355 _ ?side1 ?side2 A60.out).mono ?_); (case side1 => exact CC (Kd.R_reads' HO_3.out).2.2); (case side2 => exact (Kd.R_reads' HO_3.out).2.1); rintro e w71 ⟨v356, rfl, ho0, hb⟩; have HO357 := Aside0.mk (Kd.R_lower (Kd.R_new' ho0 (Kd.R_lt (RR HO_15.out))) (below_size (BB HB.out))); replace HO_3 := Aside0.mk (Kd.R_below (RR HO_3.out) hb); replace HO_5 := Aside0.mk (Kd.R_below (RR HO_5.out) hb); replace HO_9 := Aside0.mk (Kd.R_below (RR HO_9.out) hb); replace HO_14 := Aside0.mk (Kd.R_below (RR HO_14.out) hb); replace HO_15 := Aside0.mk (Kd.R_elder' (RR HO_15.out) (Kd.R_base ho0) hb); replace HB := Aside0.mk (below_step (BB HB.out) hb); (try clear hb); (try clear hb2); (try clear hk); (try clear hi); (try clear ho0); obtain ⟨Ao72, co72, eo72⟩ := Kd.R_slice HO357.out; subst eo72) | (go_at_call 13; (with_reducible refine (laws_sameTexts.calls k1 _ _ t339 _ _ t355 t358 _ ?side1 ?side2 ?side3 ?side4 A61.out).mono ?_); (case side1 => exact CC (Kd.R_reads' HO_15.out).2.2); (case side2 => exact (Kd.R_reads' HO_15.out).2.1); (case side3 => exact CC (Kd.R_reads' HO357.out).2.2); (case side4 => exact (Kd.R_reads' HO357.out).2.1); rintro e w' ⟨rfl, ⟨nd, rfl⟩⟩))
                                    go_ret
                                    exact ⟨ER, (BB HB.out)⟩
                                  · rw [if_neg c59] at H
                                    have c59b0 : ((t339.length : Int) == x16_1) = false := beq_eq_false_iff_ne.mpr c59
                                    have c59b1 : ((t339.length : Int) != x16_1) = true := bne_iff_ne.mpr c59
                                    obtain rfl := Option.some.inj H
                                    go_wp2_with (first | (go_at_call 12; (with_reducible refine (impl_LeasesOk.calls k1 _ _ t310 true _ ?side1 ?side2 A46.out).mono ?_); (case side1 => exact CC (Kd.R_reads' HO_3.out).2.2); (case side2 => exact (Kd.R_reads' HO_3.out).2.1); rintro e w73 ⟨rfl, hb⟩; replace HO_3 := Aside0.mk (Kd.R_below (RR HO_3.out) hb); replace HO_5 := Aside0.mk (Kd.R_below (RR HO_5.out) hb); replace HO_9 := Aside0.mk (Kd.R_below (RR HO_9.out) hb); replace HO_14 := Aside0.mk (Kd.R_below (RR HO_14.out) hb); replace HO_15 := Aside0.mk (Kd.R_below (RR HO_15.out) hb); replace HB := Aside0.mk (below_step (BB HB.out) hb); (try clear hb); (try clear hb2); (try clear hk); (try clear hi)) | (go_at_call 12; (with_reducible refine (impl_LeasesOk.calls k1 _ _ t317 true _ ?side1 ?side2 A48.out).mono ?_); (case side1 => exact CC (Kd.R_reads' HO_5.out).2.2); (case side2 => exact (Kd.R_reads' HO_5.out).2.1); rintro e w74 ⟨rfl, hb⟩; replace HO_3 := Aside0.mk (Kd.R_below (RR HO_3.out) hb); replace HO_5 := Aside0.mk (Kd.R_below (RR HO_5.out) hb); replace HO_9 := Aside0.mk (Kd.R_below (RR HO_9.out) hb); replace HO_14 := Aside0.mk (Kd.R_below (RR HO_14.out) hb); replace HO_15 := Aside0.mk (Kd.R_below (RR HO_15.out) hb); replace HB := Aside0.mk (below_step (BB HB.out) hb); (try clear hb); (try clear hb2); (try clear hk); (try clear hi); obtain ⟨Ao75, co75, eo75⟩ := Kd.R_slice HO_9.out; subst eo75) | (go_at_call 12; (with_reducible refine (impl_LeasesOk.calls k1 _ _ t325 true _ ?side1 ?side2 A50.out).mono ?_); (case side1 => exact CC (Kd.R_reads' HO_9.out).2.2); (case side2 => exact (Kd.R_reads' HO_9.out).2.1); rintro e w76 ⟨rfl, hb⟩; replace HO_3 := Aside0.mk (Kd.R_below (RR HO_3.out) hb); replace HO_5 := Aside0.mk (Kd.R_below (RR HO_5.out) hb); replace HO_9 := Aside0.mk (Kd.R_below (RR HO_9.out) hb); replace HO_14 := Aside0.mk (Kd.R_below (RR HO_14.out) hb); replace HO_15 := Aside0.mk (Kd.R_below (RR HO_15.out) hb); replace HB := Aside0.mk (below_step (BB HB.out) hb); (try clear hb); (try clear hb2); (try clear hk); (try clear hi)) | (go_at_call 11; (with_reducible refine (impl_HolderOf.calls k1 _ _ t317 (⟨#[47, 108, 101, 97, 115, 101]⟩ : ByteArray) t352 _ ?side1 ?side2 A52.out).mono ?_); (case side1 => exact CC (Kd.R_reads' HO_5.out).2.2); (case side2 => exact (Kd.R_reads' HO_5.out).2.1); rintro e w77 ⟨rfl, hb⟩; replace HO_3 := Aside0.mk (Kd.R_below (RR HO_3.out) hb); replace HO_5 := Aside0.mk (Kd.R_below (RR HO_5.out) hb); replace HO_9 := Aside0.mk (Kd.R_below (RR HO_9.out) hb); replace HO_14 := Aside0.mk (Kd.R_below (RR HO_14.out) hb); replace HO_15 := Aside0.mk (Kd.R_below (RR HO_15.out) hb); replace HB := Aside0.mk (below_step (BB HB.out) hb); (try clear hb); (try clear hb2); (try clear hk); (try clear hi)) | (go_at_call 11; (with_reducible refine (impl_HolderOf.calls k1 _ _ t325 (⟨#[47, 108, 101, 97, 115, 101]⟩ : ByteArray) t353 _ ?side1 ?side2 A54.out).mono ?_); (case side1 => exact CC (Kd.R_reads' HO_9.out).2.2); (case side2 => exact (Kd.R_reads' HO_9.out).2.1); rintro e w78 ⟨rfl, hb⟩; replace HO_3 := Aside0.mk (Kd.R_below (RR HO_3.out) hb); replace HO_5 := Aside0.mk (Kd.R_below (RR HO_5.out) hb); replace HO_9 := Aside0.mk (Kd.R_below (RR HO_9.out) hb); replace HO_14 := Aside0.mk (Kd.R_below (RR HO_14.out) hb); replace HO_15 := Aside0.mk (Kd.R_below (RR HO_15.out) hb); replace HB := Aside0.mk (below_step (BB HB.out) hb); (try clear hb); (try clear hb2); (try clear hk); (try clear hi); obtain ⟨Ao79, co79, eo79⟩ := Kd.R_slice HO_14.out; subst eo79) | (go_at_call 11; (with_reducible refine (impl_HolderOf.calls k1 _ _ t336 (⟨#[47, 108, 101, 97, 115, 101]⟩ : ByteArray) t354 _ ?side1 ?side2 A56.out).mono ?_); (case side1 => exact CC (Kd.R_reads' HO_14.out).2.2); (case side2 => exact (Kd.R_reads' HO_14.out).2.1); rintro e w80 ⟨rfl, hb⟩; replace HO_3 := Aside0.mk (Kd.R_below (RR HO_3.out) hb); replace HO_5 := Aside0.mk (Kd.R_below (RR HO_5.out) hb); replace HO_9 := Aside0.mk (Kd.R_below (RR HO_9.out) hb); replace HO_14 := Aside0.mk (Kd.R_below (RR HO_14.out) hb); replace HO_15 := Aside0.mk (Kd.R_below (RR HO_15.out) hb); replace HB := Aside0.mk (below_step (BB HB.out) hb); (try clear hb); (try clear hb2); (try clear hk); (try clear hi); obtain ⟨Ao81, co81, eo81⟩ := Kd.R_slice HO_15.out; subst eo81))
                                    go_ret
                                    exact ⟨ER, (BB HB.out)⟩
                                · rw [if_neg c58] at H
                                  have c58b0 : ((t336.length : Int) == (t310.length : Int)) = false := beq_eq_false_iff_ne.mpr c58
                                  have c58b1 : ((t336.length : Int) != (t310.length : Int)) = true := bne_iff_ne.mpr c58
                                  have c58b2 : (t336.length == t310.length) = false := by first | simpa using c58 | (simp at c58 ⊢; omega)
                                  obtain rfl := Option.some.inj H
                                  go_wp2_with (first | (go_at_call 12; (with_reducible refine (impl_LeasesOk.calls k1 _ _ t310 true _ ?side1 ?side2 A46.out).mono ?_); (case side1 => exact CC (Kd.R_reads' HO_3.out).2.2); (case side2 => exact (Kd.R_reads' HO_3.out).2.1); rintro e w82 ⟨rfl, hb⟩; replace HO_3 := Aside0.mk (Kd.R_below (RR HO_3.out) hb); replace HO_5 := Aside0.mk (Kd.R_below (RR HO_5.out) hb); replace HO_9 := Aside0.mk (Kd.R_below (RR HO_9.out) hb); replace HO_14 := Aside0.mk (Kd.R_below (RR HO_14.out) hb); replace HO_15 := Aside0.mk (Kd.R_below (RR HO_15.out) hb); replace HB := Aside0.mk (below_step (BB HB.out) hb); (try clear hb); (try clear hb2); (try clear hk); (try clear hi)) | (go_at_call 12; (with_reducible refine (impl_LeasesOk.calls k1 _ _ t317 true _ ?side1 ?side2 A48.out).mono ?_); (case side1 => exact CC (Kd.R_reads' HO_5.out).2.2); (case side2 => exact (Kd.R_reads' HO_5.out).2.1); rintro e w83 ⟨rfl, hb⟩; replace HO_3 := Aside0.mk (Kd.R_below (RR HO_3.out) hb); replace HO_5 := Aside0.mk (Kd.R_below (RR HO_5.out) hb); replace HO_9 := Aside0.mk (Kd.R_below (RR HO_9.out) hb); replace HO_14 := Aside0.mk (Kd.R_below (RR HO_14.out) hb); replace HO_15 := Aside0.mk (Kd.R_below (RR HO_15.out) hb); replace HB := Aside0.mk (below_step (BB HB.out) hb); (try clear hb); (try clear hb2); (try clear hk); (try clear hi); obtain ⟨Ao84, co84, eo84⟩ := Kd.R_slice HO_9.out; subst eo84) | (go_at_call 12; (with_reducible refine (impl_LeasesOk.calls k1 _ _ t325 true _ ?side1 ?side2 A50.out).mono ?_); (case side1 => exact CC (Kd.R_reads' HO_9.out).2.2); (case side2 => exact (Kd.R_reads' HO_9.out).2.1); rintro e w85 ⟨rfl, hb⟩; replace HO_3 := Aside0.mk (Kd.R_below (RR HO_3.out) hb); replace HO_5 := Aside0.mk (Kd.R_below (RR HO_5.out) hb); replace HO_9 := Aside0.mk (Kd.R_below (RR HO_9.out) hb); replace HO_14 := Aside0.mk (Kd.R_below (RR HO_14.out) hb); replace HO_15 := Aside0.mk (Kd.R_below (RR HO_15.out) hb); replace HB := Aside0.mk (below_step (BB HB.out) hb); (try clear hb); (try clear hb2); (try clear hk); (try clear hi)) | (go_at_call 11; (with_reducible refine (impl_HolderOf.calls k1 _ _ t317 (⟨#[47, 108, 101, 97, 115, 101]⟩ : ByteArray) t352 _ ?side1 ?side2 A52.out).mono ?_); (case side1 => exact CC (Kd.R_reads' HO_5.out).2.2); (case side2 => exact (Kd.R_reads' HO_5.out).2.1); rintro e w86 ⟨rfl, hb⟩; replace HO_3 := Aside0.mk (Kd.R_below (RR HO_3.out) hb); replace HO_5 := Aside0.mk (Kd.R_below (RR HO_5.out) hb); replace HO_9 := Aside0.mk (Kd.R_below (RR HO_9.out) hb); replace HO_14 := Aside0.mk (Kd.R_below (RR HO_14.out) hb); replace HO_15 := Aside0.mk (Kd.R_below (RR HO_15.out) hb); replace HB := Aside0.mk (below_step (BB HB.out) hb); (try clear hb); (try clear hb2); (try clear hk); (try clear hi)) | (go_at_call 11; (with_reducible refine (impl_HolderOf.calls k1 _ _ t325 (⟨#[47, 108, 101, 97, 115, 101]⟩ : ByteArray) t353 _ ?side1 ?side2 A54.out).mono ?_); (case side1 => exact CC (Kd.R_reads' HO_9.out).2.2); (case side2 => exact (Kd.R_reads' HO_9.out).2.1); rintro e w87 ⟨rfl, hb⟩; replace HO_3 := Aside0.mk (Kd.R_below (RR HO_3.out) hb); replace HO_5 := Aside0.mk (Kd.R_below (RR HO_5.out) hb); replace HO_9 := Aside0.mk (Kd.R_below (RR HO_9.out) hb); replace HO_14 := Aside0.mk (Kd.R_below (RR HO_14.out) hb); replace HO_15 := Aside0.mk (Kd.R_below (RR HO_15.out) hb); replace HB := Aside0.mk (below_step (BB HB.out) hb); (try clear hb); (try clear hb2); (try clear hk); (try clear hi); obtain ⟨Ao88, co88, eo88⟩ := Kd.R_slice HO_14.out; subst eo88) | (go_at_call 11; (with_reducible refine (impl_HolderOf.calls k1 _ _ t336 (⟨#[47, 108, 101, 97, 115, 101]⟩ : ByteArray) t354 _ ?side1 ?side2 A56.out).mono ?_); (case side1 => exact CC (Kd.R_reads' HO_14.out).2.2); (case side2 => exact (Kd.R_reads' HO_14.out).2.1); rintro e w89 ⟨rfl, hb⟩; replace HO_3 := Aside0.mk (Kd.R_below (RR HO_3.out) hb); replace HO_5 := Aside0.mk (Kd.R_below (RR HO_5.out) hb); replace HO_9 := Aside0.mk (Kd.R_below (RR HO_9.out) hb); replace HO_14 := Aside0.mk (Kd.R_below (RR HO_14.out) hb); replace HO_15 := Aside0.mk (Kd.R_below (RR HO_15.out) hb); replace HB := Aside0.mk (below_step (BB HB.out) hb); (try clear hb); (try clear hb2); (try clear hk); (try clear hi)))
                                  go_ret
                                  exact ⟨ER, (BB HB.out)⟩
                              · rw [if_neg c57] at H
                                have c57b0 : (t354 == 0) = false := beq_eq_false_iff_ne.mpr c57
                                have c57b1 : (t354 != 0) = true := bne_iff_ne.mpr c57
                                obtain rfl := Option.some.inj H
                                go_wp2_with (first | (go_at_call 12; (with_reducible refine (impl_LeasesOk.calls k1 _ _ t310 true _ ?side1 ?side2 A46.out).mono ?_); (case side1 => exact CC (Kd.R_reads' HO_3.out).2.2); (case side2 => exact (Kd.R_reads' HO_3.out).2.1); rintro e w90 ⟨rfl, hb⟩; replace HO_3 := Aside0.mk (Kd.R_below (RR HO_3.out) hb); replace HO_5 := Aside0.mk (Kd.R_below (RR HO_5.out) hb); replace HO_9 := Aside0.mk (Kd.R_below (RR HO_9.out) hb); replace HO_14 := Aside0.mk (Kd.R_below (RR HO_14.out) hb); replace HO_15 := Aside0.mk (Kd.R_below (RR HO_15.out) hb); replace HB := Aside0.mk (below_step (BB HB.out) hb); (try clear hb); (try clear hb2); (try clear hk); (try clear hi)) | (go_at_call 12; (with_reducible refine (impl_LeasesOk.calls k1 _ _ t317 true _ ?side1 ?side2 A48.out).mono ?_); (case side1 => exact CC (Kd.R_reads' HO_5.out).2.2); (case side2 => exact (Kd.R_reads' HO_5.out).2.1); rintro e w91 ⟨rfl, hb⟩; replace HO_3 := Aside0.mk (Kd.R_below (RR HO_3.out) hb); replace HO_5 := Aside0.mk (Kd.R_below (RR HO_5.out) hb); replace HO_9 := Aside0.mk (Kd.R_below (RR HO_9.out) hb); replace HO_14 := Aside0.mk (Kd.R_below (RR HO_14.out) hb); replace HO_15 := Aside0.mk (Kd.R_below (RR HO_15.out) hb); replace HB := Aside0.mk (below_step (BB HB.out) hb); (try clear hb); (try clear hb2); (try clear hk); (try clear hi); obtain ⟨Ao92, co92, eo92⟩ := Kd.R_slice HO_9.out; subst eo92) | (go_at_call 12; (with_reducible refine (impl_LeasesOk.calls k1 _ _ t325 true _ ?side1 ?side2 A50.out).mono ?_); (case side1 => exact CC (Kd.R_reads' HO_9.out).2.2); (case side2 => exact (Kd.R_reads' HO_9.out).2.1); rintro e w93 ⟨rfl, hb⟩; replace HO_3 := Aside0.mk (Kd.R_below (RR HO_3.out) hb); replace HO_5 := Aside0.mk (Kd.R_below (RR HO_5.out) hb); replace HO_9 := Aside0.mk (Kd.R_below (RR HO_9.out) hb); replace HO_14 := Aside0.mk (Kd.R_below (RR HO_14.out) hb); replace HO_15 := Aside0.mk (Kd.R_below (RR HO_15.out) hb); replace HB := Aside0.mk (below_step (BB HB.out) hb); (try clear hb); (try clear hb2); (try clear hk); (try clear hi)) | (go_at_call 11; (with_reducible refine (impl_HolderOf.calls k1 _ _ t317 (⟨#[47, 108, 101, 97, 115, 101]⟩ : ByteArray) t352 _ ?side1 ?side2 A52.out).mono ?_); (case side1 => exact CC (Kd.R_reads' HO_5.out).2.2); (case side2 => exact (Kd.R_reads' HO_5.out).2.1); rintro e w94 ⟨rfl, hb⟩; replace HO_3 := Aside0.mk (Kd.R_below (RR HO_3.out) hb); replace HO_5 := Aside0.mk (Kd.R_below (RR HO_5.out) hb); replace HO_9 := Aside0.mk (Kd.R_below (RR HO_9.out) hb); replace HO_14 := Aside0.mk (Kd.R_below (RR HO_14.out) hb); replace HO_15 := Aside0.mk (Kd.R_below (RR HO_15.out) hb); replace HB := Aside0.mk (below_step (BB HB.out) hb); (try clear hb); (try clear hb2); (try clear hk); (try clear hi)) | (go_at_call 11; (with_reducible refine (impl_HolderOf.calls k1 _ _ t325 (⟨#[47, 108, 101, 97, 115, 101]⟩ : ByteArray) t353 _ ?side1 ?side2 A54.out).mono ?_); (case side1 => exact CC (Kd.R_reads' HO_9.out).2.2); (case side2 => exact (Kd.R_reads' HO_9.out).2.1); rintro e w95 ⟨rfl, hb⟩; replace HO_3 := Aside0.mk (Kd.R_below (RR HO_3.out) hb); replace HO_5 := Aside0.mk (Kd.R_below (RR HO_5.out) hb); replace HO_9 := Aside0.mk (Kd.R_below (RR HO_9.out) hb); replace HO_14 := Aside0.mk (Kd.R_below (RR HO_14.out) hb); replace HO_15 := Aside0.mk (Kd.R_below (RR HO_15.out) hb); replace HB := Aside0.mk (below_step (BB HB.out) hb); (try clear hb); (try clear hb2); (try clear hk); (try clear hi); obtain ⟨Ao96, co96, eo96⟩ := Kd.R_slice HO_14.out; subst eo96) | (go_at_call 11; (with_reducible refine (impl_HolderOf.calls k1 _ _ t336 (⟨#[47, 108, 101, 97, 115, 101]⟩ : ByteArray) t354 _ ?side1 ?side2 A56.out).mono ?_); (case side1 => exact CC (Kd.R_reads' HO_14.out).2.2); (case side2 => exact (Kd.R_reads' HO_14.out).2.1); rintro e w97 ⟨rfl, hb⟩; replace HO_3 := Aside0.mk (Kd.R_below (RR HO_3.out) hb); replace HO_5 := Aside0.mk (Kd.R_below (RR HO_5.out) hb); replace HO_9 := Aside0.mk (Kd.R_below (RR HO_9.out) hb); replace HO_14 := Aside0.mk (Kd.R_below (RR HO_14.out) hb); replace HO_15 := Aside0.mk (Kd.R_below (RR HO_15.out) hb); replace HB := Aside0.mk (below_step (BB HB.out) hb); (try clear hb); (try clear hb2); (try clear hk); (try clear hi)))
                                go_ret
                                exact ⟨ER, (BB HB.out)⟩
                            · rw [if_neg c55] at H
                              have c55b0 : (t353 == 5) = false := beq_eq_false_iff_ne.mpr c55
                              have c55b1 : (t353 != 5) = true := bne_iff_ne.mpr c55
                              obtain rfl := Option.some.inj H
                              go_wp2_with (first | (go_at_call 12; (with_reducible refine (impl_LeasesOk.calls k1 _ _ t310 true _ ?side1 ?side2 A46.out).mono ?_); (case side1 => exact CC (Kd.R_reads' HO_3.out).2.2); (case side2 => exact (Kd.R_reads' HO_3.out).2.1); rintro e w98 ⟨rfl, hb⟩; replace HO_3 := Aside0.mk (Kd.R_below (RR HO_3.out) hb); replace HO_5 := Aside0.mk (Kd.R_below (RR HO_5.out) hb); replace HO_9 := Aside0.mk (Kd.R_below (RR HO_9.out) hb); replace HO_14 := Aside0.mk (Kd.R_below (RR HO_14.out) hb); replace HO_15 := Aside0.mk (Kd.R_below (RR HO_15.out) hb); replace HB := Aside0.mk (below_step (BB HB.out) hb); (try clear hb); (try clear hb2); (try clear hk); (try clear hi)) | (go_at_call 12; (with_reducible refine (impl_LeasesOk.calls k1 _ _ t317 true _ ?side1 ?side2 A48.out).mono ?_); (case side1 => exact CC (Kd.R_reads' HO_5.out).2.2); (case side2 => exact (Kd.R_reads' HO_5.out).2.1); rintro e w99 ⟨rfl, hb⟩; replace HO_3 := Aside0.mk (Kd.R_below (RR HO_3.out) hb); replace HO_5 := Aside0.mk (Kd.R_below (RR HO_5.out) hb); replace HO_9 := Aside0.mk (Kd.R_below (RR HO_9.out) hb); replace HO_14 := Aside0.mk (Kd.R_below (RR HO_14.out) hb); replace HO_15 := Aside0.mk (Kd.R_below (RR HO_15.out) hb); replace HB := Aside0.mk (below_step (BB HB.out) hb); (try clear hb); (try clear hb2); (try clear hk); (try clear hi); obtain ⟨Ao100, co100, eo100⟩ := Kd.R_slice HO_9.out; subst eo100) | (go_at_call 12; (with_reducible refine (impl_LeasesOk.calls k1 _ _ t325 true _ ?side1 ?side2 A50.out).mono ?_); (case side1 => exact CC (Kd.R_reads' HO_9.out).2.2); (case side2 => exact (Kd.R_reads' HO_9.out).2.1); rintro e w101 ⟨rfl, hb⟩; replace HO_3 := Aside0.mk (Kd.R_below (RR HO_3.out) hb); replace HO_5 := Aside0.mk (Kd.R_below (RR HO_5.out) hb); replace HO_9 := Aside0.mk (Kd.R_below (RR HO_9.out) hb); replace HO_14 := Aside0.mk (Kd.R_below (RR HO_14.out) hb); replace HO_15 := Aside0.mk (Kd.R_below (RR HO_15.out) hb); replace HB := Aside0.mk (below_step (BB HB.out) hb); (try clear hb); (try clear hb2); (try clear hk); (try clear hi)) | (go_at_call 11; (with_reducible refine (impl_HolderOf.calls k1 _ _ t317 (⟨#[47, 108, 101, 97, 115, 101]⟩ : ByteArray) t352 _ ?side1 ?side2 A52.out).mono ?_); (case side1 => exact CC (Kd.R_reads' HO_5.out).2.2); (case side2 => exact (Kd.R_reads' HO_5.out).2.1); rintro e w102 ⟨rfl, hb⟩; replace HO_3 := Aside0.mk (Kd.R_below (RR HO_3.out) hb); replace HO_5 := Aside0.mk (Kd.R_below (RR HO_5.out) hb); replace HO_9 := Aside0.mk (Kd.R_below (RR HO_9.out) hb); replace HO_14 := Aside0.mk (Kd.R_below (RR HO_14.out) hb); replace HO_15 := Aside0.mk (Kd.R_below (RR HO_15.out) hb); replace HB := Aside0.mk (below_step (BB HB.out) hb); (try clear hb); (try clear hb2); (try clear hk); (try clear hi)) | (go_at_call 11; (with_reducible refine (impl_HolderOf.calls k1 _ _ t325 (⟨#[47, 108, 101, 97, 115, 101]⟩ : ByteArray) t353 _ ?side1 ?side2 A54.out).mono ?_); (case side1 => exact CC (Kd.R_reads' HO_9.out).2.2); (case side2 => exact (Kd.R_reads' HO_9.out).2.1); rintro e w103 ⟨rfl, hb⟩; replace HO_3 := Aside0.mk (Kd.R_below (RR HO_3.out) hb); replace HO_5 := Aside0.mk (Kd.R_below (RR HO_5.out) hb); replace HO_9 := Aside0.mk (Kd.R_below (RR HO_9.out) hb); replace HO_14 := Aside0.mk (Kd.R_below (RR HO_14.out) hb); replace HO_15 := Aside0.mk (Kd.R_below (RR HO_15.out) hb); replace HB := Aside0.mk (below_step (BB HB.out) hb); (try clear hb); (try clear hb2); (try clear hk); (try clear hi)))
                              go_ret
                              exact ⟨ER, (BB HB.out)⟩
                          · rw [if_neg c53] at H
                            have c53b0 : (t352 == 4) = false := beq_eq_false_iff_ne.mpr c53
                            have c53b1 : (t352 != 4) = true := bne_iff_ne.mpr c53
                            obtain rfl := Option.some.inj H
                            go_wp2_with (first | (go_at_call 12; (with_reducible refine (impl_LeasesOk.calls k1 _ _ t310 true _ ?side1 ?side2 A46.out).mono ?_); (case side1 => exact CC (Kd.R_reads' HO_3.out).2.2); (case side2 => exact (Kd.R_reads' HO_3.out).2.1); rintro e w104 ⟨rfl, hb⟩; replace HO_3 := Aside0.mk (Kd.R_below (RR HO_3.out) hb); replace HO_5 := Aside0.mk (Kd.R_below (RR HO_5.out) hb); replace HO_9 := Aside0.mk (Kd.R_below (RR HO_9.out) hb); replace HO_14 := Aside0.mk (Kd.R_below (RR HO_14.out) hb); replace HO_15 := Aside0.mk (Kd.R_below (RR HO_15.out) hb); replace HB := Aside0.mk (below_step (BB HB.out) hb); (try clear hb); (try clear hb2); (try clear hk); (try clear hi)) | (go_at_call 12; (with_reducible refine (impl_LeasesOk.calls k1 _ _ t317 true _ ?side1 ?side2 A48.out).mono ?_); (case side1 => exact CC (Kd.R_reads' HO_5.out).2.2); (case side2 => exact (Kd.R_reads' HO_5.out).2.1); rintro e w105 ⟨rfl, hb⟩; replace HO_3 := Aside0.mk (Kd.R_below (RR HO_3.out) hb); replace HO_5 := Aside0.mk (Kd.R_below (RR HO_5.out) hb); replace HO_9 := Aside0.mk (Kd.R_below (RR HO_9.out) hb); replace HO_14 := Aside0.mk (Kd.R_below (RR HO_14.out) hb); replace HO_15 := Aside0.mk (Kd.R_below (RR HO_15.out) hb); replace HB := Aside0.mk (below_step (BB HB.out) hb); (try clear hb); (try clear hb2); (try clear hk); (try clear hi); obtain ⟨Ao106, co106, eo106⟩ := Kd.R_slice HO_9.out; subst eo106) | (go_at_call 12; (with_reducible refine (impl_LeasesOk.calls k1 _ _ t325 true _ ?side1 ?side2 A50.out).mono ?_); (case side1 => exact CC (Kd.R_reads' HO_9.out).2.2); (case side2 => exact (Kd.R_reads' HO_9.out).2.1); rintro e w107 ⟨rfl, hb⟩; replace HO_3 := Aside0.mk (Kd.R_below (RR HO_3.out) hb); replace HO_5 := Aside0.mk (Kd.R_below (RR HO_5.out) hb); replace HO_9 := Aside0.mk (Kd.R_below (RR HO_9.out) hb); replace HO_14 := Aside0.mk (Kd.R_below (RR HO_14.out) hb); replace HO_15 := Aside0.mk (Kd.R_below (RR HO_15.out) hb); replace HB := Aside0.mk (below_step (BB HB.out) hb); (try clear hb); (try clear hb2); (try clear hk); (try clear hi)) | (go_at_call 11; (with_reducible refine (impl_HolderOf.calls k1 _ _ t317 (⟨#[47, 108, 101, 97, 115, 101]⟩ : ByteArray) t352 _ ?side1 ?side2 A52.out).mono ?_); (case side1 => exact CC (Kd.R_reads' HO_5.out).2.2); (case side2 => exact (Kd.R_reads' HO_5.out).2.1); rintro e w108 ⟨rfl, hb⟩; replace HO_3 := Aside0.mk (Kd.R_below (RR HO_3.out) hb); replace HO_5 := Aside0.mk (Kd.R_below (RR HO_5.out) hb); replace HO_9 := Aside0.mk (Kd.R_below (RR HO_9.out) hb); replace HO_14 := Aside0.mk (Kd.R_below (RR HO_14.out) hb); replace HO_15 := Aside0.mk (Kd.R_below (RR HO_15.out) hb); replace HB := Aside0.mk (below_step (BB HB.out) hb); (try clear hb); (try clear hb2); (try clear hk); (try clear hi)))
                            go_ret
                            exact ⟨ER, (BB HB.out)⟩
                        · replace c51 := Bool.eq_false_iff.mpr c51
                          subst c51
                          have H1 : (some false) = some r := by rw [if_neg (show ¬ (false = true) by decide)] at H; exact H
                          clear H
                          have H := H1
                          clear H1
                          obtain rfl := Option.some.inj H
                          go_wp2_with (first | (go_at_call 12; (with_reducible refine (impl_LeasesOk.calls k1 _ _ t310 true _ ?side1 ?side2 A46.out).mono ?_); (case side1 => exact CC (Kd.R_reads' HO_3.out).2.2); (case side2 => exact (Kd.R_reads' HO_3.out).2.1); rintro e w109 ⟨rfl, hb⟩; replace HO_3 := Aside0.mk (Kd.R_below (RR HO_3.out) hb); replace HO_5 := Aside0.mk (Kd.R_below (RR HO_5.out) hb); replace HO_9 := Aside0.mk (Kd.R_below (RR HO_9.out) hb); replace HO_14 := Aside0.mk (Kd.R_below (RR HO_14.out) hb); replace HO_15 := Aside0.mk (Kd.R_below (RR HO_15.out) hb); replace HB := Aside0.mk (below_step (BB HB.out) hb); (try clear hb); (try clear hb2); (try clear hk); (try clear hi)) | (go_at_call 12; (with_reducible refine (impl_LeasesOk.calls k1 _ _ t317 true _ ?side1 ?side2 A48.out).mono ?_); (case side1 => exact CC (Kd.R_reads' HO_5.out).2.2); (case side2 => exact (Kd.R_reads' HO_5.out).2.1); rintro e w110 ⟨rfl, hb⟩; replace HO_3 := Aside0.mk (Kd.R_below (RR HO_3.out) hb); replace HO_5 := Aside0.mk (Kd.R_below (RR HO_5.out) hb); replace HO_9 := Aside0.mk (Kd.R_below (RR HO_9.out) hb); replace HO_14 := Aside0.mk (Kd.R_below (RR HO_14.out) hb); replace HO_15 := Aside0.mk (Kd.R_below (RR HO_15.out) hb); replace HB := Aside0.mk (below_step (BB HB.out) hb); (try clear hb); (try clear hb2); (try clear hk); (try clear hi); obtain ⟨Ao111, co111, eo111⟩ := Kd.R_slice HO_9.out; subst eo111) | (go_at_call 12; (with_reducible refine (impl_LeasesOk.calls k1 _ _ t325 false _ ?side1 ?side2 A50.out).mono ?_); (case side1 => exact CC (Kd.R_reads' HO_9.out).2.2); (case side2 => exact (Kd.R_reads' HO_9.out).2.1); rintro e w112 ⟨rfl, hb⟩; replace HO_3 := Aside0.mk (Kd.R_below (RR HO_3.out) hb); replace HO_5 := Aside0.mk (Kd.R_below (RR HO_5.out) hb); replace HO_9 := Aside0.mk (Kd.R_below (RR HO_9.out) hb); replace HO_14 := Aside0.mk (Kd.R_below (RR HO_14.out) hb); replace HO_15 := Aside0.mk (Kd.R_below (RR HO_15.out) hb); replace HB := Aside0.mk (below_step (BB HB.out) hb); (try clear hb); (try clear hb2); (try clear hk); (try clear hi)))
                          go_ret
                          exact ⟨ER, (BB HB.out)⟩
                      · replace c49 := Bool.eq_false_iff.mpr c49
                        subst c49
                        have H1 : (some false) = some r := by rw [if_neg (show ¬ (false = true) by decide)] at H; exact H
                        clear H
                        have H := H1
                        clear H1
                        obtain rfl := Option.some.inj H
                        go_wp2_with (first | (go_at_call 12; (with_reducible refine (impl_LeasesOk.calls k1 _ _ t310 true _ ?side1 ?side2 A46.out).mono ?_); (case side1 => exact CC (Kd.R_reads' HO_3.out).2.2); (case side2 => exact (Kd.R_reads' HO_3.out).2.1); rintro e w113 ⟨rfl, hb⟩; replace HO_3 := Aside0.mk (Kd.R_below (RR HO_3.out) hb); replace HO_5 := Aside0.mk (Kd.R_below (RR HO_5.out) hb); replace HO_9 := Aside0.mk (Kd.R_below (RR HO_9.out) hb); replace HO_14 := Aside0.mk (Kd.R_below (RR HO_14.out) hb); replace HO_15 := Aside0.mk (Kd.R_below (RR HO_15.out) hb); replace HB := Aside0.mk (below_step (BB HB.out) hb); (try clear hb); (try clear hb2); (try clear hk); (try clear hi)) | (go_at_call 12; (with_reducible refine (impl_LeasesOk.calls k1 _ _ t317 false _ ?side1 ?side2 A48.out).mono ?_); (case side1 => exact CC (Kd.R_reads' HO_5.out).2.2); (case side2 => exact (Kd.R_reads' HO_5.out).2.1); rintro e w114 ⟨rfl, hb⟩; replace HO_3 := Aside0.mk (Kd.R_below (RR HO_3.out) hb); replace HO_5 := Aside0.mk (Kd.R_below (RR HO_5.out) hb); replace HO_9 := Aside0.mk (Kd.R_below (RR HO_9.out) hb); replace HO_14 := Aside0.mk (Kd.R_below (RR HO_14.out) hb); replace HO_15 := Aside0.mk (Kd.R_below (RR HO_15.out) hb); replace HB := Aside0.mk (below_step (BB HB.out) hb); (try clear hb); (try clear hb2); (try clear hk); (try clear hi)))
                        go_ret
                        exact ⟨ER, (BB HB.out)⟩
                    · replace c47 := Bool.eq_false_iff.mpr c47
                      subst c47
                      have H1 : (some false) = some r := by rw [if_neg (show ¬ (false = true) by decide)] at H; exact H
                      clear H
                      have H := H1
                      clear H1
                      obtain rfl := Option.some.inj H
                      go_wp2_with (first | (go_at_call 12; (with_reducible refine (impl_LeasesOk.calls k1 _ _ t310 false _ ?side1 ?side2 A46.out).mono ?_); (case side1 => exact CC (Kd.R_reads' HO_3.out).2.2); (case side2 => exact (Kd.R_reads' HO_3.out).2.1); rintro e w115 ⟨rfl, hb⟩; replace HO_3 := Aside0.mk (Kd.R_below (RR HO_3.out) hb); replace HO_5 := Aside0.mk (Kd.R_below (RR HO_5.out) hb); replace HO_9 := Aside0.mk (Kd.R_below (RR HO_9.out) hb); replace HO_14 := Aside0.mk (Kd.R_below (RR HO_14.out) hb); replace HO_15 := Aside0.mk (Kd.R_below (RR HO_15.out) hb); replace HB := Aside0.mk (below_step (BB HB.out) hb); (try clear hb); (try clear hb2); (try clear hk); (try clear hi)))
                      go_ret
                      exact ⟨ER, (BB HB.out)⟩
                · replace c44 := Bool.eq_false_iff.mpr c44
                  subst c44
                  have H1 : (some false) = some r := by rw [if_neg (show ¬ (false = true) by decide)] at H; exact H
                  clear H
                  have H := H1
                  clear H1
                  obtain rfl := Option.some.inj H
                  go_wp2
                  go_ret
                  exact ⟨ER, (BB HB.out)⟩
            · replace c42 := Bool.eq_false_iff.mpr c42
              subst c42
              have H1 : (some false) = some r := by rw [if_neg (show ¬ (false = true) by decide)] at H; exact H
              clear H
              have H := H1
              clear H1
              obtain rfl := Option.some.inj H
              go_wp2
              go_ret
              exact ⟨ER, (BB HB.out)⟩
    · rw [if_neg c6] at H
      exact absurd H (by simp)

def laws_FnLeases.Pure : Prop := ∀ (l0 : List Int), l0.length ≤ maxLen → l0.length * 1 ≤ 140737488351232 → (∀ x ∈ l0, (Lit.int .u8 x).wf = true) → ∃ k, laws_FnLeases.f k l0 = some true
theorem laws_FnLeases.walk (P : laws_FnLeases.Pure) (a0 : Option Addr) (len0 cap0 : Nat) (z0 : List Int) (w : World) (w0 : (a0 = none ∧ len0 = 0 ∧ cap0 = 0 ∧ z0 = []) ∨ ∃ x, a0 = some x ∧ len0 ≤ cap0 ∧ cap0 ≤ maxLen ∧ z0.length = cap0 ∧ (∀ i, i < z0.length → w.cell? (x.add i) = some (.int .u8 (z0.getD i 0))) ∧ ∀ n ∈ z0, (Lit.int .u8 n).wf = true) (y0 : len0 * 1 ≤ 140737488351232) :
    Calls Tryd.prog 3 #[.slice a0 len0 cap0] w fun e w' => e = .returned (.bool true) ∧ Below w.heap.size w w' := by
  obtain ⟨l0, rfl, hr0, hm0, hw0, hc0⟩ := ReadsInt.ofRowC w0
  obtain ⟨k, h⟩ := P l0 hm0 y0 hw0
  refine (laws_FnLeases.calls k _ _ l0 true w (Kd.C_of_reads (d := (0 : Int)) (h1 := fun _ => rfl) hr0) hc0 h).mono ?_
  rintro e w' ⟨rfl, hd⟩
  exact ⟨rfl, hd⟩

end Go.Proofs.YtdacjpebgklneaaDoor.Pr

namespace Go.Proofs.YtdacjpebgklneaaDoor.Opn
open Go.RowKit Go.ChangeShapes Go.WideShapes Go.Deep Go.Proofs.YtdacjpebgklneaaDoorW.PrintWords
def Opens {α : Type} (P : Program) (d : Kd α) (wf : α → Prop) (t : TypeId) : Prop :=
  ∀ (H : Type) (enc : TypeId × Value → H) (w : World) (base : Nat) (spare : Nat → Bool) (held : Bool) (fuel : Nat) (cs : List Value) (x : DataW H × List MemPlace),
    DataW.trod enc P w base spare held fuel t cs = some x → ∃ v, d.K w v cs ∧ wf v

theorem opens_int {P : Program} {t : TypeId} (k : IntKind) (ht : P.underlying t = some (.int k)) : Opens P (Kd.int k) (fun n => (Lit.int k n).wf = true) t := by
  intro H enc w base spare held fuel cs x h
  obtain ⟨n, rfl, _, hw⟩ := DataW.trod_int ht h
  exact ⟨n, rfl, hw⟩
theorem list_of_lt {α : Type} {q : Nat → α → Prop} (len : Nat) (key : ∀ i, i < len → ∃ v, q i v) : ∃ xs : List α, xs.length = len ∧ ∀ i v, xs[i]? = some v → q i v := by
  induction len with
  | zero => exact ⟨[], rfl, fun i v h => by simp at h⟩
  | succ k ih =>
    obtain ⟨xs, hxl, hx⟩ := ih (fun i hik => key i (by omega))
    obtain ⟨v, h1⟩ := key k (by omega)
    refine ⟨xs ++ [v], by simp [hxl], fun i u hu => ?_⟩
    by_cases hik : i < xs.length
    · rw [List.getElem?_append_left hik] at hu
      exact hx i u hu
    · have hil := (List.getElem?_eq_some_iff.1 hu).1
      simp at hil
      have hi' : i = k := by omega
      subst hi'
      rw [List.getElem?_append_right (by omega)] at hu
      simp [hxl] at hu
      subst hu
      exact h1

theorem opens_slice {α : Type} {P : Program} {t e : TypeId} {d : Kd α} {wf : α → Prop} (ht : P.underlying t = some (.slice e)) (hc : P.cellsOf e = d.sz) (he : Opens P d wf e) :
    Opens P (Kd.slice e d) (fun xs => xs.length ≤ maxLen ∧ ∀ x ∈ xs, wf x) t := by
  intro H enc w base spare held fuel cs x h
  rcases Go.Deep.open_slice ht h with ⟨rfl, _⟩ | ⟨a, len, cap, m, n, D, Pl, rfl, _, hl, hm, hmm, _, hi⟩
  · refine ⟨[], ⟨none, 0, rfl, Nat.le_refl _, rfl, by simp, fun h => absurd h (by simp)⟩, by simp, fun x hx => by simp at hx⟩
  · have hlm : len ≤ m := by rw [hmm]; split <;> omega
    have key : ∀ i, i < len → ∃ v c, d.K w v c ∧ wf v ∧ w.cells? base (a.add (i * P.cellsOf e)) (P.cellsOf e) = some c := by
      intro i hil
      obtain ⟨c, h1, h2⟩ := hi i (by omega)
      obtain ⟨v, hk, hw⟩ := he _ _ _ _ _ _ _ _ _ h2
      exact ⟨v, c, hk, hw, h1⟩
    have this := list_of_lt (q := fun i v => ∃ c, d.K w v c ∧ wf v ∧ w.cells? base (a.add (i * P.cellsOf e)) (P.cellsOf e) = some c) len key
    obtain ⟨xs, hxl, hx⟩ := this
    refine ⟨xs, ⟨some a, cap, by rw [hxl], by omega, ?_⟩, by rw [hxl]; omega, ?_⟩
    · refine ⟨rfl, by unfold maxLen at hm; omega, fun _ => ⟨a, rfl, fun j p hj => ?_⟩⟩
      obtain ⟨c, h1, h2, h3⟩ := hx j p hj
      obtain ⟨_, hcl, hat⟩ := World.cells?_some h3
      refine ⟨c, by rw [hcl, hc], h1, fun i u hu => ?_⟩
      have hil : i < P.cellsOf e := by rw [← hcl]; exact (List.getElem?_eq_some_iff.1 hu).1
      rw [← Go.Deep.add_add, ← hc, hat i hil, hu]
    · intro y hy
      obtain ⟨i, hi⟩ := List.mem_iff_getElem?.1 hy
      obtain ⟨c, _, h2, _⟩ := hx i y hi
      exact h2

theorem arg_slice {α : Type} {P : Program} {t e : TypeId} {d : Kd α} {wf : List α → Prop} (h : Opens P (Kd.slice e d) wf t) {H : Type} {enc : TypeId × Value → H} {w : World} {base : Nat} {spare : Nat → Bool} {held : Bool}
    {A : Option Addr} {n c : Nat} {x : DataW H} {p : List MemPlace} (hx : DataW.Trod enc P w base spare held t (.slice A n c) x p) : ∃ l : List α, n = l.length ∧ l.length ≤ c ∧ Kd.C d w A l.length l ∧ wf l := by
  obtain ⟨fuel, hf⟩ := hx
  obtain ⟨l, ⟨A', c', he, hl, hC⟩, hw⟩ := h _ _ _ _ _ _ _ _ _ hf
  simp [Value.cells] at he
  obtain ⟨rfl, rfl, rfl⟩ := he
  exact ⟨l, rfl, hl, hC, hw⟩
end Go.Proofs.YtdacjpebgklneaaDoor.Opn

namespace Go.Proofs.YtdacjpebgklneaaDoor.SFnLeases
open Go.RowKit Go.Proofs.YtdacjpebgklneaaDoorW.PrintWords Go.Proofs.YtdacjpebgklneaaDoorW.PrintLast Go.Proofs.YtdacjpebgklneaaDoorW.PrintMore Go.Proofs.YtdacjpebgklneaaDoor.Pr Go.Proofs.YtdacjpebgklneaaDoor.Opn
set_option linter.unusedVariables false
def Pure : Prop := ∀ (l0 : List (Int)), (l0.length ≤ maxLen ∧ ∀ y ∈ l0, (Lit.int .u8 y).wf = true) → ∃ k, laws_FnLeases.f k l0 = some true
end Go.Proofs.YtdacjpebgklneaaDoor.SFnLeases

namespace Go.Proofs.YtdacjpebgklneaaDoor.Pu
open Go.RowKit Go.Proofs.YtdacjpebgklneaaDoorW.PrintWords Go.Proofs.YtdacjpebgklneaaDoor.Pr Go.Proofs.YtdacjpebgklneaaDoor.Evs
set_option linter.unusedVariables false
theorem and255 (n : Int) : bits .and .i64 n 255 = n % 256 := by
  have h255 : (BitVec.ofInt 64 255).toNat = 2 ^ 8 - 1 := by decide
  have key : (BitVec.ofInt 64 n &&& BitVec.ofInt 64 255).toNat = (n % ((2 ^ 64 : Nat) : Int)).toNat % 2 ^ 8 := by
    rw [BitVec.toNat_and, BitVec.toNat_ofInt, h255, Nat.and_two_pow_sub_one_eq_mod]
  show IntKind.i64.wrap ((BitVec.ofInt 64 n &&& BitVec.ofInt 64 255).toNat : Nat) = n % 256
  rw [key, IntKind.wrap_i64]
  omega
def inB (b : List Int) (i : Int) : Prop := 0 ≤ i ∧ i ≤ (b.length : Int)
theorem cur_byte (b : List Int) (hb : b.length ≤ 1048576) (i h : Int) (hi : inB b i) : ∃ x i' h', spec_l01Byte.f b i h = some (x, i', h') ∧ (0 ≤ x ∧ x ≤ 255) ∧ inB b i' := by
  unfold spec_l01Byte.f
  by_cases c : i < (b.length : Int)
  · rw [if_pos c, if_pos hi.1, wrap_in (i := i + 1) (by have := hi.1; omega) (by omega)]
    refine ⟨_, _, _, rfl, ?_, ?_⟩
    · rw [and255]
      omega
    · exact ⟨by have := hi.1; omega, by omega⟩
  · rw [if_neg c]
    refine ⟨_, _, _, rfl, ?_, hi⟩
    rw [and255]
    omega
theorem cur_below (b : List Int) (hb : b.length ≤ 1048576) (i h n : Int) (hi : inB b i) (h0 : 0 < n) (h1 : n ≤ 256) : ∃ x i' h', spec_l01Below.f b i h n = some (x, i', h') ∧ (0 ≤ x ∧ x < n) ∧ inB b i' := by
  obtain ⟨x, i', h', e, hx, hi'⟩ := cur_byte b hb i h hi
  unfold spec_l01Below.f
  rw [if_neg (by omega), if_pos h1, e, Option.bind_some, if_neg (by omega)]
  exact ⟨_, _, _, rfl, ⟨Int.tmod_nonneg _ hx.1, Int.tmod_lt_of_pos _ h0⟩, hi'⟩
theorem cur_wide (b : List Int) (hb : b.length ≤ 1048576) (i h n : Int) (hi : inB b i) (h0 : 256 < n) : ∃ x i' h', spec_l01Below.f b i h n = some (x, i', h') ∧ (0 ≤ x ∧ x < n) ∧ inB b i' := by
  obtain ⟨x, i1, h1, e1, hx, hi1⟩ := cur_byte b hb i h hi
  obtain ⟨y, i2, h2, e2, hy, hi2⟩ := cur_byte b hb i1 h1 hi1
  obtain ⟨z, i3, h3, e3, hz, hi3⟩ := cur_byte b hb i2 h2 hi2
  obtain ⟨v, i4, h4, e4, hv, hi4⟩ := cur_byte b hb i3 h3 hi3
  unfold spec_l01Below.f
  rw [if_neg (by omega), if_neg (by omega), e1, Option.bind_some, e2, Option.bind_some, e3, Option.bind_some, e4, Option.bind_some, if_neg (by omega)]
  refine ⟨_, _, _, rfl, ⟨Int.tmod_nonneg _ ?_, Int.tmod_lt_of_pos _ (by omega)⟩, hi4⟩
  show 0 ≤ wrap64 (wrap64 (wrap64 (wrap64 (x * 16777216) + wrap64 (y * 65536)) + wrap64 (z * 256)) + v)
  rw [wrap_in (i := x * 16777216) (by omega) (by omega), wrap_in (i := y * 65536) (by omega) (by omega), wrap_in (i := z * 256) (by omega) (by omega), wrap_in (i := x * 16777216 + y * 65536) (by omega) (by omega), wrap_in (i := x * 16777216 + y * 65536 + z * 256) (by omega) (by omega), wrap_in (by omega) (by omega)]
  omega
theorem cur_new_loop (b : List Int) (hb : b.length ≤ 1048576) (d : Nat) : ∀ (h : Int) (i : Nat), b.length ≤ i + d → ∃ h', Ev (fun k => spec_l01New.l0 k b h (i : Int)) (b, 0, h') := by
  induction d with
  | zero => intro h i hd; exact ⟨h, ev_step (fun k => spec_l01New.l0.eq_2 _ _ _ k) (ev_neg (by omega) (ev_some _))⟩
  | succ d ih =>
    intro h i hd
    by_cases c : (i : Int) < (b.length : Int)
    · by_cases c2 : (i : Int) < 4000
      · obtain ⟨h', e⟩ := ih (Go.bits .and .i64 (wrap64 ((wrap64 ((wrap64 (h * 131)) + (wrap64 (rd b (i : Int))))) + 7)) 1073741823) (i + 1) (by omega)
        refine ⟨h', ev_step (fun k => spec_l01New.l0.eq_2 _ _ _ k) (ev_pos c (ev_pos c2 (ev_pos (by omega) ?_)))⟩
        rw [wrap_in (i := (i : Int) + 1) (by omega) (by omega)]
        exact e
      · exact ⟨h, ev_step (fun k => spec_l01New.l0.eq_2 _ _ _ k) (ev_pos c (ev_neg c2 (ev_some _)))⟩
    · exact ⟨h, ev_step (fun k => spec_l01New.l0.eq_2 _ _ _ k) (ev_neg c (ev_some _))⟩
theorem cur_new (b : List Int) (hb : b.length ≤ 1048576) : ∃ h', Ev (fun k => spec_l01New.f k b) (b, 0, h') := by
  unfold spec_l01New.f
  exact cur_new_loop b hb b.length _ 0 (by omega)
end Go.Proofs.YtdacjpebgklneaaDoor.Pu

namespace Go.Proofs.YtdacjpebgklneaaDoor.Pu
open Go.RowKit Go.Proofs.YtdacjpebgklneaaDoorW.PrintWords Go.Proofs.YtdacjpebgklneaaDoor.Pr Go.Proofs.YtdacjpebgklneaaDoor.Evs Go.Proofs.YtdacjpebgklneaaDoor.Lw
set_option linter.unusedVariables false
set_option linter.unusedSimpArgs false
def behindL (p : ByteArray) (x : ImLease) : Bool := Op.bytesLess p.toList x.f0.toList
theorem set_mid (A B : List ImLease) (y v : ImLease) : (A ++ y :: B).set A.length v = A ++ v :: B := by
  induction A with
  | nil => rfl
  | cons a A ih => simp
theorem bytes_inj {a b : ByteArray} (h : a.toList = b.toList) : a = b := by
  rw [ByteArray.toList_eq, ByteArray.toList_eq] at h
  exact ByteArray.ext (Array.toList_inj.1 h)
section
variable (z : List ImLease) (hz : z.length ≤ 1048576) (p : ByteArray) (who now : Int)
include hz
theorem spec_skip (suf : List ImLease) (r : List ImLease × Bool) (s : List ImLease) : ∀ pre, pre ++ (s ++ suf) = z → (∀ x ∈ s, ¬ x.f0.toList = p.toList) → Ev (fun k => spec_TakeLease.l0 k z p who now z ((pre ++ s).length : Int)) r → Ev (fun k => spec_TakeLease.l0 k z p who now z (pre.length : Int)) r := by
  induction s with
  | nil => intro pre _ _ h; simpa using h
  | cons x s ih =>
    intro pre he hn h
    have hl : z.length = pre.length + (s.length + 1 + suf.length) := by rw [← he]; simp; omega
    have er : rd_T35 z (pre.length : Int) = x := by rw [← he]; exact rd35 pre (s ++ suf) x
    have e : wrap64 ((pre.length : Int) + 1) = ((pre ++ [x]).length : Int) := by rw [List.length_append, List.length_singleton, wrap_in (by omega) (by omega)]; rfl
    refine ev_step (fun k => spec_TakeLease.l0.eq_2 _ _ _ _ _ _ k) (ev_pos (by omega) (ev_pos (by omega) ?_))
    simp only [er, e]
    refine ev_neg (hn x (List.mem_cons_self ..)) (ih (pre ++ [x]) (by rw [← he]; simp) (fun y hy => hn y (List.mem_cons_of_mem _ hy)) ?_)
    simpa using h
omit hz in
theorem spec_found (A B : List ImLease) (y : ImLease) (he : A ++ y :: B = z) (hy : y.f0.toList = p.toList) : Ev (fun k => spec_TakeLease.l0 k z p who now z (A.length : Int)) (if ¬ y.f1 = who ∧ wrap64 (now - y.f2) < 5 then (z, false) else (A ++ (⟨p, who, now⟩ : ImLease) :: B, true)) := by
  have hl : z.length = A.length + (B.length + 1) := by rw [← he]; simp
  have er : ∀ v, rd_T35 (A ++ v :: B) (A.length : Int) = v := fun v => rd35 A B v
  have er0 : rd_T35 z (A.length : Int) = y := by rw [← he]; exact er y
  have es : z.set A.length (⟨p, who, y.f2⟩ : ImLease) = A ++ (⟨p, who, y.f2⟩ : ImLease) :: B := by rw [← he]; exact set_mid A B y _
  have hp := bytes_inj hy
  refine ev_step (fun k => spec_TakeLease.l0.eq_2 _ _ _ _ _ _ k) (ev_pos (by omega) (ev_pos (by omega) ?_))
  simp only [er0]
  refine ev_pos hy ?_
  by_cases c1 : y.f1 = who
  · rw [if_neg (c := ¬ y.f1 = who ∧ wrap64 (now - y.f2) < 5) (fun h => h.1 c1)]
    refine ev_pos c1 (ev_call rfl ?_)
    simp only [Int.toNat_natCast, hp, es, er, set_mid]
    exact ev_some _
  · refine ev_neg c1 ?_
    by_cases c2 : wrap64 (now - y.f2) < 5
    · rw [if_pos (c := ¬ y.f1 = who ∧ wrap64 (now - y.f2) < 5) ⟨c1, c2⟩]
      exact ev_pos c2 (ev_some _)
    · rw [if_neg (c := ¬ y.f1 = who ∧ wrap64 (now - y.f2) < 5) (fun h => c2 h.2)]
      refine ev_neg c2 (ev_call rfl ?_)
      simp only [Int.toNat_natCast, hp, es, er, set_mid]
      exact ev_some _
theorem spec_l2 (m : Nat) (hm : m < 1048578) (s : List ImLease) : ∀ pre acc, pre ++ s = z → acc.length ≤ pre.length + m → Ev (fun k => spec_TakeLease.l2 k z p acc (pre.length : Int)) (acc ++ s.filter (behindL p), true) := by
  induction s with
  | nil =>
    intro pre acc he ha
    rw [List.append_nil] at he
    subst he
    exact ev_step (fun k => spec_TakeLease.l2.eq_2 _ _ _ _ k) (ev_neg (by omega) (ev_eq (ev_some _) (by simp)))
  | cons x s ih =>
    intro pre acc he ha
    have hl : z.length = pre.length + (s.length + 1) := by rw [← he]; simp
    have er : rd_T35 z (pre.length : Int) = x := by rw [← he]; exact rd35 pre s x
    have e : wrap64 ((pre.length : Int) + 1) = ((pre ++ [x]).length : Int) := by rw [List.length_append, List.length_singleton, wrap_in (by omega) (by omega)]; rfl
    refine ev_step (fun k => spec_TakeLease.l2.eq_2 _ _ _ _ k) (ev_pos (by omega) (ev_pos (by omega) ?_))
    simp only [er, e]
    by_cases c : Op.bytesLess p.toList x.f0.toList = true
    · rw [List.filter_cons_of_pos (p := behindL p) c]
      have h := ih (pre ++ [x]) (acc ++ [x]) (by rw [← he]; simp) (by simp; omega)
      rw [List.append_assoc] at h
      exact ev_pos c (ev_pos (by omega) h)
    · rw [List.filter_cons_of_neg (p := behindL p) c]
      exact ev_neg c (ih (pre ++ [x]) acc (by rw [← he]; simp) (by simp; omega))
theorem spec_l1 (r : List ImLease × Bool) (s : List ImLease) : ∀ pre acc, pre ++ s = z → acc.length ≤ pre.length → Ev (fun k => spec_TakeLease.l2 k z p (acc ++ s.filter (aheadL p) ++ [(⟨p, who, now⟩ : ImLease)]) 0) r → Ev (fun k => spec_TakeLease.l1 k z p who now acc (pre.length : Int)) r := by
  induction s with
  | nil =>
    intro pre acc he ha h
    rw [List.append_nil] at he
    subst he
    rw [List.filter_nil, List.append_nil] at h
    exact ev_step (fun k => spec_TakeLease.l1.eq_2 _ _ _ _ _ _ k) (ev_neg (by omega) (ev_pos (by omega) h))
  | cons x s ih =>
    intro pre acc he ha h
    have hl : z.length = pre.length + (s.length + 1) := by rw [← he]; simp
    have er : rd_T35 z (pre.length : Int) = x := by rw [← he]; exact rd35 pre s x
    have e : wrap64 ((pre.length : Int) + 1) = ((pre ++ [x]).length : Int) := by rw [List.length_append, List.length_singleton, wrap_in (by omega) (by omega)]; rfl
    refine ev_step (fun k => spec_TakeLease.l1.eq_2 _ _ _ _ _ _ k) (ev_pos (by omega) (ev_pos (by omega) ?_))
    simp only [er, e]
    by_cases c : Op.bytesLess x.f0.toList p.toList = true
    · rw [List.filter_cons_of_pos (p := aheadL p) c] at h
      exact ev_pos c (ev_pos (by omega) (ih (pre ++ [x]) (acc ++ [x]) (by rw [← he]; simp) (by simp; omega) (by simpa using h)))
    · rw [List.filter_cons_of_neg (p := aheadL p) c] at h
      exact ev_neg c (ih (pre ++ [x]) acc (by rw [← he]; simp) (by simp; omega) h)
end
theorem takeL_len (z : List ImLease) (p : ByteArray) (who now : Int) : (takeL z35 z p who now).1.length ≤ z.length + 1 := by
  have h := tk_le p z
  have h2 : (z.take (tk p z) ++ (⟨p, who, now⟩ : ImLease) :: z.drop (tk p z)).length = z.length + 1 := by
    rw [List.length_append, List.length_take, List.length_cons, List.length_drop]
    omega
  have h3 : (z.set (tk p z) (⟨p, who, now⟩ : ImLease)).length = z.length := List.length_set ..
  unfold takeL
  repeat' split
  all_goals simp only [h2, h3]
  all_goals omega
theorem not_ok_of {l : List ImLease} {x : ImLease} (hm : x ∈ l) (h : leaseOk x = false) : ¬ leasesOk l = true := by
  intro hl
  have := ((leasesOk_iff l).1 hl).2.1 x hm
  rw [h] at this
  cases this
theorem spec_TakeLease_ev (z : List ImLease) (p : ByteArray) (who now : Int) (hz : z.length ≤ 1048576) (hb : ∀ x ∈ z, bdLease x) (hp : p.size ≤ 1048576) : Ev (fun k => spec_TakeLease.f k z p who now) (takeL z35 z p who now) := by
  have hcp : spec_l16Copy.f z = some z := by unfold spec_l16Copy.f; rw [Option.bind_some, if_pos (by simp; omega), List.nil_append]
  unfold spec_TakeLease.f
  refine ev_call hcp (ev_bind (spec_LeasesOk_ev z (by omega) hb) ?_)
  cases hL : leasesOk z with
  | false =>
    rw [takeL, if_neg (by rw [hL]; decide)]
    exact ev_neg (by decide) (ev_step (fun k => spec_TakeLease.j0.eq_2 _ _ _ _ _ _ k) (ev_pos rfl (ev_some _)))
  | true =>
  refine ev_pos rfl (ev_bind (spec_nm p hp) ?_)
  obtain ⟨hz8, hok, hpw⟩ := (leasesOk_iff z).1 hL
  -- where the path lies
  obtain ⟨A, B, hAB, htk, hA, hB⟩ : ∃ A B, z = A ++ B ∧ tk p z = A.length ∧ (∀ x ∈ A, aheadL p x = true) ∧ (∀ x ∈ B, aheadL p x = false) := by
    refine ⟨z.takeWhile (aheadL p), z.dropWhile (aheadL p), List.takeWhile_append_dropWhile.symm, rfl, fun x hx => ?_, ?_⟩
    · exact List.all_eq_true.1 List.all_takeWhile x hx
    · have hs : (z.dropWhile (aheadL p)).Pairwise ltL := hpw.sublist (List.dropWhile_sublist _)
      intro x hx
      cases hd : z.dropWhile (aheadL p) with
      | nil => rw [hd] at hx; cases hx
      | cons y t =>
        rw [hd] at hx hs
        have hy : aheadL p y = false := by
          have := List.head_dropWhile_not (aheadL p) (l := z) (by rw [hd]; simp)
          simp only [hd, List.head_cons] at this
          exact this
        rcases List.mem_cons.1 hx with rfl | hx
        · exact hy
        · have hyx := (List.pairwise_cons.1 hs).1 x hx
          cases hxp : aheadL p x with
          | false => rfl
          | true =>
            have : aheadL p y = true := bl_trans _ _ _ hyx hxp
            rw [hy] at this
            cases this
  have hneA : ∀ x ∈ A, ¬ x.f0.toList = p.toList := by
    intro x hx h
    have := hA x hx
    unfold aheadL at this
    rw [h, bl_irr] at this
    cases this
  have etake : z.take (tk p z) = A := by rw [htk, hAB]; exact List.take_left
  have edrop : z.drop (tk p z) = B := by rw [htk, hAB]; exact List.drop_left
  -- a wrong word of the ask
  have hbad : leaseOk ⟨p, who, now⟩ = false → takeL z35 z p who now = (z, false) := by
    intro h
    rw [takeL, if_pos hL]
    split
    · split
      · rfl
      · rename_i hk _
        rw [if_neg (not_ok_of (x := ⟨p, who, now⟩) (List.mem_iff_getElem.2 ⟨tk p z, by rw [List.length_set]; exact hk.1, by rw [List.getElem_set_self]⟩) h)]
    · rw [if_neg (not_ok_of (x := ⟨p, who, now⟩) (List.mem_append_right _ (List.mem_cons_self ..)) h)]
  have hlo : leaseOk ⟨p, who, now⟩ = (isNamed p.data.toList && (decide (1 ≤ who ∧ who ≤ 9) && decide (0 ≤ now ∧ now ≤ 1000000000))) := rfl
  cases hn : isNamed p.data.toList with
  | false =>
    rw [hbad (by rw [hlo, hn]; rfl)]
    exact ev_neg (by decide) (ev_step (fun k => spec_TakeLease.j0.eq_2 _ _ _ _ _ _ k) (ev_pos rfl (ev_some _)))
  | true =>
  refine ev_pos rfl (ev_call (spec_in _ _ _) ?_)
  cases hw : decide (1 ≤ who ∧ who ≤ 9) with
  | false =>
    rw [hbad (by rw [hlo, hw, hn]; rfl)]
    exact ev_neg (by decide) (ev_step (fun k => spec_TakeLease.j0.eq_2 _ _ _ _ _ _ k) (ev_pos rfl (ev_some _)))
  | true =>
  refine ev_pos rfl (ev_call (spec_in _ _ _) ?_)
  cases ht : decide (0 ≤ now ∧ now ≤ 1000000000) with
  | false =>
    rw [hbad (by rw [hlo, ht, hw, hn]; rfl)]
    exact ev_step (fun k => spec_TakeLease.j0.eq_2 _ _ _ _ _ _ k) (ev_pos rfl (ev_some _))
  | true =>
  refine ev_step (fun k => spec_TakeLease.j0.eq_2 _ _ _ _ _ _ k) (ev_neg (by decide) ?_)
  have hnew : leaseOk ⟨p, who, now⟩ = true := by rw [hlo, ht, hw, hn]; rfl
  have htn := of_decide_eq_true ht
  have hpA : A.Pairwise ltL ∧ B.Pairwise ltL ∧ ∀ a ∈ A, ∀ b ∈ B, ltL a b := by
    rw [hAB] at hpw
    exact List.pairwise_append.1 hpw
  rw [takeL, if_pos hL, etake, edrop]
  have hskip := spec_skip z hz p who now B
  by_cases hc : ∃ y B', B = y :: B' ∧ y.f0.toList = p.toList
  · obtain ⟨y, B', rfl, hy⟩ := hc
    have hym : y ∈ z := by rw [hAB]; exact List.mem_append_right _ (List.mem_cons_self ..)
    have hyo := hok y hym
    unfold leaseOk at hyo
    rw [Bool.and_eq_true, Bool.and_eq_true, decide_eq_true_iff, decide_eq_true_iff] at hyo
    have hyp := bytes_inj hy
    have hg : z.getD (tk p z) z35 = y := by rw [htk, hAB, List.getD_eq_getElem?_getD, List.getElem?_append_right (Nat.le_refl _), Nat.sub_self]; rfl
    have hlt : tk p z < z.length := by rw [htk, hAB]; simp
    have hset : z.set (tk p z) ⟨p, who, now⟩ = A ++ (⟨p, who, now⟩ : ImLease) :: B' := by rw [htk, hAB]; exact set_mid A B' y _
    rw [if_pos ⟨hlt, by rw [hg]; exact hy⟩, hg, hset]
    have hok2 : leasesOk (A ++ (⟨p, who, now⟩ : ImLease) :: B') = true := by
      refine (leasesOk_iff _).2 ⟨?_, ?_, ?_⟩
      · rw [hAB] at hz8
        simpa using hz8
      · intro x hx
        rcases List.mem_append.1 hx with hx | hx
        · exact hok x (by rw [hAB]; exact List.mem_append_left _ hx)
        · rcases List.mem_cons.1 hx with rfl | hx
          · exact hnew
          · exact hok x (by rw [hAB]; exact List.mem_append_right _ (List.mem_cons_of_mem _ hx))
      · have hyB := List.pairwise_cons.1 hpA.2.1
        refine List.pairwise_append.2 ⟨hpA.1, List.pairwise_cons.2 ⟨fun b hb => ?_, hyB.2⟩, fun a ha b hb => ?_⟩
        · have := hyB.1 b hb
          unfold ltL at this ⊢
          rw [hyp] at this
          exact this
        · rcases List.mem_cons.1 hb with rfl | hb
          · have := hpA.2.2 a ha y (List.mem_cons_self ..)
            unfold ltL at this ⊢
            rw [hyp] at this
            exact this
          · exact hpA.2.2 a ha b (List.mem_cons_of_mem _ hb)
    rw [if_pos hok2]
    have hfd := spec_found z p who now A B' y hAB.symm hy
    have hwr : wrap64 (now - y.f2) = now - y.f2 := wrap_in (by omega) (by omega)
    rw [hwr] at hfd
    have hif : (if ¬ y.f1 = who ∧ now - y.f2 < 5 then ((z, false) : List ImLease × Bool) else (A ++ (⟨p, who, now⟩ : ImLease) :: B', true)) = (if ¬ y.f1 = who ∧ now < y.f2 + 5 then (z, false) else (A ++ (⟨p, who, now⟩ : ImLease) :: B', true)) := by
      by_cases c : now - y.f2 < 5
      · have : now < y.f2 + 5 := by omega
        simp only [c, this]
      · have : ¬ now < y.f2 + 5 := by omega
        simp only [c, this]
    rw [hif] at hfd
    exact spec_skip z hz p who now (y :: B') _ A [] (by rw [hAB]; rfl) hneA (by simpa using hfd)
  · have hneB : ∀ x ∈ B, ¬ x.f0.toList = p.toList := by
      intro x hx h
      cases B with
      | nil => cases hx
      | cons y B' =>
        rcases List.mem_cons.1 hx with rfl | hx
        · exact hc ⟨_, _, rfl, h⟩
        · have h1 := (List.pairwise_cons.1 hpA.2.1).1 x hx
          unfold ltL at h1
          rw [h] at h1
          have h2 := hB y (List.mem_cons_self ..)
          unfold aheadL at h2
          rw [h1] at h2
          cases h2
    have hnf : ¬ (tk p z < z.length ∧ (z.getD (tk p z) z35).f0.toList = p.toList) := by
      rintro ⟨h1, h2⟩
      cases B with
      | nil => rw [htk, hAB] at h1; simp at h1
      | cons y B' =>
        have hg : z.getD (tk p z) z35 = y := by rw [htk, hAB, List.getD_eq_getElem?_getD, List.getElem?_append_right (Nat.le_refl _), Nat.sub_self]; rfl
        rw [hg] at h2
        exact hneB y (List.mem_cons_self ..) h2
    rw [if_neg hnf]
    have hall : ∀ x ∈ z, ¬ x.f0.toList = p.toList := by
      rw [hAB]
      intro x hx
      rcases List.mem_append.1 hx with hx | hx
      · exact hneA x hx
      · exact hneB x hx
    refine spec_skip z hz p who now [] _ z [] (by simp) hall (ev_step (fun k => spec_TakeLease.l0.eq_2 _ _ _ _ _ _ k) (ev_neg (by simp) ?_))
    have hlen : (A ++ (⟨p, who, now⟩ : ImLease) :: B).length = z.length + 1 := by rw [hAB]; simp; omega
    by_cases c8 : (z.length : Int) = 8
    · refine ev_pos c8 ?_
      have : ¬ leasesOk (A ++ (⟨p, who, now⟩ : ImLease) :: B) = true := by
        intro h
        have := ((leasesOk_iff _).1 h).1
        omega
      rw [if_neg this]
      exact ev_some _
    · refine ev_neg c8 ?_
      have hbB : ∀ x ∈ B, behindL p x = true := fun x hx => bl_tri _ _ (hB x hx) (hneB x hx)
      have hok2 : leasesOk (A ++ (⟨p, who, now⟩ : ImLease) :: B) = true := by
        refine (leasesOk_iff _).2 ⟨by omega, ?_, ?_⟩
        · intro x hx
          rcases List.mem_append.1 hx with hx | hx
          · exact hok x (by rw [hAB]; exact List.mem_append_left _ hx)
          · rcases List.mem_cons.1 hx with rfl | hx
            · exact hnew
            · exact hok x (by rw [hAB]; exact List.mem_append_right _ hx)
        · refine List.pairwise_append.2 ⟨hpA.1, List.pairwise_cons.2 ⟨fun b hb => hbB b hb, hpA.2.1⟩, fun a ha b hb => ?_⟩
          rcases List.mem_cons.1 hb with rfl | hb
          · exact hA a ha
          · exact hpA.2.2 a ha b hb
      rw [if_pos hok2]
      have f1 : z.filter (aheadL p) = A := by
        rw [hAB, List.filter_append, List.filter_eq_self.2 hA, List.filter_eq_nil_iff.2 (fun x hx => by rw [hB x hx]; decide), List.append_nil]
      have f2 : z.filter (behindL p) = B := by
        rw [hAB, List.filter_append, List.filter_eq_self.2 hbB, List.filter_eq_nil_iff.2 (fun x hx h => by
          have := bl_trans _ _ _ (hA x hx) h
          rw [bl_irr] at this
          cases this), List.nil_append]
      refine spec_l1 z hz p who now _ z [] [] rfl (Nat.le_refl _) ?_
      have h2 := spec_l2 z hz p (z.length + 1) (by omega) z [] ([] ++ z.filter (aheadL p) ++ [(⟨p, who, now⟩ : ImLease)]) rfl (by rw [f1, List.nil_append]; have : A.length ≤ z.length := (by rw [hAB]; simp); simp; omega)
      refine ev_eq h2 ?_
      rw [f1, f2]
      simp
end Go.Proofs.YtdacjpebgklneaaDoor.Pu

namespace Go.Proofs.YtdacjpebgklneaaDoor.Pu
open Go.RowKit Go.Proofs.YtdacjpebgklneaaDoorW.PrintWords Go.Proofs.YtdacjpebgklneaaDoor.Pr Go.Proofs.YtdacjpebgklneaaDoor.Evs Go.Proofs.YtdacjpebgklneaaDoor.Lw
set_option linter.unusedVariables false
set_option linter.unusedSimpArgs false
theorem cutAt (z : List ImLease) (hL : leasesOk z = true) (p : ByteArray) : ∃ A B, z = A ++ B ∧ tk p z = A.length ∧ (∀ x ∈ A, aheadL p x = true) ∧ (∀ x ∈ B, aheadL p x = false) := by
  obtain ⟨hz8, hok, hpw⟩ := (leasesOk_iff z).1 hL
  refine ⟨z.takeWhile (aheadL p), z.dropWhile (aheadL p), List.takeWhile_append_dropWhile.symm, rfl, fun x hx => ?_, ?_⟩
  · exact List.all_eq_true.1 List.all_takeWhile x hx
  · have hs : (z.dropWhile (aheadL p)).Pairwise ltL := hpw.sublist (List.dropWhile_sublist _)
    intro x hx
    cases hd : z.dropWhile (aheadL p) with
    | nil => rw [hd] at hx; cases hx
    | cons y t =>
      rw [hd] at hx hs
      have hy : aheadL p y = false := by
        have := List.head_dropWhile_not (aheadL p) (l := z) (by rw [hd]; simp)
        simp only [hd, List.head_cons] at this
        exact this
      rcases List.mem_cons.1 hx with rfl | hx
      · exact hy
      · have hyx := (List.pairwise_cons.1 hs).1 x hx
        cases hxp : aheadL p x with
        | false => rfl
        | true =>
          have : aheadL p y = true := bl_trans _ _ _ hyx hxp
          rw [hy] at this
          cases this
theorem ok_swap {A B : List ImLease} {y v : ImLease} (h : leasesOk (A ++ y :: B) = true) (hf : v.f0 = y.f0) (hv : leaseOk v = true) : leasesOk (A ++ v :: B) = true := by
  obtain ⟨h8, hok, hpw⟩ := (leasesOk_iff _).1 h
  have hp := List.pairwise_append.1 hpw
  have hyB := List.pairwise_cons.1 hp.2.1
  refine (leasesOk_iff _).2 ⟨by simpa using h8, ?_, List.pairwise_append.2 ⟨hp.1, List.pairwise_cons.2 ⟨fun b hb => ?_, hyB.2⟩, fun a ha b hb => ?_⟩⟩
  · intro x hx
    rcases List.mem_append.1 hx with hx | hx
    · exact hok x (List.mem_append_left _ hx)
    · rcases List.mem_cons.1 hx with rfl | hx
      · exact hv
      · exact hok x (List.mem_append_right _ (List.mem_cons_of_mem _ hx))
  · have := hyB.1 b hb
    unfold ltL at this ⊢
    rw [hf]
    exact this
  · rcases List.mem_cons.1 hb with rfl | hb
    · have := hp.2.2 a ha y (List.mem_cons_self ..)
      unfold ltL at this ⊢
      rw [hf]
      exact this
    · exact hp.2.2 a ha b (List.mem_cons_of_mem _ hb)
theorem take_new (z : List ImLease) (hL : leasesOk z = true) (h7 : z.length ≤ 7) (p : ByteArray) (who now : Int) (hn : leaseOk ⟨p, who, now⟩ = true) (hne : ∀ x ∈ z, ¬ x.f0.toList = p.toList) :
    ∃ A B, z = A ++ B ∧ takeL z35 z p who now = (A ++ (⟨p, who, now⟩ : ImLease) :: B, true) ∧ leasesOk (A ++ (⟨p, who, now⟩ : ImLease) :: B) = true := by
  obtain ⟨A, B, hAB, htk, hA, hB⟩ := cutAt z hL p
  obtain ⟨hz8, hok, hpw⟩ := (leasesOk_iff z).1 hL
  have hpA : A.Pairwise ltL ∧ B.Pairwise ltL ∧ ∀ a ∈ A, ∀ b ∈ B, ltL a b := by
    rw [hAB] at hpw
    exact List.pairwise_append.1 hpw
  have hlen : (A ++ (⟨p, who, now⟩ : ImLease) :: B).length = z.length + 1 := by rw [hAB]; simp; omega
  have hok2 : leasesOk (A ++ (⟨p, who, now⟩ : ImLease) :: B) = true := by
    refine (leasesOk_iff _).2 ⟨by omega, ?_, ?_⟩
    · intro x hx
      rcases List.mem_append.1 hx with hx | hx
      · exact hok x (by rw [hAB]; exact List.mem_append_left _ hx)
      · rcases List.mem_cons.1 hx with rfl | hx
        · exact hn
        · exact hok x (by rw [hAB]; exact List.mem_append_right _ hx)
    · refine List.pairwise_append.2 ⟨hpA.1, List.pairwise_cons.2 ⟨fun b hb => bl_tri _ _ (hB b hb) (hne b (by rw [hAB]; exact List.mem_append_right _ hb)), hpA.2.1⟩, fun a ha b hb => ?_⟩
      rcases List.mem_cons.1 hb with rfl | hb
      · exact hA a ha
      · exact hpA.2.2 a ha b hb
  have hnf : ¬ (tk p z < z.length ∧ (z.getD (tk p z) z35).f0.toList = p.toList) := by
    rintro ⟨h1, h2⟩
    rw [List.getD_eq_getElem?_getD, List.getElem?_eq_getElem h1] at h2
    exact hne _ (List.getElem_mem h1) h2
  refine ⟨A, B, hAB, ?_, hok2⟩
  rw [takeL, if_pos hL, if_neg hnf]
  have etake : z.take (tk p z) = A := by rw [htk, hAB]; exact List.take_left
  have edrop : z.drop (tk p z) = B := by rw [htk, hAB]; exact List.drop_left
  rw [etake, edrop, if_pos hok2]
theorem take_there (A B : List ImLease) (y : ImLease) (hL : leasesOk (A ++ y :: B) = true) (who now : Int) (hn : leaseOk ⟨y.f0, who, now⟩ = true) :
    takeL z35 (A ++ y :: B) y.f0 who now = if ¬ y.f1 = who ∧ now < y.f2 + 5 then (A ++ y :: B, false) else (A ++ (⟨y.f0, who, now⟩ : ImLease) :: B, true) := by
  have hpw := ((leasesOk_iff _).1 hL).2.2
  have hp := List.pairwise_append.1 hpw
  have hlt : A.length < (A ++ y :: B).length := by simp
  have hg : (A ++ y :: B).getD A.length z35 = y := by rw [List.getD_eq_getElem?_getD, List.getElem?_append_right (Nat.le_refl _), Nat.sub_self]; rfl
  have htk : A.length = tk y.f0 (A ++ y :: B) := by
    refine tk_eq y.f0 z35 _ _ (by omega) (fun q hq => ?_) (fun _ => ?_)
    · rw [List.getD_eq_getElem?_getD, List.getElem?_append_left hq, List.getElem?_eq_getElem hq]
      exact hp.2.2 _ (List.getElem_mem hq) y (List.mem_cons_self ..)
    · rw [hg]
      exact bl_irr _
  rw [takeL, if_pos hL, ← htk, if_pos ⟨hlt, by rw [hg]⟩, hg, set_mid, if_pos (ok_swap (v := ⟨y.f0, who, now⟩) hL rfl hn)]
theorem take_keeps (Q : ImLease → Prop) (z : List ImLease) (hL : leasesOk z = true) (p : ByteArray) (who now : Int) (hQ : ∀ x ∈ z, Q x) (hn : Q ⟨p, who, now⟩) : leasesOk (takeL z35 z p who now).1 = true ∧ ∀ x ∈ (takeL z35 z p who now).1, Q x := by
  rw [takeL, if_pos hL]
  split
  · split
    · exact ⟨hL, hQ⟩
    · split
      · rename_i h
        refine ⟨h, fun x hx => ?_⟩
        rcases List.mem_or_eq_of_mem_set hx with hx | rfl
        · exact hQ x hx
        · exact hn
      · exact ⟨hL, hQ⟩
  · split
    · rename_i h
      refine ⟨h, fun x hx => ?_⟩
      rcases List.mem_append.1 hx with hx | hx
      · exact hQ x (List.mem_of_mem_take hx)
      · rcases List.mem_cons.1 hx with rfl | hx
        · exact hn
        · exact hQ x (List.mem_of_mem_drop hx)
    · exact ⟨hL, hQ⟩
theorem impl_TakeLease_eq (l : List ImLease) (p : ByteArray) (who now : Int) (hl : leasesOk l = true) (hp : p.size ≤ 1048576) (hb : ∀ x ∈ l, x.f0.size ≤ 1048576) : impl_TakeLease.f l p who now = some (takeL z35 l p who now) := by
  unfold impl_TakeLease.f
  rw [if_pos ⟨Nat.le_trans ((leasesOk_iff l).1 hl).1 (by decide), hp, hb⟩]
def holder (p : ByteArray) : List ImLease → Int
  | [] => 0
  | x :: s => if x.f0.toList = p.toList then x.f1 else holder p s
theorem holder_loop (p : ByteArray) (l : List ImLease) (hl : l.length ≤ 1000) (s : List ImLease) : ∀ pre, pre ++ s = l → Ev (fun k => impl_HolderOf.l0 k p l (l.length : Int) (pre.length : Int)) (holder p s) := by
  induction s with
  | nil =>
    intro pre he
    rw [List.append_nil] at he
    subst he
    exact ev_step (fun k => impl_HolderOf.l0.eq_2 _ _ _ _ k) (ev_neg (by omega) (ev_some _))
  | cons x s ih =>
    intro pre he
    have hz : l.length = pre.length + (s.length + 1) := by rw [← he, List.length_append, List.length_cons]
    have er : rd_T35 l (pre.length : Int) = x := by rw [← he]; exact rd35 pre s x
    have e : wrap64 ((pre.length : Int) + 1) = ((pre ++ [x]).length : Int) := by rw [List.length_append, List.length_singleton, wrap_in (by omega) (by omega)]; rfl
    refine ev_step (fun k => impl_HolderOf.l0.eq_2 _ _ _ _ k) (ev_pos (by omega) (ev_pos (by omega) (ev_pos (by omega) ?_)))
    simp only [er, e, holder]
    by_cases c : x.f0.toList = p.toList
    · rw [if_pos c]
      exact ev_pos c (ev_some _)
    · rw [if_neg c]
      exact ev_neg c (ih (pre ++ [x]) (by rw [← he, List.append_assoc]; rfl))
theorem holder_ev (p : ByteArray) (l : List ImLease) (hl : l.length ≤ 1000) : Ev (fun k => impl_HolderOf.f k l p) (holder p l) := by
  unfold impl_HolderOf.f
  exact holder_loop p l hl l [] rfl
theorem holder_of (p : ByteArray) (A B : List ImLease) (y : ImLease) (hA : ∀ x ∈ A, ¬ x.f0.toList = p.toList) (hy : y.f0.toList = p.toList) : holder p (A ++ y :: B) = y.f1 := by
  induction A with
  | nil => exact if_pos hy
  | cons a A ih =>
    show (if a.f0.toList = p.toList then a.f1 else holder p (A ++ y :: B)) = y.f1
    rw [if_neg (hA a (List.mem_cons_self ..))]
    exact ih (fun x hx => hA x (List.mem_cons_of_mem _ hx))
theorem holder_none (p : ByteArray) (A : List ImLease) (hA : ∀ x ∈ A, ¬ x.f0.toList = p.toList) : holder p A = 0 := by
  induction A with
  | nil => rfl
  | cons a A ih =>
    show (if a.f0.toList = p.toList then a.f1 else holder p A) = 0
    rw [if_neg (hA a (List.mem_cons_self ..))]
    exact ih (fun x hx => hA x (List.mem_cons_of_mem _ hx))
theorem ltL_ne {a b : ImLease} (h : ltL a b) : ¬ a.f0.toList = b.f0.toList := by
  intro e
  unfold ltL at h
  rw [e, bl_irr] at h
  cases h
theorem holder_self (l : List ImLease) (hL : leasesOk l = true) (x : ImLease) (hx : x ∈ l) : holder x.f0 l = x.f1 := by
  obtain ⟨A, B, rfl⟩ := List.append_of_mem hx
  have hp := List.pairwise_append.1 ((leasesOk_iff _).1 hL).2.2
  exact holder_of _ A B x (fun a ha => ltL_ne (hp.2.2 a ha x (List.mem_cons_self ..))) rfl
def renew (who now : Int) (x : ImLease) : ImLease := if x.f1 = who then ⟨x.f0, x.f1, now⟩ else x
theorem renew_loop (who now : Int) (l : List ImLease) (hl : l.length ≤ 1000) (s : List ImLease) : ∀ pre, pre ++ s = l → Ev (fun k => impl_RenewLeases.l0 k who now (pre.map (renew who now) ++ s) l (l.length : Int) (pre.length : Int)) (l.map (renew who now)) := by
  induction s with
  | nil =>
    intro pre he
    rw [List.append_nil] at he
    subst he
    rw [List.append_nil]
    exact ev_step (fun k => impl_RenewLeases.l0.eq_2 _ _ _ _ _ _ k) (ev_neg (by omega) (ev_some _))
  | cons x s ih =>
    intro pre he
    have hz : l.length = pre.length + (s.length + 1) := by rw [← he, List.length_append, List.length_cons]
    have hm : (pre.map (renew who now)).length = pre.length := List.length_map _
    have er : rd_T35 l (pre.length : Int) = x := by rw [← he]; exact rd35 pre s x
    have er2 : rd_T35 (pre.map (renew who now) ++ x :: s) (pre.length : Int) = x := by rw [← hm]; exact rd35 _ s x
    have e : wrap64 ((pre.length : Int) + 1) = ((pre ++ [x]).length : Int) := by rw [List.length_append, List.length_singleton, wrap_in (by omega) (by omega)]; rfl
    have h := ih (pre ++ [x]) (by rw [← he, List.append_assoc]; rfl)
    have e3 : (pre ++ [x]).map (renew who now) ++ s = pre.map (renew who now) ++ renew who now x :: s := by simp
    rw [e3] at h
    refine ev_step (fun k => impl_RenewLeases.l0.eq_2 _ _ _ _ _ _ k) (ev_pos (by omega) (ev_pos (by omega) (ev_pos (by omega) ?_)))
    simp only [er, er2, e]
    by_cases c : x.f1 = who
    · refine ev_pos c (ev_pos (by simp; omega) ?_)
      have es : (pre.map (renew who now) ++ x :: s).set ((pre.length : Int)).toNat (⟨x.f0, x.f1, now⟩ : ImLease) = pre.map (renew who now) ++ renew who now x :: s := by
        rw [Int.toNat_natCast, ← hm, set_mid, renew, if_pos c]
      rw [es]
      exact h
    · refine ev_neg c ?_
      rw [renew, if_neg c] at h
      exact h
theorem renew_ev (who now : Int) (l : List ImLease) (hl : l.length ≤ 1000) : Ev (fun k => impl_RenewLeases.f k l who now) (l.map (renew who now)) := by
  have hcp : impl_copyLeases.f l = some l := by unfold impl_copyLeases.f; rw [if_pos (by simp; omega), List.nil_append]
  unfold impl_RenewLeases.f
  exact ev_call hcp (renew_loop who now l hl l [] rfl)
theorem drop_eq (l : List ImLease) (p : ByteArray) (hl : l.length ≤ 1000) : impl_DropLease.f l p = some (l.filter fun x => !leaseAt p x) := by
  unfold impl_DropLease.f impl_copyLeases.f
  rw [if_pos (by simp; omega)]
  rfl
end Go.Proofs.YtdacjpebgklneaaDoor.Pu

namespace Go.Proofs.YtdacjpebgklneaaDoor.Pu
open Go.RowKit Go.Proofs.YtdacjpebgklneaaDoorW.PrintWords Go.Proofs.YtdacjpebgklneaaDoor.Pr Go.Proofs.YtdacjpebgklneaaDoor.Evs Go.Proofs.YtdacjpebgklneaaDoor.Lw
set_option linter.unusedVariables false
def abc (x : UInt8) : Prop := x = 97 ∨ x = 98 ∨ x = 99
def letter (s : ByteArray) : Prop := s.data.size = 1 ∧ ∃ x, abc x ∧ s.data.toList = [x]
theorem cur_pick (b : List Int) (hb : b.length ≤ 1048576) (i h : Int) (hi : inB b i) : ∃ s i' h', spec_l01Pick.f b i h [(⟨#[97]⟩ : ByteArray), (⟨#[98]⟩ : ByteArray), (⟨#[99]⟩ : ByteArray)] = some (s, i', h') ∧ letter s ∧ inB b i' := by
  obtain ⟨x, i', h', e, hx, hi'⟩ := cur_below b hb i h 3 hi (by decide) (by decide)
  unfold spec_l01Pick.f
  have e' : spec_l01Below.f b i h (([(⟨#[97]⟩ : ByteArray), (⟨#[98]⟩ : ByteArray), (⟨#[99]⟩ : ByteArray)] : List ByteArray).length : Int) = some (x, i', h') := e
  have hx2 : x < (([(⟨#[97]⟩ : ByteArray), (⟨#[98]⟩ : ByteArray), (⟨#[99]⟩ : ByteArray)] : List ByteArray).length : Int) := hx.2
  rw [e', Option.bind_some, if_pos hx.1, if_pos hx2]
  refine ⟨_, _, _, rfl, ?_, hi'⟩
  have : x = 0 ∨ x = 1 ∨ x = 2 := by omega
  rcases this with rfl | rfl | rfl
  · exact ⟨rfl, 97, .inl rfl, rfl⟩
  · exact ⟨rfl, 98, .inr (.inl rfl), rfl⟩
  · exact ⟨rfl, 99, .inr (.inr rfl), rfl⟩
def pathAt (i : Nat) (s : ByteArray) : Prop := s.data.toList.length = 2 * i ∧ (i = 0 ∨ ∃ x t, abc x ∧ s.data.toList = 47 :: x :: t)
theorem size_toList (s : ByteArray) : s.size = s.data.toList.length := rfl
theorem pathAt_next {i : Nat} {s x : ByteArray} (hs : pathAt i s) (hx : letter x) : pathAt (i + 1) ((s ++ (⟨#[47]⟩ : ByteArray)) ++ x) := by
  obtain ⟨_, y, hy, ex⟩ := hx
  have e : ((s ++ (⟨#[47]⟩ : ByteArray)) ++ x).data.toList = s.data.toList ++ [47, y] := by
    rw [ByteArray.data_append, ByteArray.data_append, Array.toList_append, Array.toList_append, ex, List.append_assoc]
    rfl
  refine ⟨by rw [e, List.length_append, hs.1]; simp; omega, .inr ?_⟩
  rw [e]
  rcases hs.2 with rfl | ⟨z, t, hz, ez⟩
  · have : s.data.toList = [] := List.eq_nil_of_length_eq_zero hs.1
    rw [this]
    exact ⟨y, [], hy, rfl⟩
  · rw [ez]
    exact ⟨z, t ++ [47, y], hz, rfl⟩
theorem path_loop (b : List Int) (hb : b.length ≤ 1048576) (d : Nat) : ∀ (i : Nat) (s : ByteArray) (ci ch : Int), i + d = 3 → pathAt i s → inB b ci →
    ∃ r ci' ch' m, Ev (fun k => spec_l09Path.l0 k s (i : Int) b ci ch) (r, ci', ch') ∧ pathAt m r ∧ m ≤ 3 ∧ i ≤ m ∧ (i = 0 → 0 < m) ∧ inB b ci' := by
  induction d with
  | zero =>
    intro i s ci ch hd hs hi
    obtain ⟨x, i1, h1, e, hx, hi1⟩ := cur_below b hb ci ch 3 hi (by decide) (by decide)
    have hw : wrap64 (1 + x) = 1 + x := wrap_in (by omega) (by omega)
    exact ⟨s, i1, h1, i, ev_step (fun k => spec_l09Path.l0.eq_2 _ _ _ _ _ k) (ev_call e (ev_neg (by show ¬ (i : Int) < wrap64 (1 + x); rw [hw]; omega) (ev_some _))), hs, by omega, Nat.le_refl _, by omega, hi1⟩
  | succ d ih =>
    intro i s ci ch hd hs hi
    obtain ⟨x, i1, h1, e, hx, hi1⟩ := cur_below b hb ci ch 3 hi (by decide) (by decide)
    have hw : wrap64 (1 + x) = 1 + x := wrap_in (by omega) (by omega)
    by_cases c : (i : Int) < 1 + x
    · obtain ⟨y, i2, h2, e2, hy, hi2⟩ := cur_pick b hb i1 h1 hi1
      have hn := pathAt_next hs hy
      obtain ⟨r, ci', ch', m, hE, hr, hm, hm2, hm3, hb'⟩ := ih (i + 1) ((s ++ (⟨#[47]⟩ : ByteArray)) ++ y) i2 h2 (by omega) hn hi2
      have hw2 : wrap64 ((i : Int) + 1) = ((i + 1 : Nat) : Int) := by rw [wrap_in (by omega) (by omega)]; rfl
      have hs1 : s.size = 2 * i := hs.1
      have hs2 : ((s ++ (⟨#[47]⟩ : ByteArray)) ++ y).size = 2 * (i + 1) := hn.1
      rw [ByteArray.size_append] at hs2
      refine ⟨r, ci', ch', m, ev_step (fun k => spec_l09Path.l0.eq_2 _ _ _ _ _ k) (ev_call e (ev_pos (by show (i : Int) < wrap64 (1 + x); rw [hw]; exact c) (ev_pos (by omega) (ev_call e2 (ev_pos (by show (s ++ (⟨#[47]⟩ : ByteArray)).size + y.size ≤ 9223372036854775807; omega) ?_))))), hr, hm, by omega, by omega, hb'⟩
      rw [hw2]
      exact hE
    · exact ⟨s, i1, h1, i, ev_step (fun k => spec_l09Path.l0.eq_2 _ _ _ _ _ k) (ev_call e (ev_neg (by show ¬ (i : Int) < wrap64 (1 + x); rw [hw]; exact c) (ev_some _))), hs, by omega, Nat.le_refl _, by omega, hi1⟩
def drawnPath (s : ByteArray) : Prop := s.size ≤ 6 ∧ ∃ x t, abc x ∧ s.data.toList = 47 :: x :: t
theorem path_ev (b : List Int) (hb : b.length ≤ 1048576) (ci ch : Int) (hi : inB b ci) : ∃ r ci' ch', Ev (fun k => spec_l09Path.f k b ci ch) (r, ci', ch') ∧ drawnPath r ∧ inB b ci' := by
  obtain ⟨r, ci', ch', m, hE, hr, hm, _, hm2, hb'⟩ := path_loop b hb 3 0 (⟨#[]⟩ : ByteArray) ci ch rfl ⟨rfl, .inl rfl⟩ hi
  refine ⟨r, ci', ch', hE, ⟨by have := hr.1; rw [size_toList]; omega, ?_⟩, hb'⟩
  rcases hr.2 with h | h
  · exact absurd (hm2 rfl) (by omega)
  · exact h
def drawnLease (x : ImLease) : Prop := drawnPath x.f0 ∧ (1 ≤ x.f1 ∧ x.f1 ≤ 3) ∧ 0 ≤ x.f2 ∧ x.f2 ≤ 19
theorem leases_loop (b : List Int) (hb : b.length ≤ 1048576) (d : Nat) : ∀ (i : Nat) (z : List ImLease) (ci ch : Int), i + d = 6 → leasesOk z = true → z.length ≤ i → (∀ x ∈ z, drawnLease x) → inB b ci →
    ∃ r ci' ch', Ev (fun k => spec_l16Leases.l0 k z (i : Int) b ci ch) (r, ci', ch') ∧ leasesOk r = true ∧ r.length ≤ 6 ∧ (∀ x ∈ r, drawnLease x) := by
  induction d with
  | zero =>
    intro i z ci ch hd hL hz hQ hi
    obtain ⟨x, i1, h1, e, hx, hi1⟩ := cur_below b hb ci ch 7 hi (by decide) (by decide)
    exact ⟨z, i1, h1, ev_step (fun k => spec_l16Leases.l0.eq_2 _ _ _ _ _ k) (ev_call e (ev_neg (by show ¬ (i : Int) < x; omega) (ev_some _))), hL, by omega, hQ⟩
  | succ d ih =>
    intro i z ci ch hd hL hz hQ hi
    obtain ⟨x, i1, h1, e, hx, hi1⟩ := cur_below b hb ci ch 7 hi (by decide) (by decide)
    by_cases c : (i : Int) < x
    · obtain ⟨p, i2, h2, eP, hp, hi2⟩ := path_ev b hb i1 h1 hi1
      obtain ⟨u, i3, h3, e3, hu, hi3⟩ := cur_below b hb i2 h2 3 hi2 (by decide) (by decide)
      obtain ⟨v, i4, h4, e4, hv, hi4⟩ := cur_below b hb i3 h3 20 hi3 (by decide) (by decide)
      have hw : wrap64 (1 + u) = 1 + u := wrap_in (by omega) (by omega)
      have hw2 : wrap64 ((i : Int) + 1) = ((i + 1 : Nat) : Int) := by rw [wrap_in (by omega) (by omega)]; rfl
      have hT := spec_TakeLease_ev z p (1 + u) v (by omega) (fun x hx => Nat.le_trans (hQ x hx).1.1 (by decide)) (Nat.le_trans hp.1 (by decide))
      have hk := take_keeps drawnLease z hL p (1 + u) v hQ ⟨hp, ⟨by show 1 ≤ 1 + u; omega, by show 1 + u ≤ 3; omega⟩, hv.1, by show v ≤ 19; omega⟩
      have hl := takeL_len z p (1 + u) v
      obtain ⟨r, ci', ch', hE, h⟩ := ih (i + 1) (takeL z35 z p (1 + u) v).1 i4 h4 (by omega) hk.1 (by omega) hk.2 hi4
      refine ⟨r, ci', ch', ev_step (fun k => spec_l16Leases.l0.eq_2 _ _ _ _ _ k) (ev_call e (ev_pos c (ev_bind eP (ev_call e3 (ev_call e4 ?_))))), h⟩
      simp only [hw, hw2]
      exact ev_bind hT hE
    · exact ⟨z, i1, h1, ev_step (fun k => spec_l16Leases.l0.eq_2 _ _ _ _ _ k) (ev_call e (ev_neg c (ev_some _))), hL, by omega, hQ⟩
theorem draw_leases (b : List Int) (hb : b.length ≤ 1048576) : ∃ r, Ev (fun k => spec_DrawLeases.f k b) r ∧ leasesOk r = true ∧ r.length ≤ 6 ∧ (∀ x ∈ r, drawnLease x) := by
  obtain ⟨h', eN⟩ := cur_new b hb
  obtain ⟨r, ci', ch', hE, h⟩ := leases_loop b hb 6 0 [] 0 h' rfl rfl (Nat.le_refl _) (by intro x hx; cases hx) ⟨Int.le_refl _, by omega⟩
  exact ⟨r, ev_bind eN (ev_bind hE (ev_some _)), h⟩
theorem places_loop (b : List Int) (hb : b.length ≤ 1048576) (d : Nat) : ∀ (z : List Int) (ci ch : Int), z.length + d = 12 → (∀ x ∈ z, 0 ≤ x) → inB b ci →
    ∃ r, Ev (fun k => spec_DrawPlaces.l0 k z (z.length : Int) b ci ch) r ∧ r.length = 12 ∧ (∀ x ∈ r, 0 ≤ x) := by
  induction d with
  | zero => intro z ci ch hd hz hi; exact ⟨z, ev_step (fun k => spec_DrawPlaces.l0.eq_2 _ _ _ _ _ k) (ev_neg (by omega) (ev_some _)), hd, hz⟩
  | succ d ih =>
    intro z ci ch hd hz hi
    obtain ⟨x, i1, h1, e, hx, hi1⟩ := cur_wide b hb ci ch 10000 hi (by decide)
    obtain ⟨r, hE, h⟩ := ih (z ++ [x]) i1 h1 (by simp; omega) (by
      intro y hy
      rcases List.mem_append.1 hy with hy | hy
      · exact hz y hy
      · obtain rfl := List.mem_singleton.1 hy
        exact hx.1) hi1
    have hw : wrap64 ((z.length : Int) + 1) = ((z ++ [x]).length : Int) := by rw [wrap_in (by omega) (by omega), List.length_append]; rfl
    refine ⟨r, ev_step (fun k => spec_DrawPlaces.l0.eq_2 _ _ _ _ _ k) (ev_pos (by omega) (ev_call e (ev_pos (by omega) ?_))), h⟩
    simp only [hw]
    exact hE
theorem draw_places (b : List Int) (hb : b.length ≤ 1048576) : ∃ r, Ev (fun k => spec_DrawPlaces.f k b) r ∧ r.length = 12 ∧ (∀ x ∈ r, 0 ≤ x) := by
  obtain ⟨h', eN⟩ := cur_new b hb
  obtain ⟨x, i1, h1, e, hx, hi1⟩ := cur_byte b hb 0 h' ⟨Int.le_refl _, by omega⟩
  obtain ⟨r, hE, h⟩ := places_loop b hb 12 [] i1 h1 rfl (by intro y hy; cases hy) hi1
  exact ⟨r, ev_bind eN (ev_call e hE), h⟩
end Go.Proofs.YtdacjpebgklneaaDoor.Pu

namespace Go.Proofs.YtdacjpebgklneaaDoor.Pure
open Go.RowKit Go.Proofs.YtdacjpebgklneaaDoorW.PrintWords Go.Proofs.YtdacjpebgklneaaDoor.Pr Go.Proofs.YtdacjpebgklneaaDoor.Evs Go.Proofs.YtdacjpebgklneaaDoor.Lw Go.Proofs.YtdacjpebgklneaaDoor.Pu
set_option linter.unusedVariables false
set_option linter.unusedSimpArgs false
open Go.Proofs.YtdacjpebgklneaaDoor.SFnLeases
def oldL (now : Int) (x : ImLease) : Bool := decide (now - x.f2 ≥ 12)
def expiredL (now : Int) (s : List ImLease) : List ByteArray := (s.filter (oldL now)).map fun x => x.f0
theorem expiredL_cons (now : Int) (x : ImLease) (s : List ImLease) : expiredL now (x :: s) = if oldL now x = true then x.f0 :: expiredL now s else expiredL now s := by
  unfold expiredL
  cases c : oldL now x with
  | true => rw [List.filter_cons_of_pos c, if_pos rfl]; rfl
  | false => rw [List.filter_cons_of_neg (by rw [c]; decide), if_neg (by decide)]
theorem expiredL_len (now : Int) (s : List ImLease) : (expiredL now s).length ≤ s.length := by
  unfold expiredL
  rw [List.length_map]
  exact List.length_filter_le _ _
section
variable (now : Int) (hn0 : 30 ≤ now) (hn1 : now ≤ 49)
include hn0 hn1
theorem impl_expired (l : List ImLease) (hl : l.length ≤ 8) (s : List ImLease) : ∀ pre acc, pre ++ s = l → acc.length ≤ pre.length → (∀ x ∈ s, drawnLease x) → Ev (fun k => impl_Expired.l0 k now acc l (l.length : Int) (pre.length : Int)) (acc ++ expiredL now s) := by
  induction s with
  | nil =>
    intro pre acc he ha hQ
    rw [List.append_nil] at he
    subst he
    exact ev_step (fun k => impl_Expired.l0.eq_2 _ _ _ _ _ k) (ev_neg (by omega) (ev_eq (ev_some _) (by simp [expiredL])))
  | cons x s ih =>
    intro pre acc he ha hQ
    have hz : l.length = pre.length + (s.length + 1) := by rw [← he, List.length_append, List.length_cons]
    have er : rd_T35 l (pre.length : Int) = x := by rw [← he]; exact rd35 pre s x
    have e : wrap64 ((pre.length : Int) + 1) = ((pre ++ [x]).length : Int) := by rw [List.length_append, List.length_singleton, wrap_in (by omega) (by omega)]; rfl
    have hx := hQ x (List.mem_cons_self ..)
    have hx2 := hx.2.2
    have ew : wrap64 (now - x.f2) = now - x.f2 := wrap_in (by omega) (by omega)
    have i1 : impl_within.f x.f2 0 1000000000 = some true := by rw [impl_in, decide_eq_true ⟨by omega, by omega⟩]
    have i2 : impl_within.f now 0 1000000000 = some true := by rw [impl_in, decide_eq_true ⟨by omega, by omega⟩]
    refine ev_step (fun k => impl_Expired.l0.eq_2 _ _ _ _ _ k) (ev_pos (by omega) (ev_pos (by omega) (ev_pos (by omega) ?_)))
    simp only [er, e, ew]
    refine ev_call i1 (ev_pos rfl (ev_call i2 (ev_pos rfl ?_)))
    rw [expiredL_cons]
    by_cases c : now - x.f2 ≥ 12
    · have h := ih (pre ++ [x]) (acc ++ [x.f0]) (by rw [← he, List.append_assoc]; rfl) (by simp; omega) (fun y hy => hQ y (List.mem_cons_of_mem _ hy))
      rw [if_pos (show oldL now x = true from decide_eq_true c)]
      rw [List.append_assoc] at h
      exact ev_pos c (ev_pos (by omega) h)
    · rw [if_neg (c := oldL now x = true) (by rw [oldL, decide_eq_false c]; decide)]
      exact ev_neg c (ih (pre ++ [x]) acc (by rw [← he, List.append_assoc]; rfl) (by simp; omega) (fun y hy => hQ y (List.mem_cons_of_mem _ hy)))
theorem spec_expired (l : List ImLease) (hl : l.length ≤ 8) (s : List ImLease) : ∀ pre acc, pre ++ s = l → acc.length ≤ pre.length → (∀ x ∈ s, drawnLease x) → Ev (fun k => spec_Expired.l0 k l now acc (pre.length : Int)) (acc ++ expiredL now s) := by
  induction s with
  | nil =>
    intro pre acc he ha hQ
    rw [List.append_nil] at he
    subst he
    exact ev_step (fun k => spec_Expired.l0.eq_2 _ _ _ _ k) (ev_neg (by omega) (ev_eq (ev_some _) (by simp [expiredL])))
  | cons x s ih =>
    intro pre acc he ha hQ
    have hz : l.length = pre.length + (s.length + 1) := by rw [← he, List.length_append, List.length_cons]
    have er : rd_T35 l (pre.length : Int) = x := by rw [← he]; exact rd35 pre s x
    have e : wrap64 ((pre.length : Int) + 1) = ((pre ++ [x]).length : Int) := by rw [List.length_append, List.length_singleton, wrap_in (by omega) (by omega)]; rfl
    have hx := hQ x (List.mem_cons_self ..)
    have hx2 := hx.2.2
    have ew : wrap64 (now - x.f2) = now - x.f2 := wrap_in (by omega) (by omega)
    have i1 : spec_l01In.f x.f2 0 1000000000 = some true := by rw [spec_in, decide_eq_true ⟨by omega, by omega⟩]
    have i2 : spec_l01In.f now 0 1000000000 = some true := by rw [spec_in, decide_eq_true ⟨by omega, by omega⟩]
    refine ev_step (fun k => spec_Expired.l0.eq_2 _ _ _ _ k) (ev_pos (by omega) (ev_pos (by omega) ?_))
    simp only [er, e, ew]
    refine ev_call i1 (ev_pos rfl (ev_call i2 (ev_pos rfl ?_)))
    rw [expiredL_cons]
    by_cases c : now - x.f2 ≥ 12
    · have h := ih (pre ++ [x]) (acc ++ [x.f0]) (by rw [← he, List.append_assoc]; rfl) (by simp; omega) (fun y hy => hQ y (List.mem_cons_of_mem _ hy))
      rw [if_pos (show oldL now x = true from decide_eq_true c)]
      rw [List.append_assoc] at h
      exact ev_pos c (ev_pos (by omega) h)
    · rw [if_neg (c := oldL now x = true) (by rw [oldL, decide_eq_false c]; decide)]
      exact ev_neg c (ih (pre ++ [x]) acc (by rw [← he, List.append_assoc]; rfl) (by simp; omega) (fun y hy => hQ y (List.mem_cons_of_mem _ hy)))
theorem law_loop (l a b : List ImLease) (P : ByteArray) (hl : l.length ≤ 6) (hL : leasesOk l = true) (hA : leasesOk a = true) (hB : leasesOk b = true) (hla : a.length ≤ 8) (hlb : b.length ≤ 8) (sl : ∀ x ∈ l, bdLease x) (sa : ∀ x ∈ a, bdLease x) (sb : ∀ x ∈ b, bdLease x)
    (hQ : ∀ x ∈ l, drawnLease x) (hin : ∀ x ∈ l, holder x.f0 a = x.f1) (h4 : holder P a = 4) (h5 : holder P b = 5) (h0 : holder P l = 0) (hP : P = (⟨#[47, 108, 101, 97, 115, 101]⟩ : ByteArray))
    (hT : Ev (fun k => laws_sameTexts.f k (expiredL now l) (expiredL now l)) true) (s : List ImLease) : ∀ (pre : List ImLease) (n : Nat), pre ++ s = l → n + (expiredL now s).length = (expiredL now l).length →
    Ev (fun k => laws_FnLeases.l0 k l now a true false b true false l (expiredL now l) (n : Int) (pre.length : Int)) true := by
  have ho := expiredL_len now l
  induction s with
  | nil =>
    intro pre n he hc
    rw [List.append_nil] at he
    subst he
    have hc : n = (expiredL now pre).length := hc
    have e1 := holder_ev P a (by omega)
    have e2 := holder_ev P b (by omega)
    have e3 := holder_ev P pre (by omega)
    rw [h4] at e1
    rw [h5] at e2
    rw [h0] at e3
    rw [hP] at e1 e2 e3
    have k1 := impl_LeasesOk_ev pre (by omega) sl
    have k2 := impl_LeasesOk_ev a (by omega) sa
    have k3 := impl_LeasesOk_ev b (by omega) sb
    rw [hL] at k1
    rw [hA] at k2
    rw [hB] at k3
    have hx := spec_expired now hn0 hn1 pre (by omega) pre [] [] rfl (Nat.le_refl _) hQ
    refine ev_step (fun k => laws_FnLeases.l0.eq_2 _ _ _ _ _ _ _ _ _ _ _ _ k) (ev_neg (by omega) (ev_pos rfl (ev_neg (by decide) (ev_pos rfl (ev_neg (by decide) (ev_bind k1 (ev_pos rfl (ev_bind k2 (ev_pos rfl (ev_bind k3 (ev_pos rfl (ev_bind e1 (ev_pos rfl (ev_bind e2 (ev_pos rfl (ev_bind e3 (ev_pos rfl (ev_pos rfl (ev_pos (by omega) ?_)))))))))))))))))))
    exact ev_bind hx (ev_bind hT (ev_some _))
  | cons x s ih =>
    intro pre n he hc
    have hz : l.length = pre.length + (s.length + 1) := by rw [← he, List.length_append, List.length_cons]
    have er : rd_T35 l (pre.length : Int) = x := by rw [← he]; exact rd35 pre s x
    have e : wrap64 ((pre.length : Int) + 1) = ((pre ++ [x]).length : Int) := by rw [List.length_append, List.length_singleton, wrap_in (by omega) (by omega)]; rfl
    have hxl : x ∈ l := by rw [← he]; exact List.mem_append_right _ (List.mem_cons_self ..)
    have hx2 := (hQ x hxl).2.2
    have ew : wrap64 (now - x.f2) = now - x.f2 := wrap_in (by omega) (by omega)
    have e1 := holder_ev x.f0 a (by omega)
    rw [hin x hxl] at e1
    refine ev_step (fun k => laws_FnLeases.l0.eq_2 _ _ _ _ _ _ _ _ _ _ _ _ k) (ev_pos (by omega) (ev_pos (by omega) ?_))
    simp only [er, e, ew]
    rw [expiredL_cons] at hc
    by_cases c : now - x.f2 ≥ 12
    · rw [if_pos (show oldL now x = true from decide_eq_true c)] at hc
      simp at hc
      have en : wrap64 ((n : Int) + 1) = ((n + 1 : Nat) : Int) := by rw [wrap_in (by omega) (by omega)]; rfl
      refine ev_pos c (ev_bind e1 (ev_pos rfl ?_))
      rw [en]
      exact ih (pre ++ [x]) (n + 1) (by rw [← he, List.append_assoc]; rfl) (by omega)
    · rw [if_neg (c := oldL now x = true) (by rw [oldL, decide_eq_false c]; decide)] at hc
      exact ev_neg c (ev_bind e1 (ev_pos rfl (ih (pre ++ [x]) n (by rw [← he, List.append_assoc]; rfl) hc)))
end
theorem same_loop (l : List ByteArray) (hl : l.length ≤ 1000) (d : Nat) : ∀ i : Nat, i + d = l.length → Ev (fun k => laws_sameTexts.l0 k l l (i : Int)) true := by
  induction d with
  | zero => intro i hi; exact ev_step (fun k => laws_sameTexts.l0.eq_2 _ _ _ k) (ev_neg (by omega) (ev_some _))
  | succ d ih =>
    intro i hi
    have h := ih (i + 1) (by omega)
    have e : wrap64 ((i : Int) + 1) = ((i + 1 : Nat) : Int) := by rw [wrap_in (by omega) (by omega)]; rfl
    refine ev_step (fun k => laws_sameTexts.l0.eq_2 _ _ _ k) (ev_pos (by omega) (ev_pos (by omega) (ev_pos (by omega) (ev_pos rfl ?_))))
    rw [e]
    exact h
theorem same_ev (l : List ByteArray) (hl : l.length ≤ 1000) : Ev (fun k => laws_sameTexts.f k l l) true := by
  unfold laws_sameTexts.f
  exact ev_pos rfl (same_loop l hl l.length 0 (by omega))
theorem law_Leases (l : List Int) : Ev (fun k => laws_FnLeases.f k l) true := by
  unfold laws_FnLeases.f
  by_cases cb : (l.length : Int) > 1048576
  · exact ev_call (a := true) (by unfold laws_big.f; rw [decide_eq_true cb]) (ev_pos rfl (ev_some _))
  refine ev_call (a := false) (by unfold laws_big.f; rw [decide_eq_false cb]) (ev_neg (by decide) ?_)
  obtain ⟨L, hD, hL, h6, hQ⟩ := draw_leases l (by omega)
  obtain ⟨t, hE, ht, hp⟩ := draw_places l (by omega)
  refine ev_bind hD (ev_bind hE (ev_pos (by omega) ?_))
  have hp0 : 0 ≤ rd t 0 := by
    unfold rd
    cases t with
    | nil => cases ht
    | cons y s => exact hp y (List.mem_cons_self ..)
  obtain ⟨now, hnow, n0, n1⟩ : ∃ now, wrap64 (30 + (Int.tmod (rd t 0) 20)) = now ∧ 30 ≤ now ∧ now ≤ 49 := by
    have h1 := Int.tmod_nonneg 20 hp0
    have h2 := Int.tmod_lt_of_pos (rd t 0) (show (0 : Int) < 20 by decide)
    exact ⟨_, rfl, by rw [wrap_in (by omega) (by omega)]; omega, by rw [wrap_in (by omega) (by omega)]; omega⟩
  have hw5 : wrap64 (now + 5) = now + 5 := wrap_in (by omega) (by omega)
  have hw4 : wrap64 (now + 5 - 1) = now + 5 - 1 := wrap_in (by omega) (by omega)
  simp only [hnow, hw5, hw4]
  obtain ⟨P, hP⟩ : ∃ P, P = (⟨#[47, 108, 101, 97, 115, 101]⟩ : ByteArray) := ⟨_, rfl⟩
  have hPs : P.size ≤ 1048576 := by rw [hP]; decide
  have hPn : isNamed P.data.toList = true := by rw [hP]; decide
  have hne : ∀ x ∈ L, ¬ x.f0.toList = P.toList := by
    intro x hx h
    obtain ⟨y, r, hy, e⟩ := (hQ x hx).1.2
    rw [ByteArray.toList_eq, ByteArray.toList_eq, e, hP] at h
    injection h with _ h
    injection h with h _
    rcases hy with rfl | rfl | rfl <;> exact absurd h (by decide)
  have hsz : ∀ x ∈ L, bdLease x := fun x hx => Nat.le_trans (hQ x hx).1.1 (by decide)
  have lok : ∀ who u : Int, 1 ≤ who → who ≤ 9 → 0 ≤ u → u ≤ 1000 → leaseOk ⟨P, who, u⟩ = true := by
    intro who u a1 a2 a3 a4
    unfold leaseOk
    rw [hPn, decide_eq_true ⟨a1, a2⟩, decide_eq_true (show 0 ≤ u ∧ u ≤ 1000000000 by omega)]
    rfl
  obtain ⟨A, B, hAB, hA, okA⟩ := take_new L hL (by omega) P 4 now (lok 4 now (by decide) (by decide) (by omega) (by omega)) hne
  have hmem : ∀ x, x ∈ A ∨ x ∈ B → x ∈ L := by
    intro x hx
    rw [hAB]
    exact List.mem_append.2 hx
  have hAP : ∀ x ∈ A, ¬ x.f0.toList = P.toList := fun x hx => hne x (hmem x (.inl hx))
  have okB : leasesOk (A ++ (⟨P, 5, now + 5⟩ : ImLease) :: B) = true := ok_swap okA rfl (lok 5 (now + 5) (by decide) (by decide) (by omega) (by omega))
  have okC : leasesOk (A ++ (⟨P, 4, now + 5⟩ : ImLease) :: B) = true := ok_swap okA rfl (lok 4 (now + 5) (by decide) (by decide) (by omega) (by omega))
  have bd : ∀ who u : Int, ∀ x ∈ A ++ (⟨P, who, u⟩ : ImLease) :: B, bdLease x := by
    intro who u x hx
    rcases List.mem_append.1 hx with hx | hx
    · exact hsz x (hmem x (.inl hx))
    · rcases List.mem_cons.1 hx with rfl | hx
      · exact hPs
      · exact hsz x (hmem x (.inr hx))
  have s1 : impl_TakeLease.f L P 4 now = some (A ++ (⟨P, 4, now⟩ : ImLease) :: B, true) := by rw [impl_TakeLease_eq L P 4 now hL hPs hsz, hA]
  have s2 : impl_TakeLease.f (A ++ (⟨P, 4, now⟩ : ImLease) :: B) P 5 (now + 5 - 1) = some (A ++ (⟨P, 4, now⟩ : ImLease) :: B, false) := by
    rw [impl_TakeLease_eq _ P 5 _ okA hPs (bd 4 now)]
    have h := take_there A B ⟨P, 4, now⟩ okA 5 (now + 5 - 1) (lok 5 _ (by decide) (by decide) (by omega) (by omega))
    rw [if_pos ⟨(by decide : ¬ (4 : Int) = 5), by show now + 5 - 1 < now + 5; omega⟩] at h
    exact congrArg some h
  have s3 : impl_TakeLease.f (A ++ (⟨P, 4, now⟩ : ImLease) :: B) P 5 (now + 5) = some (A ++ (⟨P, 5, now + 5⟩ : ImLease) :: B, true) := by
    rw [impl_TakeLease_eq _ P 5 _ okA hPs (bd 4 now)]
    have h := take_there A B ⟨P, 4, now⟩ okA 5 (now + 5) (lok 5 _ (by decide) (by decide) (by omega) (by omega))
    rw [if_neg (fun h => by have : now + 5 < now + 5 := h.2; omega)] at h
    exact congrArg some h
  have s4 : Ev (fun k => impl_RenewLeases.f k (A ++ (⟨P, 4, now⟩ : ImLease) :: B) 4 (now + 5)) (A ++ (⟨P, 4, now + 5⟩ : ImLease) :: B) := by
    have h := renew_ev 4 (now + 5) (A ++ (⟨P, 4, now⟩ : ImLease) :: B) (Nat.le_trans ((leasesOk_iff _).1 okA).1 (by decide))
    have hr : ∀ z : List ImLease, (∀ x ∈ z, x ∈ L) → z.map (renew 4 (now + 5)) = z := by
      intro z hz
      have : z.map (renew 4 (now + 5)) = z.map id := List.map_congr_left (fun x hx => by
        have := (hQ x (hz x hx)).2.1
        rw [renew, if_neg (by omega)]
        rfl)
      rw [this, List.map_id]
    rw [List.map_append, List.map_cons, hr A (fun x hx => hmem x (.inl hx)), hr B (fun x hx => hmem x (.inr hx))] at h
    exact h
  have s5 : impl_TakeLease.f (A ++ (⟨P, 4, now + 5⟩ : ImLease) :: B) P 5 (now + 5) = some (A ++ (⟨P, 4, now + 5⟩ : ImLease) :: B, false) := by
    rw [impl_TakeLease_eq _ P 5 _ okC hPs (bd 4 (now + 5))]
    have h := take_there A B ⟨P, 4, now + 5⟩ okC 5 (now + 5) (lok 5 _ (by decide) (by decide) (by omega) (by omega))
    rw [if_pos ⟨(by decide : ¬ (4 : Int) = 5), by show now + 5 < now + 5 + 5; omega⟩] at h
    exact congrArg some h
  have s6 : impl_DropLease.f (A ++ (⟨P, 4, now⟩ : ImLease) :: B) P = some L := by
    rw [drop_eq _ P (Nat.le_trans ((leasesOk_iff _).1 okA).1 (by decide))]
    have hf : ∀ z : List ImLease, (∀ x ∈ z, x ∈ L) → z.filter (fun x => !leaseAt P x) = z := by
      intro z hz
      refine List.filter_eq_self.2 (fun x hx => ?_)
      have := hne x (hz x hx)
      unfold leaseAt
      simpa using this
    have hX : ¬ (!leaseAt P (⟨P, 4, now⟩ : ImLease)) = true := by unfold leaseAt; simp
    rw [List.filter_append, List.filter_cons_of_neg (p := fun x => !leaseAt P x) hX, hf A (fun x hx => hmem x (.inl hx)), hf B (fun x hx => hmem x (.inr hx)), ← hAB]
  have s7 : Ev (fun k => impl_Expired.f k L now) (expiredL now L) := impl_expired now n0 n1 L (by omega) L [] [] rfl (Nat.le_refl _) hQ
  have ho := expiredL_len now L
  have s8 := law_loop now n0 n1 L (A ++ (⟨P, 4, now⟩ : ImLease) :: B) (A ++ (⟨P, 5, now + 5⟩ : ImLease) :: B) P h6 hL okA okB ((leasesOk_iff _).1 okA).1 ((leasesOk_iff _).1 okB).1 hsz (bd 4 now) (bd 5 (now + 5)) hQ
    (fun x hx => holder_self _ okA x (by rw [hAB] at hx; rcases List.mem_append.1 hx with hx | hx; exact List.mem_append_left _ hx; exact List.mem_append_right _ (List.mem_cons_of_mem _ hx)))
    (holder_of P A B _ hAP rfl) (holder_of P A B _ hAP rfl) (holder_none P L hne) hP (same_ev _ (by omega)) L [] 0 rfl (Nat.zero_add _)
  rw [← hP]
  exact ev_call s1 (ev_call s2 (ev_call s3 (ev_bind s4 (ev_call s5 (ev_call s6 (ev_bind s7 s8))))))
theorem FnLeases : Go.Proofs.YtdacjpebgklneaaDoor.SFnLeases.Pure := by
  intro l hl
  exact ev_rounds (law_Leases l)
end Go.Proofs.YtdacjpebgklneaaDoor.Pure
