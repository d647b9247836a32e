/- A part of the proof of the law FnUnitsOf: its texts, one behind the other. -/
import Derived.ChangeArms
import Derived.Deep.Draws
import Derived.Deep.LoopGhost
import Derived.Deep.Slices
import Derived.Laws.BitsLemmas
import Derived.Laws.IdiomCopy
import Derived.Laws.Strings
import Derived.Lib.LazyBuf
import Derived.Lib.SlBuf
import Derived.Shelf.Abstract
import Derived.Shelf.SlSortCmp.Kit1
import Derived.Sort.Grow
import Derived.Sort.LotA
import Derived.Sort.OwnSortedInts
import Derived.Sort.WalkA
import Derived.Sort.WalkB12
import Derived.Sort.WalkB2
import Derived.WideShapes
import Derived.Test.YtaejgompckpmfaaBFnUnitsOf1
import Derived.Test.YtaejgompckpmfaaBFnUnitsOf2
import Derived.Test.YtaejgompckpmfaaBFnUnitsOf3
import Derived.Test.YtaejgompckpmfaaBFnUnitsOf4
import Derived.Test.YtaejgompckpmfaaBFnUnitsOf5
set_option linter.unusedVariables false
set_option linter.unusedSimpArgs false
namespace Go.Proofs.Ytaejgompckpmfaa.Pr
open Go.RowKit Go.Proofs.YtaejgompckpmfaaW.PrintWords Go.Proofs.YtaejgompckpmfaaW.PrintLast Go.Proofs.YtaejgompckpmfaaW.PrintMore
attribute [local go_sem] max2_int min2_int max_two min_two max_three min_three max_four min_four
mutual
def laws_FnUnitsOf.l0 : Nat → List Int → List (S35) → Int → Int → List ByteArray → List Bool → List ByteArray → List Bool → Int → Int → Option (Bool)
 | 0, _, _, _, _, _, _, _, _, _, _ => none
 | k + 1, x0, x3, x4, x5, x7, x8, x9, x10, x11, x12 => if x12 < (x8.length : Int) then (laws_FnUnitsOf.l1 k x0 x3 x4 x5 x7 x8 x9 x10 x11 x12 false 0) else ((spec_DrawHost.f k x0).bind fun bt544 => ((laws_sameTexts.f k x7 x9).bind fun t550 => (if t550 = true then ((laws_sameBools.f k x8 x10).bind fun t551 => (if t551 = true then ((impl_LeftOf.f k x3 x4 x5).bind fun t552 => (if x11 = t552 then ((impl_LoadOf.f bt544.1 bt544.2.1 bt544.2.2).bind fun t553 => (if t553 = (bt544.2.2.length : Int) then (some (decide ((x8.length : Int) > 0))) else (some false))) else (some false))) else (some false))) else (some false))))
def laws_FnUnitsOf.l1 : Nat → List Int → List (S35) → Int → Int → List ByteArray → List Bool → List ByteArray → List Bool → Int → Int → Bool → Int → Option (Bool)
 | 0, _, _, _, _, _, _, _, _, _, _, _, _ => none
 | k + 1, x0, x3, x4, x5, x7, x8, x9, x10, x11, x12, x13, x14 => if x14 < (x3.length : Int) then (if 0 ≤ x14 then ((spec_GetUnit.f k ((rd_T35 x3 x14).f0) ((rd_T35 x3 x14).f1) ((rd_T35 x3 x14).f2) x5 x12).bind fun bt538 => (if x13 = true then (laws_FnUnitsOf.l1 k x0 x3 x4 x5 x7 x8 x9 x10 x11 x12 true (wrap64 (x14 + 1))) else (if bt538.2 = true then (if 0 ≤ x12 then (if x12 < (x7.length : Int) then (laws_FnUnitsOf.l1 k x0 x3 x4 x5 x7 x8 x9 x10 x11 x12 (bt538.1.toList == (rdOf ByteArray.empty x7 x12).toList) (wrap64 (x14 + 1))) else (none)) else (none)) else (laws_FnUnitsOf.l1 k x0 x3 x4 x5 x7 x8 x9 x10 x11 x12 false (wrap64 (x14 + 1)))))) else (none)) else (if 0 ≤ x12 then (if x12 < (x8.length : Int) then (if rdOf false x8 x12 = true then (if x13 = true then (laws_FnUnitsOf.l0 k x0 x3 x4 x5 x7 x8 x9 x10 (wrap64 (x11 + 1)) (wrap64 (x12 + 1))) else (some false)) else (laws_FnUnitsOf.l0 k x0 x3 x4 x5 x7 x8 x9 x10 x11 (wrap64 (x12 + 1)))) else (none)) else (none))
end
def laws_FnUnitsOf.f (k : Nat) (l0 : List Int) : Option (Bool) := (laws_big.f l0).bind fun t518 => (if t518 = true then (some true) else ((spec_DrawHosts.f k l0).bind fun bt519 => ((impl_UnitsOf.f k bt519.1 bt519.2.1 bt519.2.2.1).bind fun bt525 => ((spec_UnitsOf.f k bt519.1 bt519.2.1 bt519.2.2.1).bind fun bt531 => (laws_FnUnitsOf.l0 k l0 bt519.1 bt519.2.1 bt519.2.2.1 bt525.1 bt525.2 bt531.1 bt531.2 0 0)))))
def laws_FnUnitsOf.T21 : Bool × List (List Nat × List Nat) := (true, [([], []), ([], []), ([0, 1], [0, 1]), ([2, 2], [2]), ([3], [3]), ([3], [3]), ([4, 5, 3, 3], [3, 4, 5]), ([3, 6], [3, 6]), ([7, 6], [7]), ([8], [8]), ([8], [8]), ([8], [8]), ([8], [8]), ([10, 11, 12, 8, 8], [8, 10, 11, 12]), ([9, 13, 8], [8, 9, 13]), ([8, 14], [8, 14]), ([15, 13], [15]), ([16], [16]), ([17, 16, 16], [16, 17]), ([16], [16]), ([19, 16], [16, 19]), ([20, 16], [16, 20]), ([18, 21, 16], [16, 18, 21]), ([16, 22], [16, 22]), ([23, 18], [23]), ([24], [24]), ([25, 24], [24, 25]), ([26, 24], [24, 26]), ([24, 27], [24, 27]), ([28, 24, 0, 1, 2, 3, 4, 5, 6, 7, 8, 9, 10, 11, 12, 13, 14, 15, 16, 17, 18, 19, 20, 21, 22, 23, 24, 25, 26, 27, 28], [28])])
def laws_FnUnitsOf.B21 : List Nat := [0, 0, 3, 7, 15, 15, 63, 127, 255, 511, 511, 511, 511, 7679, 16383, 32767, 65535, 131071, 262143, 131071, 655359, 1703935, 4194303, 8388607, 16777215, 33554431, 67108863, 134217727, 268435455, 536870911]
theorem laws_FnUnitsOf.tab21 : rtab .any (opsOf Try.f3 21) = laws_FnUnitsOf.T21 := by kernel_rfl
theorem laws_FnUnitsOf.bits21 : waitsOk laws_FnUnitsOf.T21.2 laws_FnUnitsOf.B21 = true := by kernel_rfl
set_option maxHeartbeats 8000000 in
set_option maxRecDepth 100000 in
theorem laws_FnUnitsOf.calls (k : Nat) (A0 : Option Addr) (c0 : Nat) (l0 : List Int) (r : Bool) (w : World) (hr0 : Kd.C (Kd.int .u8) w A0 l0.length l0) (hc0 : l0.length ≤ c0) (h : laws_FnUnitsOf.f k l0 = some r) :
  Calls Try.prog 3 #[.slice A0 l0.length c0] w fun e w' => e = .returned (.bool r) ∧ Below w.heap.size w w' := by
 have hu35 := Try.underlying35
 have HR0 := AM hr0
 have HC0 := AM hc0
 clear hr0 hc0
 have HB := AM (Below.refl w.heap.size w)
 have H : ((laws_big.f l0).bind fun t518 => (if t518 = true then (some true) else ((spec_DrawHosts.f k l0).bind fun bt519 => ((impl_UnitsOf.f k bt519.1 bt519.2.1 bt519.2.2.1).bind fun bt525 => ((spec_UnitsOf.f k bt519.1 bt519.2.1 bt519.2.2.1).bind fun bt531 => (laws_FnUnitsOf.l0 k l0 bt519.1 bt519.2.1 bt519.2.2.1 bt525.1 bt525.2 bt531.1 bt531.2 0 0)))))) = some r := h
 clear h
 replace H := Option.bind_eq_some_iff.mp H
 obtain ⟨t518, A20, H⟩ := H
 replace H : (if t518 = true then (some true) else ((spec_DrawHosts.f k l0).bind fun bt519 => ((impl_UnitsOf.f k bt519.1 bt519.2.1 bt519.2.2.1).bind fun bt525 => ((spec_UnitsOf.f k bt519.1 bt519.2.1 bt519.2.2.1).bind fun bt531 => (laws_FnUnitsOf.l0 k l0 bt519.1 bt519.2.1 bt519.2.2.1 bt525.1 bt525.2 bt531.1 bt531.2 0 0))))) = some r := H
 have A2 := AM A20
 clear A20
 by_cases c3 : t518 = true
 ·subst c3
  have H1 : (some true) = some r := by rw [if_pos rfl] at H; exact H
  clear H
  have H := H1
  clear H1
  obtain rfl := Option.some.inj H
  go_enter Try.func3, Try.ntmps3
  go_wp2_with (first | ((with_reducible refine gate_callee (f := 6) rfl ?_); refine GL (some 19) rfl rfl Try.func6 #[.slice A0 l0.length c0] rfl ?_; (with_reducible refine (laws_big.calls _ _ l0 true _ ?side1 ?side2 A2.out).mono ?_); (case side1 => exact CC HR0.out); (case side2 => exact HC0.out); rintro e w' ⟨rfl, ⟨nd, rfl⟩⟩; refine ⟨_, rfl, ?_⟩))
  go_ret
  exact ⟨ER, (BB HB.out)⟩
 ·replace c3 := Bool.eq_false_iff.mpr c3
  subst c3
  have H1 : ((spec_DrawHosts.f k l0).bind fun bt519 => ((impl_UnitsOf.f k bt519.1 bt519.2.1 bt519.2.2.1).bind fun bt525 => ((spec_UnitsOf.f k bt519.1 bt519.2.1 bt519.2.2.1).bind fun bt531 => (laws_FnUnitsOf.l0 k l0 bt519.1 bt519.2.1 bt519.2.2.1 bt525.1 bt525.2 bt531.1 bt531.2 0 0)))) = some r := by rw [if_neg (show ¬ (false = true) by decide)] at H; exact H
  clear H
  have H := H1
  clear H1
  replace H := Option.bind_eq_some_iff.mp H
  obtain ⟨⟨t519, t520, t521, t522⟩, A40, H⟩ := H
  replace H : ((impl_UnitsOf.f k t519 t520 t521).bind fun bt525 => ((spec_UnitsOf.f k t519 t520 t521).bind fun bt531 => (laws_FnUnitsOf.l0 k l0 t519 t520 t521 bt525.1 bt525.2 bt531.1 bt531.2 0 0))) = some r := H
  have A4 := AM A40
  clear A40
  replace H := Option.bind_eq_some_iff.mp H
  obtain ⟨⟨t525, t526⟩, A50, H⟩ := H
  replace H : ((spec_UnitsOf.f k t519 t520 t521).bind fun bt531 => (laws_FnUnitsOf.l0 k l0 t519 t520 t521 t525 t526 bt531.1 bt531.2 0 0)) = some r := H
  have A5 := AM A50
  clear A50
  replace H := Option.bind_eq_some_iff.mp H
  obtain ⟨⟨t531, t532⟩, A60, H⟩ := H
  replace H : (laws_FnUnitsOf.l0 k l0 t519 t520 t521 t525 t526 t531 t532 0 0) = some r := H
  have A6 := AM A60
  clear A60
  have H' := AM H
  clear H
  go_enter Try.func3, Try.ntmps3
  go_wp2_with (first | ((with_reducible refine gate_callee (f := 6) rfl ?_); refine GL (some 19) rfl rfl Try.func6 #[.slice A0 l0.length c0] rfl ?_; (with_reducible refine (laws_big.calls _ _ l0 false _ ?side1 ?side2 A2.out).mono ?_); (case side1 => exact CC HR0.out); (case side2 => exact HC0.out); rintro e w' ⟨rfl, ⟨nd, rfl⟩⟩; refine ⟨_, rfl, ?_⟩) | ((with_reducible refine gate_callee (f := 7) rfl ?_); refine GL (some 22) rfl rfl Try.func7 #[.slice A0 l0.length c0] rfl ?_; (with_reducible refine (spec_DrawHosts.calls k _ _ l0 t519 t520 t521 t522 _ ?side1 ?side2 A4.out).mono ?_); (case side1 => exact CC HR0.out); (case side2 => exact HC0.out); rintro e w7 ⟨v523, rfl, ho0, hb⟩; refine ⟨_, rfl, ?_⟩; have HO524 := AM (Kd.S_lower ho0 (below_size (BB HB.out))); replace HB := AM (below_step (BB HB.out) hb); (try clear hb); (try clear ho0); obtain ⟨Ao8, co8, eo8⟩ := Kd.S_slice HO524.out; subst eo8) | ((with_reducible refine gate_callee (f := 8) rfl ?_); refine GL (some 31) rfl rfl Try.func8 #[.slice Ao8 t519.length co8, .int .i64 t520, .int .i64 t521] rfl ?_; (with_reducible refine (impl_UnitsOf.calls k _ _ t519 t520 t521 t525 t526 _ ?side1 ?side2 A5.out).mono ?_); (case side1 => exact CC (Kd.S_reads' HO524.out).2.2); (case side2 => exact (Kd.S_reads' HO524.out).2.1); rintro e w9 ⟨v527, v529, rfl, ho0, ho1, hb⟩; refine ⟨_, rfl, ?_⟩; have HO528 := AM (Kd.R_lower ho0 (below_size (BB HB.out))); have HO530 := AM (Kd.R_lower ho1 (below_size (BB HB.out))); replace HO524 := AM (Kd.S_below (SS HO524.out) hb); replace HB := AM (below_step (BB HB.out) hb); (try clear hb); (try clear ho0); (try clear ho1)) | ((with_reducible refine gate_callee (f := 9) rfl ?_); refine GL (some 38) rfl rfl Try.func9 #[.slice Ao8 t519.length co8, .int .i64 t520, .int .i64 t521] rfl ?_; (with_reducible refine (spec_UnitsOf.calls k _ _ t519 t520 t521 t531 t532 _ ?side1 ?side2 A6.out).mono ?_); (case side1 => exact CC (Kd.S_reads' HO524.out).2.2); (case side2 => exact (Kd.S_reads' HO524.out).2.1); rintro e w10 ⟨v533, v535, rfl, ho0, ho1, hb⟩; refine ⟨_, rfl, ?_⟩; have HO534 := AM (Kd.R_lower (Kd.R_new' ho0 (Kd.R_lt (RR HO528.out))) (below_size (BB HB.out))); have HO536 := AM (Kd.R_lower (Kd.R_new' ho1 (Kd.R_lt (RR HO530.out))) (below_size (BB HB.out))); replace HO524 := AM (Kd.S_below (SS HO524.out) hb); replace HO528 := AM (Kd.R_elder' (RR HO528.out) (Kd.R_base ho0) hb); replace HO530 := AM (Kd.R_elder' (RR HO530.out) (Kd.R_base ho1) hb); replace HB := AM (below_step (BB HB.out) hb); (try clear hb); (try clear ho0); (try clear ho1)))
  go_loopg [11, 12] k (fun kq v11 v12 w' => ∃ (x11_1 : Int) (x12_1 : Int), v11 = .int .i64 x11_1 ∧ v12 = .int .i64 x12_1 ∧ Aside0 (laws_FnUnitsOf.l0 kq l0 t519 t520 t521 t525 t526 t531 t532 x11_1 x12_1 = some r) ∧ Aside0 (kq ≤ k) ∧ Aside0 (Kd.S k35 35 w' w.heap.size (fun _ => True) (.slice Ao8 t519.length co8) t519) ∧ Aside0 (Kd.R Kd.string 9 w' w.heap.size (fun k_ => some k_ ≠ (v533 : Value).ownBlock) v527 t525) ∧ Aside0 (Kd.R Kd.bool 4 w' w.heap.size (fun k_ => some k_ ≠ (v535 : Value).ownBlock) v529 t526) ∧ Aside0 (Kd.R Kd.string 9 w' w.heap.size (fun k_ => some k_ ≠ (v527 : Value).ownBlock) v533 t531) ∧ Aside0 (Kd.R Kd.bool 4 w' w.heap.size (fun k_ => some k_ ≠ (v529 : Value).ownBlock) v535 t532) ∧ Aside0 (Below w.heap.size w w'))
  case atStart => exact ⟨(0), (0), FR, FR, H', ⟨Nat.le_refl _⟩, ⟨(SS HO524.out)⟩, ⟨by (with_reducible repeat (first | apply Kd.R_alloc | apply Kd.R_drewN | apply Kd.R_drew)); exact Kd.R_mono HO528.out (fun _ hk => hk.2)⟩, ⟨by (with_reducible repeat (first | apply Kd.R_alloc | apply Kd.R_drewN | apply Kd.R_drew)); exact Kd.R_mono HO530.out (fun _ hk => hk.2)⟩, ⟨by (with_reducible repeat (first | apply Kd.R_alloc | apply Kd.R_drewN | apply Kd.R_drew)); exact Kd.R_mono HO534.out (fun _ hk => hk.2)⟩, ⟨by (with_reducible repeat (first | apply Kd.R_alloc | apply Kd.R_drewN | apply Kd.R_drew)); exact Kd.R_mono HO536.out (fun _ hk => hk.2)⟩, ⟨(BB HB.out)⟩⟩
  case round =>
   clear H'
   try clear p2
   try clear c3
   try clear c6
   try clear c7
   try clear c8
   try clear c9
   obtain ⟨x11_1, x12_1, rfl, rfl, HA, HK1, HO_3, HO_7, HO_8, HO_9, HO_10, HB⟩ := hrel
   cases gk with
   | zero => exact absurd HA.out (by simp [laws_FnUnitsOf.l0])
   | succ k1 =>
    have H := HA.out
    clear HA
    simp only [laws_FnUnitsOf.l0] at H
    by_cases c11 : x12_1 < (t526.length : Int)
    ·rw [if_pos c11] at H
     have c11b0 := decide_eq_true c11
     clear c11
     have H' := AM H
     clear H
     obtain ⟨Ao12, co12, eo12⟩ := Kd.R_slice HO_8.out
     subst eo12
     go_wp2
     go_loopg [13, 14] k1 (fun kq v13 v14 w' => ∃ (x13_2 : Bool) (x14_2 : Int), v13 = .bool x13_2 ∧ v14 = .int .i64 x14_2 ∧ Aside0 (laws_FnUnitsOf.l1 kq l0 t519 t520 t521 t525 t526 t531 t532 x11_1 x12_1 x13_2 x14_2 = some r) ∧ Aside0 (kq ≤ k1) ∧ Aside0 (Kd.S k35 35 w' w.heap.size (fun _ => True) (.slice Ao8 t519.length co8) t519) ∧ Aside0 (Kd.R Kd.string 9 w' w.heap.size (fun k_ => some k_ ≠ (v533 : Value).ownBlock) v527 t525) ∧ Aside0 (Kd.R Kd.bool 4 w' w.heap.size (fun k_ => some k_ ≠ (v535 : Value).ownBlock) (.slice Ao12 t526.length co12) t526) ∧ Aside0 (Kd.R Kd.string 9 w' w.heap.size (fun k_ => some k_ ≠ (v527 : Value).ownBlock) v533 t531) ∧ Aside0 (Kd.R Kd.bool 4 w' w.heap.size (fun k_ => some k_ ≠ ((.slice Ao12 t526.length co12) : Value).ownBlock) v535 t532) ∧ Aside0 (Below w.heap.size w w'))
     case atStart => exact ⟨(false), (0), FR, FR, H', ⟨Nat.le_refl _⟩, ⟨(SS HO_3.out)⟩, ⟨(RR HO_7.out)⟩, ⟨(RR HO_8.out)⟩, ⟨(RR HO_9.out)⟩, ⟨(RR HO_10.out)⟩, ⟨(BB HB.out)⟩⟩
     case round =>
      clear H'
      try clear c1
      try clear p2
      try clear c3
      try clear c6
      try clear c7
      try clear c8
      try clear c9
      try clear c11
      try clear c11b0
      try clear p2
      obtain ⟨x13_2, x14_2, rfl, rfl, HA, HK2, HO_3, HO_7, HO_8, HO_9, HO_10, HB⟩ := hrel
      cases gk with
      | zero => exact absurd HA.out (by simp [laws_FnUnitsOf.l1])
      | succ k2 =>
       have H := HA.out
       clear HA
       simp only [laws_FnUnitsOf.l1] at H
       by_cases c13 : x14_2 < (t519.length : Int)
       ·rw [if_pos c13] at H
        have c13b0 := decide_eq_true c13
        clear c13
        by_cases c14 : 0 ≤ x14_2
        rotate_left
        ·rw [if_neg c14] at H; exact absurd H (by simp)
        rw [if_pos c14] at H
        have c14b0 := decide_eq_true c14
        clear c14
        replace H := Option.bind_eq_some_iff.mp H
        obtain ⟨⟨t538, t539⟩, A150, H⟩ := H
        replace H : (if x13_2 = true then (laws_FnUnitsOf.l1 k2 l0 t519 t520 t521 t525 t526 t531 t532 x11_1 x12_1 true (wrap64 (x14_2 + 1))) else (if t539 = true then (if 0 ≤ x12_1 then (if x12_1 < (t525.length : Int) then (laws_FnUnitsOf.l1 k2 l0 t519 t520 t521 t525 t526 t531 t532 x11_1 x12_1 (t538.toList == (rdOf ByteArray.empty t525 x12_1).toList) (wrap64 (x14_2 + 1))) else (none)) else (none)) else (laws_FnUnitsOf.l1 k2 l0 t519 t520 t521 t525 t526 t531 t532 x11_1 x12_1 false (wrap64 (x14_2 + 1))))) = some r := H
        have A15 := AM A150
        clear A150
        by_cases c16 : x13_2 = true
        ·subst c16
         have H1 : (laws_FnUnitsOf.l1 k2 l0 t519 t520 t521 t525 t526 t531 t532 x11_1 x12_1 true (wrap64 (x14_2 + 1))) = some r := by rw [if_pos rfl] at H; exact H
         clear H
         have H := H1
         clear H1
         have H' := AM H
         clear H
         have p537 : 0 ≤ (x14_2 : Int) := DT
         have q537 : x14_2 < (t519.length : Int) := DT
         obtain ⟨ad537, A537_2, c537_2, e537, hx537_0, hx537_1, hx537_2, hl537_2, hi537_2⟩ := at_T35 (Kd.S_reads' HO_3.out).2.2 x14_2 p537 q537
         cases e537
         obtain ⟨ce537, hce537, hMe537, hcc537⟩ := Kd.S_get HO_3.out z35 x14_2 p537 (by first | exact q537 | exact DT | (have e_ := (Kd.S_reads' HO_3.out).1; omega))
         obtain ⟨ve537_2, rfl, ge537_2⟩ := k35_openM hMe537
         have hv537_2 := hcc537 2 _ rfl
         rw [add_field _ _ 2 (by omega)] at hv537_2
         replace hv537_2 := Option.some.inj (hv537_2.symm.trans hx537_2)
         rw [hv537_2] at ge537_2
         have HL537_2 := AM (show Kd.R k60 60 _ _ _ _ ((rd_T35 t519 x14_2).f2) from ge537_2)
         clear hv537_2 ge537_2
         clear hcc537 hce537
         have HR537_2 := AM hi537_2
         have HC537_2 := AM hl537_2
         clear hi537_2 hl537_2
         replace p537 := eq_true p537
         replace q537 := eq_true q537
         go_wp2_with (first | ((with_reducible refine gate_callee (f := 10) rfl ?_); refine GL (some 60) rfl rfl Try.func10 #[.agg #[.int .i64 ((rd_T35 t519 x14_2).f0), .bool ((rd_T35 t519 x14_2).f1), .slice A537_2 ((rd_T35 t519 x14_2).f2).length c537_2], .int .i64 t521, .int .i64 x12_1] rfl ?_; (with_reducible refine (spec_GetUnit.calls k2 ((rd_T35 t519 x14_2).f0) ((rd_T35 t519 x14_2).f1) _ _ ((rd_T35 t519 x14_2).f2) t521 x12_1 t538 t539 _ ?side1 ?side2 A15.out).mono ?_); (case side1 => repeat (first | exact (CC HR537_2.out) | (with_reducible refine Kd.C_alloc ?_ _) | (with_reducible refine Kd.C_drewN ?_ _) | (with_reducible refine Kd.C_drew ?_))); (case side2 => exact HC537_2.out); rintro e w17 ⟨rfl, hb⟩; refine ⟨_, rfl, ?_⟩; replace HO_3 := AM (Kd.S_below (SS HO_3.out) hb); replace HO_7 := AM (Kd.R_below (RR HO_7.out) hb); replace HO_8 := AM (Kd.R_below (RR HO_8.out) hb); replace HO_9 := AM (Kd.R_below (RR HO_9.out) hb); replace HO_10 := AM (Kd.R_below (RR HO_10.out) hb); replace HL537_2 := AM (Kd.R_below (RR HL537_2.out) hb); replace HR537_2 := AM (Kd.C_below (CC HR537_2.out) hb); replace HB := AM (below_step (BB HB.out) hb); (try clear hb)))
         go_roundg k2
         case measure => have := HK1.out; have := HK2.out; omega
         case rel => exact ⟨(true), (wrap64 (x14_2 + 1)), FR, FR, H', ⟨by have := HK1.out; have := HK2.out; omega⟩, ⟨(SS HO_3.out)⟩, ⟨(RR HO_7.out)⟩, ⟨(RR HO_8.out)⟩, ⟨(RR HO_9.out)⟩, ⟨(RR HO_10.out)⟩, ⟨(BB HB.out)⟩⟩
        ·replace c16 := Bool.eq_false_iff.mpr c16
         subst c16
         have H1 : (if t539 = true then (if 0 ≤ x12_1 then (if x12_1 < (t525.length : Int) then (laws_FnUnitsOf.l1 k2 l0 t519 t520 t521 t525 t526 t531 t532 x11_1 x12_1 (t538.toList == (rdOf ByteArray.empty t525 x12_1).toList) (wrap64 (x14_2 + 1))) else (none)) else (none)) else (laws_FnUnitsOf.l1 k2 l0 t519 t520 t521 t525 t526 t531 t532 x11_1 x12_1 false (wrap64 (x14_2 + 1)))) = some r := by rw [if_neg (show ¬ (false = true) by decide)] at H; exact H
         clear H
         have H := H1
         clear H1
         by_cases c18 : t539 = true
         ·subst c18
          have H1 : (if 0 ≤ x12_1 then (if x12_1 < (t525.length : Int) then (laws_FnUnitsOf.l1 k2 l0 t519 t520 t521 t525 t526 t531 t532 x11_1 x12_1 (t538.toList == (rdOf ByteArray.empty t525 x12_1).toList) (wrap64 (x14_2 + 1))) else (none)) else (none)) = some r := by rw [if_pos rfl] at H; exact H
          clear H
          have H := H1
          clear H1
          by_cases c19 : 0 ≤ x12_1
          rotate_left
          ·rw [if_neg c19] at H; exact absurd H (by simp)
          rw [if_pos c19] at H
          have c19b0 := decide_eq_true c19
          clear c19
          by_cases c20 : x12_1 < (t525.length : Int)
          rotate_left
          ·rw [if_neg c20] at H; exact absurd H (by simp)
          rw [if_pos c20] at H
          have c20b0 := decide_eq_true c20
          clear c20
          have H' := AM H
          clear H
          have p537 : 0 ≤ (x14_2 : Int) := DT
          have q537 : x14_2 < (t519.length : Int) := DT
          obtain ⟨ad537, A537_2, c537_2, e537, hx537_0, hx537_1, hx537_2, hl537_2, hi537_2⟩ := at_T35 (Kd.S_reads' HO_3.out).2.2 x14_2 p537 q537
          cases e537
          obtain ⟨ce537, hce537, hMe537, hcc537⟩ := Kd.S_get HO_3.out z35 x14_2 p537 (by first | exact q537 | exact DT | (have e_ := (Kd.S_reads' HO_3.out).1; omega))
          obtain ⟨ve537_2, rfl, ge537_2⟩ := k35_openM hMe537
          have hv537_2 := hcc537 2 _ rfl
          rw [add_field _ _ 2 (by omega)] at hv537_2
          replace hv537_2 := Option.some.inj (hv537_2.symm.trans hx537_2)
          rw [hv537_2] at ge537_2
          have HL537_2 := AM (show Kd.R k60 60 _ _ _ _ ((rd_T35 t519 x14_2).f2) from ge537_2)
          clear hv537_2 ge537_2
          clear hcc537 hce537
          have HR537_2 := AM hi537_2
          have HC537_2 := AM hl537_2
          clear hi537_2 hl537_2
          replace p537 := eq_true p537
          replace q537 := eq_true q537
          go_wp2_with (first | ((with_reducible refine gate_callee (f := 10) rfl ?_); refine GL (some 60) rfl rfl Try.func10 #[.agg #[.int .i64 ((rd_T35 t519 x14_2).f0), .bool ((rd_T35 t519 x14_2).f1), .slice A537_2 ((rd_T35 t519 x14_2).f2).length c537_2], .int .i64 t521, .int .i64 x12_1] rfl ?_; (with_reducible refine (spec_GetUnit.calls k2 ((rd_T35 t519 x14_2).f0) ((rd_T35 t519 x14_2).f1) _ _ ((rd_T35 t519 x14_2).f2) t521 x12_1 t538 true _ ?side1 ?side2 A15.out).mono ?_); (case side1 => repeat (first | exact (CC HR537_2.out) | (with_reducible refine Kd.C_alloc ?_ _) | (with_reducible refine Kd.C_drewN ?_ _) | (with_reducible refine Kd.C_drew ?_))); (case side2 => exact HC537_2.out); rintro e w21 ⟨rfl, hb⟩; refine ⟨_, rfl, ?_⟩; replace HO_3 := AM (Kd.S_below (SS HO_3.out) hb); replace HO_7 := AM (Kd.R_below (RR HO_7.out) hb); replace HO_8 := AM (Kd.R_below (RR HO_8.out) hb); replace HO_9 := AM (Kd.R_below (RR HO_9.out) hb); replace HO_10 := AM (Kd.R_below (RR HO_10.out) hb); replace HL537_2 := AM (Kd.R_below (RR HL537_2.out) hb); replace HR537_2 := AM (Kd.C_below (CC HR537_2.out) hb); replace HB := AM (below_step (BB HB.out) hb); (try clear hb); obtain ⟨Ao22, co22, eo22⟩ := Kd.R_slice HO_7.out; subst eo22; have p540 : 0 ≤ (x12_1 : Int) := DT; have q540 : x12_1 < (t525.length : Int) := DT; obtain ⟨ad540, e540, hx540_0⟩ := Kd.at_string (Kd.R_reads' HO_7.out).2.2 x12_1 p540 q540; cases e540; replace p540 := eq_true p540; replace q540 := eq_true q540))
          go_roundg k2
          case measure => have := HK1.out; have := HK2.out; omega
          case rel => exact ⟨((t538.toList == (rdOf ByteArray.empty t525 x12_1).toList)), (wrap64 (x14_2 + 1)), FR, FR, H', ⟨by have := HK1.out; have := HK2.out; omega⟩, ⟨(SS HO_3.out)⟩, ⟨(RR HO_7.out)⟩, ⟨(RR HO_8.out)⟩, ⟨(RR HO_9.out)⟩, ⟨(RR HO_10.out)⟩, ⟨(BB HB.out)⟩⟩
         ·replace c18 := Bool.eq_false_iff.mpr c18
          subst c18
          have H1 : (laws_FnUnitsOf.l1 k2 l0 t519 t520 t521 t525 t526 t531 t532 x11_1 x12_1 false (wrap64 (x14_2 + 1))) = some r := by rw [if_neg (show ¬ (false = true) by decide)] at H; exact H
          clear H
          have H := H1
          clear H1
          have H' := AM H
          clear H
          have p537 : 0 ≤ (x14_2 : Int) := DT
          have q537 : x14_2 < (t519.length : Int) := DT
          obtain ⟨ad537, A537_2, c537_2, e537, hx537_0, hx537_1, hx537_2, hl537_2, hi537_2⟩ := at_T35 (Kd.S_reads' HO_3.out).2.2 x14_2 p537 q537
          cases e537
          obtain ⟨ce537, hce537, hMe537, hcc537⟩ := Kd.S_get HO_3.out z35 x14_2 p537 (by first | exact q537 | exact DT | (have e_ := (Kd.S_reads' HO_3.out).1; omega))
          obtain ⟨ve537_2, rfl, ge537_2⟩ := k35_openM hMe537
          have hv537_2 := hcc537 2 _ rfl
          rw [add_field _ _ 2 (by omega)] at hv537_2
          replace hv537_2 := Option.some.inj (hv537_2.symm.trans hx537_2)
          rw [hv537_2] at ge537_2
          have HL537_2 := AM (show Kd.R k60 60 _ _ _ _ ((rd_T35 t519 x14_2).f2) from ge537_2)
          clear hv537_2 ge537_2
          clear hcc537 hce537
          have HR537_2 := AM hi537_2
          have HC537_2 := AM hl537_2
          clear hi537_2 hl537_2
          replace p537 := eq_true p537
          replace q537 := eq_true q537
          go_wp2_with (first | ((with_reducible refine gate_callee (f := 10) rfl ?_); refine GL (some 60) rfl rfl Try.func10 #[.agg #[.int .i64 ((rd_T35 t519 x14_2).f0), .bool ((rd_T35 t519 x14_2).f1), .slice A537_2 ((rd_T35 t519 x14_2).f2).length c537_2], .int .i64 t521, .int .i64 x12_1] rfl ?_; (with_reducible refine (spec_GetUnit.calls k2 ((rd_T35 t519 x14_2).f0) ((rd_T35 t519 x14_2).f1) _ _ ((rd_T35 t519 x14_2).f2) t521 x12_1 t538 false _ ?side1 ?side2 A15.out).mono ?_); (case side1 => repeat (first | exact (CC HR537_2.out) | (with_reducible refine Kd.C_alloc ?_ _) | (with_reducible refine Kd.C_drewN ?_ _) | (with_reducible refine Kd.C_drew ?_))); (case side2 => exact HC537_2.out); rintro e w23 ⟨rfl, hb⟩; refine ⟨_, rfl, ?_⟩; replace HO_3 := AM (Kd.S_below (SS HO_3.out) hb); replace HO_7 := AM (Kd.R_below (RR HO_7.out) hb); replace HO_8 := AM (Kd.R_below (RR HO_8.out) hb); replace HO_9 := AM (Kd.R_below (RR HO_9.out) hb); replace HO_10 := AM (Kd.R_below (RR HO_10.out) hb); replace HL537_2 := AM (Kd.R_below (RR HL537_2.out) hb); replace HR537_2 := AM (Kd.C_below (CC HR537_2.out) hb); replace HB := AM (below_step (BB HB.out) hb); (try clear hb)))
          go_roundg k2
          case measure => have := HK1.out; have := HK2.out; omega
          case rel => exact ⟨(false), (wrap64 (x14_2 + 1)), FR, FR, H', ⟨by have := HK1.out; have := HK2.out; omega⟩, ⟨(SS HO_3.out)⟩, ⟨(RR HO_7.out)⟩, ⟨(RR HO_8.out)⟩, ⟨(RR HO_9.out)⟩, ⟨(RR HO_10.out)⟩, ⟨(BB HB.out)⟩⟩
       ·rw [if_neg c13] at H
        have c13b0 := decide_eq_false c13
        clear c13
        by_cases c24 : 0 ≤ x12_1
        rotate_left
        ·rw [if_neg c24] at H; exact absurd H (by simp)
        rw [if_pos c24] at H
        have c24b0 := decide_eq_true c24
        clear c24
        by_cases c25 : x12_1 < (t526.length : Int)
        rotate_left
        ·rw [if_neg c25] at H; exact absurd H (by simp)
        rw [if_pos c25] at H
        have c25b0 := decide_eq_true c25
        clear c25
        obtain ⟨bq26, hbq26⟩ : ∃ b_ : Bool, b_ = (rdOf false t526 x12_1) := ⟨_, rfl⟩
        replace H : (if bq26 = true then (if x13_2 = true then (laws_FnUnitsOf.l0 k2 l0 t519 t520 t521 t525 t526 t531 t532 (wrap64 (x11_1 + 1)) (wrap64 (x12_1 + 1))) else (some false)) else (laws_FnUnitsOf.l0 k2 l0 t519 t520 t521 t525 t526 t531 t532 x11_1 (wrap64 (x12_1 + 1)))) = some r := by rw [← hbq26] at H; exact H
        have Nbq26 := AM hbq26
        clear hbq26
        by_cases c27 : bq26 = true
        ·subst c27
         have H1 : (if x13_2 = true then (laws_FnUnitsOf.l0 k2 l0 t519 t520 t521 t525 t526 t531 t532 (wrap64 (x11_1 + 1)) (wrap64 (x12_1 + 1))) else (some false)) = some r := by rw [if_pos rfl] at H; exact H
         clear H
         have H := H1
         clear H1
         by_cases c28 : x13_2 = true
         ·subst c28
          have H1 : (laws_FnUnitsOf.l0 k2 l0 t519 t520 t521 t525 t526 t531 t532 (wrap64 (x11_1 + 1)) (wrap64 (x12_1 + 1))) = some r := by rw [if_pos rfl] at H; exact H
          clear H
          have H := H1
          clear H1
          have H' := AM H
          clear H
          have p541 : 0 ≤ (x12_1 : Int) := DT
          have q541 : x12_1 < (t526.length : Int) := DT
          obtain ⟨ad541, e541, hx541_0⟩ := Kd.at_bool (Kd.R_reads' HO_8.out).2.2 x12_1 p541 q541
          (try rw [← Nbq26.out] at hx541_0)
          cases e541
          replace p541 := eq_true p541
          replace q541 := eq_true q541
          have p542 : 0 ≤ (x12_1 : Int) := DT
          have q542 : x12_1 < (t526.length : Int) := DT
          obtain ⟨ad542, e542, hx542_0⟩ := Kd.at_bool (Kd.R_reads' HO_8.out).2.2 x12_1 p542 q542
          (try rw [← Nbq26.out] at hx542_0)
          obtain rfl : ad541 = ad542 := (by injection e542)
          replace p542 := eq_true p542
          replace q542 := eq_true q542
          go_wp2
          go_roundg k2
          case measure => have := HK1.out; have := HK2.out; omega
          case rel => exact ⟨(wrap64 (x11_1 + 1)), (wrap64 (x12_1 + 1)), FR, FR, H', ⟨by have := HK1.out; have := HK2.out; omega⟩, ⟨(SS HO_3.out)⟩, ⟨(RR HO_7.out)⟩, ⟨(RR HO_8.out)⟩, ⟨(RR HO_9.out)⟩, ⟨(RR HO_10.out)⟩, ⟨(BB HB.out)⟩⟩
         ·replace c28 := Bool.eq_false_iff.mpr c28
          subst c28
          have H1 : (some false) = some r := by rw [if_neg (show ¬ (false = true) by decide)] at H; exact H
          clear H
          have H := H1
          clear H1
          obtain rfl := Option.some.inj H
          have p541 : 0 ≤ (x12_1 : Int) := DT
          have q541 : x12_1 < (t526.length : Int) := DT
          obtain ⟨ad541, e541, hx541_0⟩ := Kd.at_bool (Kd.R_reads' HO_8.out).2.2 x12_1 p541 q541
          (try rw [← Nbq26.out] at hx541_0)
          cases e541
          replace p541 := eq_true p541
          replace q541 := eq_true q541
          have p542 : 0 ≤ (x12_1 : Int) := DT
          have q542 : x12_1 < (t526.length : Int) := DT
          obtain ⟨ad542, e542, hx542_0⟩ := Kd.at_bool (Kd.R_reads' HO_8.out).2.2 x12_1 p542 q542
          (try rw [← Nbq26.out] at hx542_0)
          obtain rfl : ad541 = ad542 := (by injection e542)
          replace p542 := eq_true p542
          replace q542 := eq_true q542
          go_wp2
          go_ret
          exact ⟨ER, (BB HB.out)⟩
        ·replace c27 := Bool.eq_false_iff.mpr c27
         subst c27
         have H1 : (laws_FnUnitsOf.l0 k2 l0 t519 t520 t521 t525 t526 t531 t532 x11_1 (wrap64 (x12_1 + 1))) = some r := by rw [if_neg (show ¬ (false = true) by decide)] at H; exact H
         clear H
         have H := H1
         clear H1
         have H' := AM H
         clear H
         have p541 : 0 ≤ (x12_1 : Int) := DT
         have q541 : x12_1 < (t526.length : Int) := DT
         obtain ⟨ad541, e541, hx541_0⟩ := Kd.at_bool (Kd.R_reads' HO_8.out).2.2 x12_1 p541 q541
         (try rw [← Nbq26.out] at hx541_0)
         cases e541
         replace p541 := eq_true p541
         replace q541 := eq_true q541
         have p543 : 0 ≤ (x12_1 : Int) := DT
         have q543 : x12_1 < (t526.length : Int) := DT
         obtain ⟨ad543, e543, hx543_0⟩ := Kd.at_bool (Kd.R_reads' HO_8.out).2.2 x12_1 p543 q543
         (try rw [← Nbq26.out] at hx543_0)
         obtain rfl : ad541 = ad543 := (by injection e543)
         replace p543 := eq_true p543
         replace q543 := eq_true q543
         go_wp2
         go_roundg k2
         case measure => have := HK1.out; have := HK2.out; omega
         case rel => exact ⟨(x11_1), (wrap64 (x12_1 + 1)), FR, FR, H', ⟨by have := HK1.out; have := HK2.out; omega⟩, ⟨(SS HO_3.out)⟩, ⟨(RR HO_7.out)⟩, ⟨(RR HO_8.out)⟩, ⟨(RR HO_9.out)⟩, ⟨(RR HO_10.out)⟩, ⟨(BB HB.out)⟩⟩
    ·rw [if_neg c11] at H
     have c11b0 := decide_eq_false c11
     clear c11
     replace H := Option.bind_eq_some_iff.mp H
     obtain ⟨⟨t544, t545, t546⟩, A290, H⟩ := H
     replace H : ((laws_sameTexts.f k1 t525 t531).bind fun t550 => (if t550 = true then ((laws_sameBools.f k1 t526 t532).bind fun t551 => (if t551 = true then ((impl_LeftOf.f k1 t519 t520 t521).bind fun t552 => (if x11_1 = t552 then ((impl_LoadOf.f t544 t545 t546).bind fun t553 => (if t553 = (t546.length : Int) then (some (decide ((t526.length : Int) > 0))) else (some false))) else (some false))) else (some false))) else (some false))) = some r := H
     have A29 := AM A290
     clear A290
     replace H := Option.bind_eq_some_iff.mp H
     obtain ⟨t550, A300, H⟩ := H
     replace H : (if t550 = true then ((laws_sameBools.f k1 t526 t532).bind fun t551 => (if t551 = true then ((impl_LeftOf.f k1 t519 t520 t521).bind fun t552 => (if x11_1 = t552 then ((impl_LoadOf.f t544 t545 t546).bind fun t553 => (if t553 = (t546.length : Int) then (some (decide ((t526.length : Int) > 0))) else (some false))) else (some false))) else (some false))) else (some false)) = some r := H
     have A30 := AM A300
     clear A300
     by_cases c31 : t550 = true
     ·subst c31
      have H1 : ((laws_sameBools.f k1 t526 t532).bind fun t551 => (if t551 = true then ((impl_LeftOf.f k1 t519 t520 t521).bind fun t552 => (if x11_1 = t552 then ((impl_LoadOf.f t544 t545 t546).bind fun t553 => (if t553 = (t546.length : Int) then (some (decide ((t526.length : Int) > 0))) else (some false))) else (some false))) else (some false))) = some r := by rw [if_pos rfl] at H; exact H
      clear H
      have H := H1
      clear H1
      replace H := Option.bind_eq_some_iff.mp H
      obtain ⟨t551, A320, H⟩ := H
      replace H : (if t551 = true then ((impl_LeftOf.f k1 t519 t520 t521).bind fun t552 => (if x11_1 = t552 then ((impl_LoadOf.f t544 t545 t546).bind fun t553 => (if t553 = (t546.length : Int) then (some (decide ((t526.length : Int) > 0))) else (some false))) else (some false))) else (some false)) = some r := H
      have A32 := AM A320
      clear A320
      by_cases c33 : t551 = true
      ·subst c33
       have H1 : ((impl_LeftOf.f k1 t519 t520 t521).bind fun t552 => (if x11_1 = t552 then ((impl_LoadOf.f t544 t545 t546).bind fun t553 => (if t553 = (t546.length : Int) then (some (decide ((t526.length : Int) > 0))) else (some false))) else (some false))) = some r := by rw [if_pos rfl] at H; exact H
       clear H
       have H := H1
       clear H1
       replace H := Option.bind_eq_some_iff.mp H
       obtain ⟨t552, A340, H⟩ := H
       replace H : (if x11_1 = t552 then ((impl_LoadOf.f t544 t545 t546).bind fun t553 => (if t553 = (t546.length : Int) then (some (decide ((t526.length : Int) > 0))) else (some false))) else (some false)) = some r := H
       have A34 := AM A340
       clear A340
       by_cases c35 : x11_1 = t552
       ·rw [if_pos c35] at H
        have c35b0 : (x11_1 == t552) = true := beq_iff_eq.mpr c35
        have c35b1 : (x11_1 != t552) = false := bne_eq_false_iff_eq.mpr c35
        clear c35
        replace H := Option.bind_eq_some_iff.mp H
        obtain ⟨t553, A360, H⟩ := H
        replace H : (if t553 = (t546.length : Int) then (some (decide ((t526.length : Int) > 0))) else (some false)) = some r := H
        have A36 := AM A360
        clear A360
        by_cases c37 : t553 = (t546.length : Int)
        ·rw [if_pos c37] at H
         have c37b0 : (t553 == (t546.length : Int)) = true := beq_iff_eq.mpr c37
         have c37b1 : (t553 != (t546.length : Int)) = false := bne_eq_false_iff_eq.mpr c37
         clear c37
         obtain rfl := Option.some.inj H
         obtain ⟨Ao38, co38, eo38⟩ := Kd.R_slice HO_8.out
         subst eo38
         try go_wp2_with (first | ((with_reducible refine gate_callee (f := 11) rfl ?_); refine GL (some 90) rfl rfl Try.func11 #[.slice A0 l0.length c0] rfl ?_; (with_reducible refine (spec_DrawHost.calls k1 _ _ l0 t544 t545 t546 _ ?side1 ?side2 A29.out).mono ?_); (case side1 => exact CC (Kd.C_below HR0.out HB.out)); (case side2 => exact HC0.out); rintro e w39 ⟨v547, rfl, ho0, hb⟩; refine ⟨_, rfl, ?_⟩; have HO548 := AM (Kd.R_lower ho0 (below_size (BB HB.out))); replace HO_3 := AM (Kd.S_elder' (SS HO_3.out) (Kd.R_base ho0) hb); replace HO_7 := AM (Kd.R_below (RR HO_7.out) hb); replace HO_8 := AM (Kd.R_below (RR HO_8.out) hb); replace HO_9 := AM (Kd.R_below (RR HO_9.out) hb); replace HO_10 := AM (Kd.R_below (RR HO_10.out) hb); replace HB := AM (below_step (BB HB.out) hb); (try clear hb); (try clear ho0)) | ((with_reducible refine gate_dst (N := 17) rfl ?_); (try (refine gate_guard (by rfl) ?_; dsimp only)); refine BX 17 #[.int .i64 0, .bool false, .slice none 0 0] 35 ?_; intro gb549 hg w40 hbox hb; have BK549 := AM (hbox); have GW549 : Aside0 (w.heap.size ≤ gb549) := WG hg (BB HB.out); have GE549 := GW549; replace HO_3 := AM (Kd.S_below (Kd.S_elderB (SS HO_3.out) gb549 (Nat.le_of_eq hg.symm)) hb); replace HO_7 := AM (Kd.R_below (RR HO_7.out) hb); replace HO_8 := AM (Kd.R_below (RR HO_8.out) hb); replace HO_9 := AM (Kd.R_below (RR HO_9.out) hb); replace HO_10 := AM (Kd.R_below (RR HO_10.out) hb); replace HO548 := AM (Kd.R_below (RR HO548.out) hb); replace HB := AM (below_step (BB HB.out) hb); clear hb hbox hg; have hcz41 := blk_cell BK549.out; have hfz41 := blk_frozen BK549.out; obtain ⟨Ao42, co42, eo42⟩ := Kd.R_slice HO548.out; subst eo42))
         obtain ⟨w43, hw_⟩ : ∃ w_, w_ = (((w40.setCell ⟨gb549, 0, none⟩ (.int .i64 t544)).setCell ⟨gb549, 1, none⟩ (.bool t545)).setCell ⟨gb549, 2, none⟩ (.slice Ao42 t546.length co42)) := ⟨_, rfl⟩
         rw [← hw_]
         have n0_ : Aside0 (Kd.S k35 35 w43 w.heap.size (fun k_ => some k_ ≠ (.slice Ao42 t546.length co42 : Value).ownBlock ∧ k_ ≠ gb549) (.slice Ao8 t519.length co8) t519) := ⟨by rw [hw_]; (with_reducible repeat (first | apply Kd.S_alloc | apply Kd.S_drewN | apply Kd.S_drew)); exact Kd.S_mono (Kd.S_far (p := ⟨gb549, 2, none⟩) (Kd.S_far (p := ⟨gb549, 1, none⟩) (Kd.S_far (p := ⟨gb549, 0, none⟩) (Kd.S_mono HO_3.out (fun k_ hk => (⟨hk, hk.2⟩ : _ ∧ k_ ≠ gb549))) (fun _ hk => hk.2) (.int .i64 t544)) (fun _ hk => hk.2) (.bool t545)) (fun _ hk => hk.2) (.slice Ao42 t546.length co42)) (fun _ hk => ⟨hk.1.1.2, hk.1.2⟩)⟩
         have n1_ : Aside0 (Kd.R Kd.string 9 w43 w.heap.size (fun k_ => some k_ ≠ (v533 : Value).ownBlock) v527 t525) := ⟨by rw [hw_]; (with_reducible repeat (first | apply Kd.R_alloc | apply Kd.R_drewN | apply Kd.R_drew)); exact Kd.R_mono (Kd.R_far (p := ⟨gb549, 2, none⟩) (Kd.R_far (p := ⟨gb549, 1, none⟩) (Kd.R_far (p := ⟨gb549, 0, none⟩) (Kd.R_types HO_7.out BK549.out (by decide)) (fun _ hk => hk.2) (.int .i64 t544)) (fun _ hk => hk.2) (.bool t545)) (fun _ hk => hk.2) (.slice Ao42 t546.length co42)) (fun _ hk => hk.1)⟩
         have n2_ : Aside0 (Kd.R Kd.bool 4 w43 w.heap.size (fun k_ => some k_ ≠ (v535 : Value).ownBlock) (.slice Ao38 t526.length co38) t526) := ⟨by rw [hw_]; (with_reducible repeat (first | apply Kd.R_alloc | apply Kd.R_drewN | apply Kd.R_drew)); exact Kd.R_mono (Kd.R_far (p := ⟨gb549, 2, none⟩) (Kd.R_far (p := ⟨gb549, 1, none⟩) (Kd.R_far (p := ⟨gb549, 0, none⟩) (Kd.R_types HO_8.out BK549.out (by decide)) (fun _ hk => hk.2) (.int .i64 t544)) (fun _ hk => hk.2) (.bool t545)) (fun _ hk => hk.2) (.slice Ao42 t546.length co42)) (fun _ hk => hk.1)⟩
         have n3_ : Aside0 (Kd.R Kd.string 9 w43 w.heap.size (fun k_ => some k_ ≠ (v527 : Value).ownBlock) v533 t531) := ⟨by rw [hw_]; (with_reducible repeat (first | apply Kd.R_alloc | apply Kd.R_drewN | apply Kd.R_drew)); exact Kd.R_mono (Kd.R_far (p := ⟨gb549, 2, none⟩) (Kd.R_far (p := ⟨gb549, 1, none⟩) (Kd.R_far (p := ⟨gb549, 0, none⟩) (Kd.R_types HO_9.out BK549.out (by decide)) (fun _ hk => hk.2) (.int .i64 t544)) (fun _ hk => hk.2) (.bool t545)) (fun _ hk => hk.2) (.slice Ao42 t546.length co42)) (fun _ hk => hk.1)⟩
         have n4_ : Aside0 (Kd.R Kd.bool 4 w43 w.heap.size (fun k_ => some k_ ≠ (.slice Ao38 t526.length co38 : Value).ownBlock) v535 t532) := ⟨by rw [hw_]; (with_reducible repeat (first | apply Kd.R_alloc | apply Kd.R_drewN | apply Kd.R_drew)); exact Kd.R_mono (Kd.R_far (p := ⟨gb549, 2, none⟩) (Kd.R_far (p := ⟨gb549, 1, none⟩) (Kd.R_far (p := ⟨gb549, 0, none⟩) (Kd.R_types HO_10.out BK549.out (by decide)) (fun _ hk => hk.2) (.int .i64 t544)) (fun _ hk => hk.2) (.bool t545)) (fun _ hk => hk.2) (.slice Ao42 t546.length co42)) (fun _ hk => hk.1)⟩
         have n5_ : Aside0 (Kd.R k60 60 w43 w.heap.size (fun _ => True) (.slice Ao42 t546.length co42) t546) := ⟨by rw [hw_]; (with_reducible repeat (first | apply Kd.R_alloc | apply Kd.R_drewN | apply Kd.R_drew)); exact Kd.R_mono (Kd.R_far (p := ⟨gb549, 2, none⟩) (Kd.R_far (p := ⟨gb549, 1, none⟩) (Kd.R_far (p := ⟨gb549, 0, none⟩) (Kd.R_types HO548.out BK549.out (by decide)) (fun _ hk => hk.2) (.int .i64 t544)) (fun _ hk => hk.2) (.bool t545)) (fun _ hk => hk.2) (.slice Ao42 t546.length co42)) (fun _ hk => trivial)⟩
         have n6_ : Aside0 (w43.heap[gb549]? = some (.cells #[.int .i64 t544, .bool t545, .slice Ao42 t546.length co42] 35 (0, 0))) := ⟨by rw [hw_]; refine BD ?_; refine blk_put (cs := #[.int .i64 t544, .bool t545, .slice none 0 0]) ?_ 2 _ rfl; refine BD ?_; refine blk_put (cs := #[.int .i64 t544, .bool false, .slice none 0 0]) ?_ 1 _ rfl; refine BD ?_; refine blk_put (cs := #[.int .i64 0, .bool false, .slice none 0 0]) ?_ 0 _ rfl; refine BD ?_; exact BK549.out⟩
         have n7_ : Aside0 (Below w.heap.size w w43) := ⟨by rw [hw_]; exact (BB1 HB.out GE549.out)⟩
         (try clear HO_3)
         (try clear HO_7)
         (try clear HO_8)
         (try clear HO_9)
         (try clear HO_10)
         (try clear HO548)
         (try clear BK549)
         (try clear HB)
         clear hw_
         have HO_3 := n0_
         have HO_7 := n1_
         have HO_8 := n2_
         have HO_9 := n3_
         have HO_10 := n4_
         have HO548 := n5_
         have BK549 := n6_
         have HB := n7_
         clear n0_ n1_ n2_ n3_ n4_ n5_ n6_ n7_
         replace HO_3 := AM (Kd.S_drew HO_3.out); replace HO_7 := AM (Kd.R_drew HO_7.out); replace HO_8 := AM (Kd.R_drew HO_8.out); replace HO_9 := AM (Kd.R_drew HO_9.out); replace HO_10 := AM (Kd.R_drew HO_10.out); replace HO548 := AM (Kd.R_drew HO548.out); replace BK549 := AM (blk_drew BK549.out); replace HB := AM (below_drew1 HB.out)
         obtain ⟨Ao45, co45, eo45⟩ := Kd.R_slice HO_7.out
         (first | subst eo45 | (injection eo45 with f1_ f2_ f3_; have f4_ := f1_.symm; have f5_ := f3_.symm; clear f1_ f2_ f3_; subst f4_; subst f5_))
         obtain ⟨Ao46, co46, eo46⟩ := Kd.R_slice HO_9.out
         (first | subst eo46 | (injection eo46 with f1_ f2_ f3_; have f4_ := f1_.symm; have f5_ := f3_.symm; clear f1_ f2_ f3_; subst f4_; subst f5_))
         refine start_ (n := 30) (S := fun w' => w'.cell? ⟨gb549, 0, none⟩ = some (.int .i64 t544) ∧ w'.cell? ⟨gb549, 1, none⟩ = some (.bool t545) ∧ w'.cell? ⟨gb549, 2, none⟩ = some (.slice Ao42 t546.length co42)) (ds := []) (.replicate 30 false) (by kernel_rfl) rfl rfl ⟨(blk_cell BK549.out 0).trans rfl, (blk_cell BK549.out 1).trans rfl, (blk_cell BK549.out 2).trans rfl⟩ (fun hHeld => ?_); refine with_tabW laws_FnUnitsOf.tab21 laws_FnUnitsOf.bits21 (fun HT_ HW_ => ?_)
         generalize w43.drew = w44 at HO_3 HO_7 HO_8 HO_9 HO_10 HO548 BK549 HB hHeld ⊢
         refine PH 0 91 HT_.out ?_
         refine PH 1 92 HT_.out ?_
         refine OH 2 (some 93) HT_.out (fun K hK => ?_)
         refine GO Try.func12 #[.slice Ao45 t525.length co45, .slice Ao46 t531.length co46] ?_
         with_reducible refine (laws_sameTexts.calls k1 _ _ t525 _ _ t531 true _ ?side1 ?side2 ?side3 ?side4 A30.out).mono ?_
         (case side1 => exact CC (Kd.R_reads' HO_7.out).2.2)
         (case side2 => exact (Kd.R_reads' HO_7.out).2.1)
         (case side3 => exact CC (Kd.R_reads' HO_9.out).2.2)
         (case side4 => exact (Kd.R_reads' HO_9.out).2.1)
         rintro e w' ⟨rfl, ⟨nd, rfl⟩⟩
         refine ⟨_, rfl, ?_⟩
         obtain ⟨Ao47, co47, eo47⟩ := Kd.R_slice HO_10.out
         (first | subst eo47 | (injection eo47 with f1_ f2_ f3_; have f4_ := f1_.symm; have f5_ := f3_.symm; clear f1_ f2_ f3_; subst f4_; subst f5_))
         refine hK.out _ _ ⟨(blk_cell BK549.out 0).trans rfl, (blk_cell BK549.out 1).trans rfl, (blk_cell BK549.out 2).trans rfl⟩ (fun hHeld => ?_)
         clear hK K
         refine NM 93 ?_
         refine PH 3 94 HT_.out ?_
         refine PH 4 95 HT_.out ?_
         refine PH 5 96 HT_.out ?_
         refine OH 6 (some 97) HT_.out (fun K hK => ?_)
         refine GO Try.func13 #[.slice Ao38 t526.length co38, .slice Ao47 t532.length co47] ?_
         with_reducible refine (laws_sameBools.calls k1 _ _ t526 _ _ t532 true _ ?side1 ?side2 ?side3 ?side4 A32.out).mono ?_
         (case side1 => exact CC (Kd.R_reads' HO_8.out).2.2)
         (case side2 => exact (Kd.R_reads' HO_8.out).2.1)
         (case side3 => exact CC (Kd.R_reads' HO_10.out).2.2)
         (case side4 => exact (Kd.R_reads' HO_10.out).2.1)
         rintro e w' ⟨rfl, ⟨nd, rfl⟩⟩
         refine ⟨_, rfl, ?_⟩
         refine hK.out _ _ ⟨(blk_cell BK549.out 0).trans rfl, (blk_cell BK549.out 1).trans rfl, (blk_cell BK549.out 2).trans rfl⟩ (fun hHeld => ?_)
         clear hK K
         refine NM 97 ?_
         refine PH 7 98 HT_.out ?_
         refine PH 8 99 HT_.out ?_
         refine PH 9 100 HT_.out ?_
         refine PH 10 101 HT_.out ?_
         refine PH 11 102 HT_.out ?_
         refine PH 12 103 HT_.out ?_
         refine OH 13 (some 104) HT_.out (fun K hK => ?_)
         refine GO Try.func14 #[.slice Ao8 t519.length co8, .int .i64 t520, .int .i64 t521] ?_
         with_reducible refine (impl_LeftOf.calls k1 _ _ t519 t520 t521 t552 _ ?side1 ?side2 A34.out).mono ?_
         (case side1 => exact CC (Kd.S_reads' HO_3.out).2.2)
         (case side2 => exact (Kd.S_reads' HO_3.out).2.1)
         rintro e w48 ⟨rfl, hb⟩
         refine ⟨_, rfl, ?_⟩
         replace HO_3 := AM (Kd.S_below (SS HO_3.out) hb); replace HO_7 := AM (Kd.R_below (RR HO_7.out) hb); replace HO_8 := AM (Kd.R_below (RR HO_8.out) hb); replace HO_9 := AM (Kd.R_below (RR HO_9.out) hb); replace HO_10 := AM (Kd.R_below (RR HO_10.out) hb); replace HO548 := AM (Kd.R_below (RR HO548.out) hb); replace BK549 := AM (KB BK549.out hb); replace HB := AM (below_step (BB1 HB.out GE549.out) hb)
         (try clear hb)
         (try clear hb2)
         (try clear hk)
         (try clear hi)
         refine hK.out _ _ ⟨(blk_cell BK549.out 0).trans rfl, (blk_cell BK549.out 1).trans rfl, (blk_cell BK549.out 2).trans rfl⟩ (fun hHeld => ?_)
         clear hK K
         refine NM 104 ?_
         refine PH 14 105 HT_.out ?_
         refine PH 15 106 HT_.out ?_
         refine PH 16 107 HT_.out ?_
         refine PH 19 110 HT_.out ?_
         refine TH 17 108 HT_.out HW_.out hHeld ?_
         refine TH 20 111 HT_.out HW_.out hHeld ?_
         refine PH 21 112 HT_.out ?_
         refine OH 18 (some 109) HT_.out (fun K hK => ?_)
         refine GO Try.func15 #[.agg #[.int .i64 t544, .bool t545, .slice Ao42 t546.length co42]] ?_
         with_reducible refine (impl_LoadOf.calls t544 t545 _ _ t546 t553 _ ?side1 ?side2 A36.out).mono ?_
         (case side1 => exact CC (Kd.R_reads' HO548.out).2.2)
         (case side2 => exact (Kd.R_reads' HO548.out).2.1)
         rintro e w49 ⟨rfl, hb⟩
         refine ⟨_, rfl, ?_⟩
         replace HO_3 := AM (Kd.S_below (SS HO_3.out) hb); replace HO_7 := AM (Kd.R_below (RR HO_7.out) hb); replace HO_8 := AM (Kd.R_below (RR HO_8.out) hb); replace HO_9 := AM (Kd.R_below (RR HO_9.out) hb); replace HO_10 := AM (Kd.R_below (RR HO_10.out) hb); replace HO548 := AM (Kd.R_below (RR HO548.out) hb); replace BK549 := AM (KB BK549.out hb); replace HB := AM (below_step (BB1 HB.out GE549.out) hb)
         (try clear hb)
         (try clear hb2)
         (try clear hk)
         (try clear hi)
         refine hK.out _ _ ⟨(blk_cell BK549.out 0).trans rfl, (blk_cell BK549.out 1).trans rfl, (blk_cell BK549.out 2).trans rfl⟩ (fun hHeld => ?_)
         clear hK K
         refine NM 109 ?_
         refine PH 22 113 HT_.out ?_
         refine PH 23 114 HT_.out ?_
         refine PH 24 115 HT_.out ?_
         refine PH 25 116 HT_.out ?_
         refine PH 26 117 HT_.out ?_
         refine PH 27 118 HT_.out ?_
         refine PH 28 119 HT_.out ?_
         refine PH 29 2 HT_.out ?_
         refine done_ (done_of HT_.out (by kernel_rfl)) ?_
         try go_wp2
         go_ret
         exact ⟨ER, (BB1 HB.out GE549.out)⟩
        ·rw [if_neg c37] at H
         have c37b0 : (t553 == (t546.length : Int)) = false := beq_eq_false_iff_ne.mpr c37
         have c37b1 : (t553 != (t546.length : Int)) = true := bne_iff_ne.mpr c37
         obtain rfl := Option.some.inj H
         obtain ⟨Ao50, co50, eo50⟩ := Kd.R_slice HO_8.out
         subst eo50
         try go_wp2_with (first | ((with_reducible refine gate_callee (f := 11) rfl ?_); refine GL (some 90) rfl rfl Try.func11 #[.slice A0 l0.length c0] rfl ?_; (with_reducible refine (spec_DrawHost.calls k1 _ _ l0 t544 t545 t546 _ ?side1 ?side2 A29.out).mono ?_); (case side1 => exact CC (Kd.C_below HR0.out HB.out)); (case side2 => exact HC0.out); rintro e w51 ⟨v547, rfl, ho0, hb⟩; refine ⟨_, rfl, ?_⟩; have HO548 := AM (Kd.R_lower ho0 (below_size (BB HB.out))); replace HO_3 := AM (Kd.S_elder' (SS HO_3.out) (Kd.R_base ho0) hb); replace HO_7 := AM (Kd.R_below (RR HO_7.out) hb); replace HO_8 := AM (Kd.R_below (RR HO_8.out) hb); replace HO_9 := AM (Kd.R_below (RR HO_9.out) hb); replace HO_10 := AM (Kd.R_below (RR HO_10.out) hb); replace HB := AM (below_step (BB HB.out) hb); (try clear hb); (try clear ho0)) | ((with_reducible refine gate_dst (N := 17) rfl ?_); (try (refine gate_guard (by rfl) ?_; dsimp only)); refine BX 17 #[.int .i64 0, .bool false, .slice none 0 0] 35 ?_; intro gb549 hg w52 hbox hb; have BK549 := AM (hbox); have GW549 : Aside0 (w.heap.size ≤ gb549) := WG hg (BB HB.out); have GE549 := GW549; replace HO_3 := AM (Kd.S_below (Kd.S_elderB (SS HO_3.out) gb549 (Nat.le_of_eq hg.symm)) hb); replace HO_7 := AM (Kd.R_below (RR HO_7.out) hb); replace HO_8 := AM (Kd.R_below (RR HO_8.out) hb); replace HO_9 := AM (Kd.R_below (RR HO_9.out) hb); replace HO_10 := AM (Kd.R_below (RR HO_10.out) hb); replace HO548 := AM (Kd.R_below (RR HO548.out) hb); replace HB := AM (below_step (BB HB.out) hb); clear hb hbox hg; have hcz53 := blk_cell BK549.out; have hfz53 := blk_frozen BK549.out; obtain ⟨Ao54, co54, eo54⟩ := Kd.R_slice HO548.out; subst eo54))
         obtain ⟨w55, hw_⟩ : ∃ w_, w_ = (((w52.setCell ⟨gb549, 0, none⟩ (.int .i64 t544)).setCell ⟨gb549, 1, none⟩ (.bool t545)).setCell ⟨gb549, 2, none⟩ (.slice Ao54 t546.length co54)) := ⟨_, rfl⟩
         rw [← hw_]
         have n0_ : Aside0 (Kd.S k35 35 w55 w.heap.size (fun k_ => some k_ ≠ (.slice Ao54 t546.length co54 : Value).ownBlock ∧ k_ ≠ gb549) (.slice Ao8 t519.length co8) t519) := ⟨by rw [hw_]; (with_reducible repeat (first | apply Kd.S_alloc | apply Kd.S_drewN | apply Kd.S_drew)); exact Kd.S_mono (Kd.S_far (p := ⟨gb549, 2, none⟩) (Kd.S_far (p := ⟨gb549, 1, none⟩) (Kd.S_far (p := ⟨gb549, 0, none⟩) (Kd.S_mono HO_3.out (fun k_ hk => (⟨hk, hk.2⟩ : _ ∧ k_ ≠ gb549))) (fun _ hk => hk.2) (.int .i64 t544)) (fun _ hk => hk.2) (.bool t545)) (fun _ hk => hk.2) (.slice Ao54 t546.length co54)) (fun _ hk => ⟨hk.1.1.2, hk.1.2⟩)⟩
         have n1_ : Aside0 (Kd.R Kd.string 9 w55 w.heap.size (fun k_ => some k_ ≠ (v533 : Value).ownBlock) v527 t525) := ⟨by rw [hw_]; (with_reducible repeat (first | apply Kd.R_alloc | apply Kd.R_drewN | apply Kd.R_drew)); exact Kd.R_mono (Kd.R_far (p := ⟨gb549, 2, none⟩) (Kd.R_far (p := ⟨gb549, 1, none⟩) (Kd.R_far (p := ⟨gb549, 0, none⟩) (Kd.R_types HO_7.out BK549.out (by decide)) (fun _ hk => hk.2) (.int .i64 t544)) (fun _ hk => hk.2) (.bool t545)) (fun _ hk => hk.2) (.slice Ao54 t546.length co54)) (fun _ hk => hk.1)⟩
         have n2_ : Aside0 (Kd.R Kd.bool 4 w55 w.heap.size (fun k_ => some k_ ≠ (v535 : Value).ownBlock) (.slice Ao50 t526.length co50) t526) := ⟨by rw [hw_]; (with_reducible repeat (first | apply Kd.R_alloc | apply Kd.R_drewN | apply Kd.R_drew)); exact Kd.R_mono (Kd.R_far (p := ⟨gb549, 2, none⟩) (Kd.R_far (p := ⟨gb549, 1, none⟩) (Kd.R_far (p := ⟨gb549, 0, none⟩) (Kd.R_types HO_8.out BK549.out (by decide)) (fun _ hk => hk.2) (.int .i64 t544)) (fun _ hk => hk.2) (.bool t545)) (fun _ hk => hk.2) (.slice Ao54 t546.length co54)) (fun _ hk => hk.1)⟩
         have n3_ : Aside0 (Kd.R Kd.string 9 w55 w.heap.size (fun k_ => some k_ ≠ (v527 : Value).ownBlock) v533 t531) := ⟨by rw [hw_]; (with_reducible repeat (first | apply Kd.R_alloc | apply Kd.R_drewN | apply Kd.R_drew)); exact Kd.R_mono (Kd.R_far (p := ⟨gb549, 2, none⟩) (Kd.R_far (p := ⟨gb549, 1, none⟩) (Kd.R_far (p := ⟨gb549, 0, none⟩) (Kd.R_types HO_9.out BK549.out (by decide)) (fun _ hk => hk.2) (.int .i64 t544)) (fun _ hk => hk.2) (.bool t545)) (fun _ hk => hk.2) (.slice Ao54 t546.length co54)) (fun _ hk => hk.1)⟩
         have n4_ : Aside0 (Kd.R Kd.bool 4 w55 w.heap.size (fun k_ => some k_ ≠ (.slice Ao50 t526.length co50 : Value).ownBlock) v535 t532) := ⟨by rw [hw_]; (with_reducible repeat (first | apply Kd.R_alloc | apply Kd.R_drewN | apply Kd.R_drew)); exact Kd.R_mono (Kd.R_far (p := ⟨gb549, 2, none⟩) (Kd.R_far (p := ⟨gb549, 1, none⟩) (Kd.R_far (p := ⟨gb549, 0, none⟩) (Kd.R_types HO_10.out BK549.out (by decide)) (fun _ hk => hk.2) (.int .i64 t544)) (fun _ hk => hk.2) (.bool t545)) (fun _ hk => hk.2) (.slice Ao54 t546.length co54)) (fun _ hk => hk.1)⟩
         have n5_ : Aside0 (Kd.R k60 60 w55 w.heap.size (fun _ => True) (.slice Ao54 t546.length co54) t546) := ⟨by rw [hw_]; (with_reducible repeat (first | apply Kd.R_alloc | apply Kd.R_drewN | apply Kd.R_drew)); exact Kd.R_mono (Kd.R_far (p := ⟨gb549, 2, none⟩) (Kd.R_far (p := ⟨gb549, 1, none⟩) (Kd.R_far (p := ⟨gb549, 0, none⟩) (Kd.R_types HO548.out BK549.out (by decide)) (fun _ hk => hk.2) (.int .i64 t544)) (fun _ hk => hk.2) (.bool t545)) (fun _ hk => hk.2) (.slice Ao54 t546.length co54)) (fun _ hk => trivial)⟩
         have n6_ : Aside0 (w55.heap[gb549]? = some (.cells #[.int .i64 t544, .bool t545, .slice Ao54 t546.length co54] 35 (0, 0))) := ⟨by rw [hw_]; refine BD ?_; refine blk_put (cs := #[.int .i64 t544, .bool t545, .slice none 0 0]) ?_ 2 _ rfl; refine BD ?_; refine blk_put (cs := #[.int .i64 t544, .bool false, .slice none 0 0]) ?_ 1 _ rfl; refine BD ?_; refine blk_put (cs := #[.int .i64 0, .bool false, .slice none 0 0]) ?_ 0 _ rfl; refine BD ?_; exact BK549.out⟩
         have n7_ : Aside0 (Below w.heap.size w w55) := ⟨by rw [hw_]; exact (BB1 HB.out GE549.out)⟩
         (try clear HO_3)
         (try clear HO_7)
         (try clear HO_8)
         (try clear HO_9)
         (try clear HO_10)
         (try clear HO548)
         (try clear BK549)
         (try clear HB)
         clear hw_
         have HO_3 := n0_
         have HO_7 := n1_
         have HO_8 := n2_
         have HO_9 := n3_
         have HO_10 := n4_
         have HO548 := n5_
         have BK549 := n6_
         have HB := n7_
         clear n0_ n1_ n2_ n3_ n4_ n5_ n6_ n7_
         replace HO_3 := AM (Kd.S_drew HO_3.out); replace HO_7 := AM (Kd.R_drew HO_7.out); replace HO_8 := AM (Kd.R_drew HO_8.out); replace HO_9 := AM (Kd.R_drew HO_9.out); replace HO_10 := AM (Kd.R_drew HO_10.out); replace HO548 := AM (Kd.R_drew HO548.out); replace BK549 := AM (blk_drew BK549.out); replace HB := AM (below_drew1 HB.out)
         obtain ⟨Ao57, co57, eo57⟩ := Kd.R_slice HO_7.out
         (first | subst eo57 | (injection eo57 with f1_ f2_ f3_; have f4_ := f1_.symm; have f5_ := f3_.symm; clear f1_ f2_ f3_; subst f4_; subst f5_))
         obtain ⟨Ao58, co58, eo58⟩ := Kd.R_slice HO_9.out
         (first | subst eo58 | (injection eo58 with f1_ f2_ f3_; have f4_ := f1_.symm; have f5_ := f3_.symm; clear f1_ f2_ f3_; subst f4_; subst f5_))
         refine start_ (n := 30) (S := fun w' => w'.cell? ⟨gb549, 0, none⟩ = some (.int .i64 t544) ∧ w'.cell? ⟨gb549, 1, none⟩ = some (.bool t545) ∧ w'.cell? ⟨gb549, 2, none⟩ = some (.slice Ao54 t546.length co54)) (ds := []) (.replicate 30 false) (by kernel_rfl) rfl rfl ⟨(blk_cell BK549.out 0).trans rfl, (blk_cell BK549.out 1).trans rfl, (blk_cell BK549.out 2).trans rfl⟩ (fun hHeld => ?_); refine with_tabW laws_FnUnitsOf.tab21 laws_FnUnitsOf.bits21 (fun HT_ HW_ => ?_)
         generalize w55.drew = w56 at HO_3 HO_7 HO_8 HO_9 HO_10 HO548 BK549 HB hHeld ⊢
         refine PH 0 91 HT_.out ?_
         refine PH 1 92 HT_.out ?_
         refine OH 2 (some 93) HT_.out (fun K hK => ?_)
         refine GO Try.func12 #[.slice Ao57 t525.length co57, .slice Ao58 t531.length co58] ?_
         with_reducible refine (laws_sameTexts.calls k1 _ _ t525 _ _ t531 true _ ?side1 ?side2 ?side3 ?side4 A30.out).mono ?_
         (case side1 => exact CC (Kd.R_reads' HO_7.out).2.2)
         (case side2 => exact (Kd.R_reads' HO_7.out).2.1)
         (case side3 => exact CC (Kd.R_reads' HO_9.out).2.2)
         (case side4 => exact (Kd.R_reads' HO_9.out).2.1)
         rintro e w' ⟨rfl, ⟨nd, rfl⟩⟩
         refine ⟨_, rfl, ?_⟩
         obtain ⟨Ao59, co59, eo59⟩ := Kd.R_slice HO_10.out
         (first | subst eo59 | (injection eo59 with f1_ f2_ f3_; have f4_ := f1_.symm; have f5_ := f3_.symm; clear f1_ f2_ f3_; subst f4_; subst f5_))
         refine hK.out _ _ ⟨(blk_cell BK549.out 0).trans rfl, (blk_cell BK549.out 1).trans rfl, (blk_cell BK549.out 2).trans rfl⟩ (fun hHeld => ?_)
         clear hK K
         refine NM 93 ?_
         refine PH 3 94 HT_.out ?_
         refine PH 4 95 HT_.out ?_
         refine PH 5 96 HT_.out ?_
         refine OH 6 (some 97) HT_.out (fun K hK => ?_)
         refine GO Try.func13 #[.slice Ao50 t526.length co50, .slice Ao59 t532.length co59] ?_
         with_reducible refine (laws_sameBools.calls k1 _ _ t526 _ _ t532 true _ ?side1 ?side2 ?side3 ?side4 A32.out).mono ?_
         (case side1 => exact CC (Kd.R_reads' HO_8.out).2.2)
         (case side2 => exact (Kd.R_reads' HO_8.out).2.1)
         (case side3 => exact CC (Kd.R_reads' HO_10.out).2.2)
         (case side4 => exact (Kd.R_reads' HO_10.out).2.1)
         rintro e w' ⟨rfl, ⟨nd, rfl⟩⟩
         refine ⟨_, rfl, ?_⟩
         refine hK.out _ _ ⟨(blk_cell BK549.out 0).trans rfl, (blk_cell BK549.out 1).trans rfl, (blk_cell BK549.out 2).trans rfl⟩ (fun hHeld => ?_)
         clear hK K
         refine NM 97 ?_
         refine PH 7 98 HT_.out ?_
         refine PH 8 99 HT_.out ?_
         refine PH 9 100 HT_.out ?_
         refine PH 10 101 HT_.out ?_
         refine PH 11 102 HT_.out ?_
         refine PH 12 103 HT_.out ?_
         refine OH 13 (some 104) HT_.out (fun K hK => ?_)
         refine GO Try.func14 #[.slice Ao8 t519.length co8, .int .i64 t520, .int .i64 t521] ?_
         with_reducible refine (impl_LeftOf.calls k1 _ _ t519 t520 t521 t552 _ ?side1 ?side2 A34.out).mono ?_
         (case side1 => exact CC (Kd.S_reads' HO_3.out).2.2)
         (case side2 => exact (Kd.S_reads' HO_3.out).2.1)
         rintro e w60 ⟨rfl, hb⟩
         refine ⟨_, rfl, ?_⟩
         replace HO_3 := AM (Kd.S_below (SS HO_3.out) hb); replace HO_7 := AM (Kd.R_below (RR HO_7.out) hb); replace HO_8 := AM (Kd.R_below (RR HO_8.out) hb); replace HO_9 := AM (Kd.R_below (RR HO_9.out) hb); replace HO_10 := AM (Kd.R_below (RR HO_10.out) hb); replace HO548 := AM (Kd.R_below (RR HO548.out) hb); replace BK549 := AM (KB BK549.out hb); replace HB := AM (below_step (BB1 HB.out GE549.out) hb)
         (try clear hb)
         (try clear hb2)
         (try clear hk)
         (try clear hi)
         refine hK.out _ _ ⟨(blk_cell BK549.out 0).trans rfl, (blk_cell BK549.out 1).trans rfl, (blk_cell BK549.out 2).trans rfl⟩ (fun hHeld => ?_)
         clear hK K
         refine NM 104 ?_
         refine PH 14 105 HT_.out ?_
         refine PH 15 106 HT_.out ?_
         refine PH 16 107 HT_.out ?_
         refine PH 19 110 HT_.out ?_
         refine TH 17 108 HT_.out HW_.out hHeld ?_
         refine TH 20 111 HT_.out HW_.out hHeld ?_
         refine PH 21 112 HT_.out ?_
         refine OH 18 (some 109) HT_.out (fun K hK => ?_)
         refine GO Try.func15 #[.agg #[.int .i64 t544, .bool t545, .slice Ao54 t546.length co54]] ?_
         with_reducible refine (impl_LoadOf.calls t544 t545 _ _ t546 t553 _ ?side1 ?side2 A36.out).mono ?_
         (case side1 => exact CC (Kd.R_reads' HO548.out).2.2)
         (case side2 => exact (Kd.R_reads' HO548.out).2.1)
         rintro e w61 ⟨rfl, hb⟩
         refine ⟨_, rfl, ?_⟩
         replace HO_3 := AM (Kd.S_below (SS HO_3.out) hb); replace HO_7 := AM (Kd.R_below (RR HO_7.out) hb); replace HO_8 := AM (Kd.R_below (RR HO_8.out) hb); replace HO_9 := AM (Kd.R_below (RR HO_9.out) hb); replace HO_10 := AM (Kd.R_below (RR HO_10.out) hb); replace HO548 := AM (Kd.R_below (RR HO548.out) hb); replace BK549 := AM (KB BK549.out hb); replace HB := AM (below_step (BB1 HB.out GE549.out) hb)
         (try clear hb)
         (try clear hb2)
         (try clear hk)
         (try clear hi)
         refine hK.out _ _ ⟨(blk_cell BK549.out 0).trans rfl, (blk_cell BK549.out 1).trans rfl, (blk_cell BK549.out 2).trans rfl⟩ (fun hHeld => ?_)
         clear hK K
         refine NM 109 ?_
         refine PH 22 113 HT_.out ?_
         refine PH 23 114 HT_.out ?_
         refine PH 24 115 HT_.out ?_
         refine PO 25 116 HT_.out ?_
         refine PO 26 117 HT_.out ?_
         refine PO 27 118 HT_.out ?_
         refine PH 28 119 HT_.out ?_
         refine PH 29 2 HT_.out ?_
         refine done_ (done_of HT_.out (by kernel_rfl)) ?_
         try go_wp2
         go_ret
         exact ⟨ER, (BB1 HB.out GE549.out)⟩
       ·rw [if_neg c35] at H
        have c35b0 : (x11_1 == t552) = false := beq_eq_false_iff_ne.mpr c35
        have c35b1 : (x11_1 != t552) = true := bne_iff_ne.mpr c35
        obtain rfl := Option.some.inj H
        obtain ⟨Ao62, co62, eo62⟩ := Kd.R_slice HO_8.out
        subst eo62
        try go_wp2_with (first | ((with_reducible refine gate_callee (f := 11) rfl ?_); refine GL (some 90) rfl rfl Try.func11 #[.slice A0 l0.length c0] rfl ?_; (with_reducible refine (spec_DrawHost.calls k1 _ _ l0 t544 t545 t546 _ ?side1 ?side2 A29.out).mono ?_); (case side1 => exact CC (Kd.C_below HR0.out HB.out)); (case side2 => exact HC0.out); rintro e w63 ⟨v547, rfl, ho0, hb⟩; refine ⟨_, rfl, ?_⟩; have HO548 := AM (Kd.R_lower ho0 (below_size (BB HB.out))); replace HO_3 := AM (Kd.S_elder' (SS HO_3.out) (Kd.R_base ho0) hb); replace HO_7 := AM (Kd.R_below (RR HO_7.out) hb); replace HO_8 := AM (Kd.R_below (RR HO_8.out) hb); replace HO_9 := AM (Kd.R_below (RR HO_9.out) hb); replace HO_10 := AM (Kd.R_below (RR HO_10.out) hb); replace HB := AM (below_step (BB HB.out) hb); (try clear hb); (try clear ho0)) | ((with_reducible refine gate_dst (N := 17) rfl ?_); (try (refine gate_guard (by rfl) ?_; dsimp only)); refine BX 17 #[.int .i64 0, .bool false, .slice none 0 0] 35 ?_; intro gb549 hg w64 hbox hb; have BK549 := AM (hbox); have GW549 : Aside0 (w.heap.size ≤ gb549) := WG hg (BB HB.out); have GE549 := GW549; replace HO_3 := AM (Kd.S_below (Kd.S_elderB (SS HO_3.out) gb549 (Nat.le_of_eq hg.symm)) hb); replace HO_7 := AM (Kd.R_below (RR HO_7.out) hb); replace HO_8 := AM (Kd.R_below (RR HO_8.out) hb); replace HO_9 := AM (Kd.R_below (RR HO_9.out) hb); replace HO_10 := AM (Kd.R_below (RR HO_10.out) hb); replace HO548 := AM (Kd.R_below (RR HO548.out) hb); replace HB := AM (below_step (BB HB.out) hb); clear hb hbox hg; have hcz65 := blk_cell BK549.out; have hfz65 := blk_frozen BK549.out; obtain ⟨Ao66, co66, eo66⟩ := Kd.R_slice HO548.out; subst eo66))
        obtain ⟨w67, hw_⟩ : ∃ w_, w_ = (((w64.setCell ⟨gb549, 0, none⟩ (.int .i64 t544)).setCell ⟨gb549, 1, none⟩ (.bool t545)).setCell ⟨gb549, 2, none⟩ (.slice Ao66 t546.length co66)) := ⟨_, rfl⟩
        rw [← hw_]
        have n0_ : Aside0 (Kd.S k35 35 w67 w.heap.size (fun k_ => some k_ ≠ (.slice Ao66 t546.length co66 : Value).ownBlock ∧ k_ ≠ gb549) (.slice Ao8 t519.length co8) t519) := ⟨by rw [hw_]; (with_reducible repeat (first | apply Kd.S_alloc | apply Kd.S_drewN | apply Kd.S_drew)); exact Kd.S_mono (Kd.S_far (p := ⟨gb549, 2, none⟩) (Kd.S_far (p := ⟨gb549, 1, none⟩) (Kd.S_far (p := ⟨gb549, 0, none⟩) (Kd.S_mono HO_3.out (fun k_ hk => (⟨hk, hk.2⟩ : _ ∧ k_ ≠ gb549))) (fun _ hk => hk.2) (.int .i64 t544)) (fun _ hk => hk.2) (.bool t545)) (fun _ hk => hk.2) (.slice Ao66 t546.length co66)) (fun _ hk => ⟨hk.1.1.2, hk.1.2⟩)⟩
        have n1_ : Aside0 (Kd.R Kd.string 9 w67 w.heap.size (fun k_ => some k_ ≠ (v533 : Value).ownBlock) v527 t525) := ⟨by rw [hw_]; (with_reducible repeat (first | apply Kd.R_alloc | apply Kd.R_drewN | apply Kd.R_drew)); exact Kd.R_mono (Kd.R_far (p := ⟨gb549, 2, none⟩) (Kd.R_far (p := ⟨gb549, 1, none⟩) (Kd.R_far (p := ⟨gb549, 0, none⟩) (Kd.R_types HO_7.out BK549.out (by decide)) (fun _ hk => hk.2) (.int .i64 t544)) (fun _ hk => hk.2) (.bool t545)) (fun _ hk => hk.2) (.slice Ao66 t546.length co66)) (fun _ hk => hk.1)⟩
        have n2_ : Aside0 (Kd.R Kd.bool 4 w67 w.heap.size (fun k_ => some k_ ≠ (v535 : Value).ownBlock) (.slice Ao62 t526.length co62) t526) := ⟨by rw [hw_]; (with_reducible repeat (first | apply Kd.R_alloc | apply Kd.R_drewN | apply Kd.R_drew)); exact Kd.R_mono (Kd.R_far (p := ⟨gb549, 2, none⟩) (Kd.R_far (p := ⟨gb549, 1, none⟩) (Kd.R_far (p := ⟨gb549, 0, none⟩) (Kd.R_types HO_8.out BK549.out (by decide)) (fun _ hk => hk.2) (.int .i64 t544)) (fun _ hk => hk.2) (.bool t545)) (fun _ hk => hk.2) (.slice Ao66 t546.length co66)) (fun _ hk => hk.1)⟩
        have n3_ : Aside0 (Kd.R Kd.string 9 w67 w.heap.size (fun k_ => some k_ ≠ (v527 : Value).ownBlock) v533 t531) := ⟨by rw [hw_]; (with_reducible repeat (first | apply Kd.R_alloc | apply Kd.R_drewN | apply Kd.R_drew)); exact Kd.R_mono (Kd.R_far (p := ⟨gb549, 2, none⟩) (Kd.R_far (p := ⟨gb549, 1, none⟩) (Kd.R_far (p := ⟨gb549, 0, none⟩) (Kd.R_types HO_9.out BK549.out (by decide)) (fun _ hk => hk.2) (.int .i64 t544)) (fun _ hk => hk.2) (.bool t545)) (fun _ hk => hk.2) (.slice Ao66 t546.length co66)) (fun _ hk => hk.1)⟩
        have n4_ : Aside0 (Kd.R Kd.bool 4 w67 w.heap.size (fun k_ => some k_ ≠ (.slice Ao62 t526.length co62 : Value).ownBlock) v535 t532) := ⟨by rw [hw_]; (with_reducible repeat (first | apply Kd.R_alloc | apply Kd.R_drewN | apply Kd.R_drew)); exact Kd.R_mono (Kd.R_far (p := ⟨gb549, 2, none⟩) (Kd.R_far (p := ⟨gb549, 1, none⟩) (Kd.R_far (p := ⟨gb549, 0, none⟩) (Kd.R_types HO_10.out BK549.out (by decide)) (fun _ hk => hk.2) (.int .i64 t544)) (fun _ hk => hk.2) (.bool t545)) (fun _ hk => hk.2) (.slice Ao66 t546.length co66)) (fun _ hk => hk.1)⟩
        have n5_ : Aside0 (Kd.R k60 60 w67 w.heap.size (fun _ => True) (.slice Ao66 t546.length co66) t546) := ⟨by rw [hw_]; (with_reducible repeat (first | apply Kd.R_alloc | apply Kd.R_drewN | apply Kd.R_drew)); exact Kd.R_mono (Kd.R_far (p := ⟨gb549, 2, none⟩) (Kd.R_far (p := ⟨gb549, 1, none⟩) (Kd.R_far (p := ⟨gb549, 0, none⟩) (Kd.R_types HO548.out BK549.out (by decide)) (fun _ hk => hk.2) (.int .i64 t544)) (fun _ hk => hk.2) (.bool t545)) (fun _ hk => hk.2) (.slice Ao66 t546.length co66)) (fun _ hk => trivial)⟩
        have n6_ : Aside0 (w67.heap[gb549]? = some (.cells #[.int .i64 t544, .bool t545, .slice Ao66 t546.length co66] 35 (0, 0))) := ⟨by rw [hw_]; refine BD ?_; refine blk_put (cs := #[.int .i64 t544, .bool t545, .slice none 0 0]) ?_ 2 _ rfl; refine BD ?_; refine blk_put (cs := #[.int .i64 t544, .bool false, .slice none 0 0]) ?_ 1 _ rfl; refine BD ?_; refine blk_put (cs := #[.int .i64 0, .bool false, .slice none 0 0]) ?_ 0 _ rfl; refine BD ?_; exact BK549.out⟩
        have n7_ : Aside0 (Below w.heap.size w w67) := ⟨by rw [hw_]; exact (BB1 HB.out GE549.out)⟩
        (try clear HO_3)
        (try clear HO_7)
        (try clear HO_8)
        (try clear HO_9)
        (try clear HO_10)
        (try clear HO548)
        (try clear BK549)
        (try clear HB)
        clear hw_
        have HO_3 := n0_
        have HO_7 := n1_
        have HO_8 := n2_
        have HO_9 := n3_
        have HO_10 := n4_
        have HO548 := n5_
        have BK549 := n6_
        have HB := n7_
        clear n0_ n1_ n2_ n3_ n4_ n5_ n6_ n7_
        replace HO_3 := AM (Kd.S_drew HO_3.out); replace HO_7 := AM (Kd.R_drew HO_7.out); replace HO_8 := AM (Kd.R_drew HO_8.out); replace HO_9 := AM (Kd.R_drew HO_9.out); replace HO_10 := AM (Kd.R_drew HO_10.out); replace HO548 := AM (Kd.R_drew HO548.out); replace BK549 := AM (blk_drew BK549.out); replace HB := AM (below_drew1 HB.out)
        obtain ⟨Ao69, co69, eo69⟩ := Kd.R_slice HO_7.out
        (first | subst eo69 | (injection eo69 with f1_ f2_ f3_; have f4_ := f1_.symm; have f5_ := f3_.symm; clear f1_ f2_ f3_; subst f4_; subst f5_))
        obtain ⟨Ao70, co70, eo70⟩ := Kd.R_slice HO_9.out
        (first | subst eo70 | (injection eo70 with f1_ f2_ f3_; have f4_ := f1_.symm; have f5_ := f3_.symm; clear f1_ f2_ f3_; subst f4_; subst f5_))
        refine start_ (n := 30) (S := fun w' => True) (ds := []) (.replicate 30 false) (by kernel_rfl) rfl rfl trivial (fun hHeld => ?_); refine with_tabW laws_FnUnitsOf.tab21 laws_FnUnitsOf.bits21 (fun HT_ HW_ => ?_)
        generalize w67.drew = w68 at HO_3 HO_7 HO_8 HO_9 HO_10 HO548 BK549 HB hHeld ⊢
        refine PH 0 91 HT_.out ?_
        refine PH 1 92 HT_.out ?_
        refine OH 2 (some 93) HT_.out (fun K hK => ?_)
        refine GO Try.func12 #[.slice Ao69 t525.length co69, .slice Ao70 t531.length co70] ?_
        with_reducible refine (laws_sameTexts.calls k1 _ _ t525 _ _ t531 true _ ?side1 ?side2 ?side3 ?side4 A30.out).mono ?_
        (case side1 => exact CC (Kd.R_reads' HO_7.out).2.2)
        (case side2 => exact (Kd.R_reads' HO_7.out).2.1)
        (case side3 => exact CC (Kd.R_reads' HO_9.out).2.2)
        (case side4 => exact (Kd.R_reads' HO_9.out).2.1)
        rintro e w' ⟨rfl, ⟨nd, rfl⟩⟩
        refine ⟨_, rfl, ?_⟩
        obtain ⟨Ao71, co71, eo71⟩ := Kd.R_slice HO_10.out
        (first | subst eo71 | (injection eo71 with f1_ f2_ f3_; have f4_ := f1_.symm; have f5_ := f3_.symm; clear f1_ f2_ f3_; subst f4_; subst f5_))
        refine hK.out _ _ trivial (fun hHeld => ?_)
        clear hK K
        refine NM 93 ?_
        refine PH 3 94 HT_.out ?_
        refine PH 4 95 HT_.out ?_
        refine PH 5 96 HT_.out ?_
        refine OH 6 (some 97) HT_.out (fun K hK => ?_)
        refine GO Try.func13 #[.slice Ao62 t526.length co62, .slice Ao71 t532.length co71] ?_
        with_reducible refine (laws_sameBools.calls k1 _ _ t526 _ _ t532 true _ ?side1 ?side2 ?side3 ?side4 A32.out).mono ?_
        (case side1 => exact CC (Kd.R_reads' HO_8.out).2.2)
        (case side2 => exact (Kd.R_reads' HO_8.out).2.1)
        (case side3 => exact CC (Kd.R_reads' HO_10.out).2.2)
        (case side4 => exact (Kd.R_reads' HO_10.out).2.1)
        rintro e w' ⟨rfl, ⟨nd, rfl⟩⟩
        refine ⟨_, rfl, ?_⟩
        refine hK.out _ _ trivial (fun hHeld => ?_)
        clear hK K
        refine NM 97 ?_
        refine PH 7 98 HT_.out ?_
        refine PH 8 99 HT_.out ?_
        refine PH 9 100 HT_.out ?_
        refine PH 10 101 HT_.out ?_
        refine PH 11 102 HT_.out ?_
        refine PH 12 103 HT_.out ?_
        refine OH 13 (some 104) HT_.out (fun K hK => ?_)
        refine GO Try.func14 #[.slice Ao8 t519.length co8, .int .i64 t520, .int .i64 t521] ?_
        with_reducible refine (impl_LeftOf.calls k1 _ _ t519 t520 t521 t552 _ ?side1 ?side2 A34.out).mono ?_
        (case side1 => exact CC (Kd.S_reads' HO_3.out).2.2)
        (case side2 => exact (Kd.S_reads' HO_3.out).2.1)
        rintro e w72 ⟨rfl, hb⟩
        refine ⟨_, rfl, ?_⟩
        replace HO_3 := AM (Kd.S_below (SS HO_3.out) hb); replace HO_7 := AM (Kd.R_below (RR HO_7.out) hb); replace HO_8 := AM (Kd.R_below (RR HO_8.out) hb); replace HO_9 := AM (Kd.R_below (RR HO_9.out) hb); replace HO_10 := AM (Kd.R_below (RR HO_10.out) hb); replace HO548 := AM (Kd.R_below (RR HO548.out) hb); replace BK549 := AM (KB BK549.out hb); replace HB := AM (below_step (BB1 HB.out GE549.out) hb)
        (try clear hb)
        (try clear hb2)
        (try clear hk)
        (try clear hi)
        refine hK.out _ _ trivial (fun hHeld => ?_)
        clear hK K
        refine NM 104 ?_
        refine PH 14 105 HT_.out ?_
        refine PH 15 106 HT_.out ?_
        refine PH 16 107 HT_.out ?_
        refine PO 17 108 HT_.out ?_
        refine PO 18 109 HT_.out ?_
        refine PO 19 110 HT_.out ?_
        refine PO 20 111 HT_.out ?_
        refine PO 21 112 HT_.out ?_
        refine PO 22 113 HT_.out ?_
        refine PH 23 114 HT_.out ?_
        refine PH 24 115 HT_.out ?_
        refine PO 25 116 HT_.out ?_
        refine PO 26 117 HT_.out ?_
        refine PO 27 118 HT_.out ?_
        refine PH 28 119 HT_.out ?_
        refine PH 29 2 HT_.out ?_
        refine done_ (done_of HT_.out (by kernel_rfl)) ?_
        try go_wp2
        go_ret
        exact ⟨ER, (BB1 HB.out GE549.out)⟩
      ·replace c33 := Bool.eq_false_iff.mpr c33
       subst c33
       have H1 : (some false) = some r := by rw [if_neg (show ¬ (false = true) by decide)] at H; exact H
       clear H
       have H := H1
       clear H1
       obtain rfl := Option.some.inj H
       obtain ⟨Ao73, co73, eo73⟩ := Kd.R_slice HO_8.out
       subst eo73
       try go_wp2_with (first | ((with_reducible refine gate_callee (f := 11) rfl ?_); refine GL (some 90) rfl rfl Try.func11 #[.slice A0 l0.length c0] rfl ?_; (with_reducible refine (spec_DrawHost.calls k1 _ _ l0 t544 t545 t546 _ ?side1 ?side2 A29.out).mono ?_); (case side1 => exact CC (Kd.C_below HR0.out HB.out)); (case side2 => exact HC0.out); rintro e w74 ⟨v547, rfl, ho0, hb⟩; refine ⟨_, rfl, ?_⟩; have HO548 := AM (Kd.R_lower ho0 (below_size (BB HB.out))); replace HO_3 := AM (Kd.S_elder' (SS HO_3.out) (Kd.R_base ho0) hb); replace HO_7 := AM (Kd.R_below (RR HO_7.out) hb); replace HO_8 := AM (Kd.R_below (RR HO_8.out) hb); replace HO_9 := AM (Kd.R_below (RR HO_9.out) hb); replace HO_10 := AM (Kd.R_below (RR HO_10.out) hb); replace HB := AM (below_step (BB HB.out) hb); (try clear hb); (try clear ho0)) | ((with_reducible refine gate_dst (N := 17) rfl ?_); (try (refine gate_guard (by rfl) ?_; dsimp only)); refine BX 17 #[.int .i64 0, .bool false, .slice none 0 0] 35 ?_; intro gb549 hg w75 hbox hb; have BK549 := AM (hbox); have GW549 : Aside0 (w.heap.size ≤ gb549) := WG hg (BB HB.out); have GE549 := GW549; replace HO_3 := AM (Kd.S_below (Kd.S_elderB (SS HO_3.out) gb549 (Nat.le_of_eq hg.symm)) hb); replace HO_7 := AM (Kd.R_below (RR HO_7.out) hb); replace HO_8 := AM (Kd.R_below (RR HO_8.out) hb); replace HO_9 := AM (Kd.R_below (RR HO_9.out) hb); replace HO_10 := AM (Kd.R_below (RR HO_10.out) hb); replace HO548 := AM (Kd.R_below (RR HO548.out) hb); replace HB := AM (below_step (BB HB.out) hb); clear hb hbox hg; have hcz76 := blk_cell BK549.out; have hfz76 := blk_frozen BK549.out; obtain ⟨Ao77, co77, eo77⟩ := Kd.R_slice HO548.out; subst eo77))
       obtain ⟨w78, hw_⟩ : ∃ w_, w_ = (((w75.setCell ⟨gb549, 0, none⟩ (.int .i64 t544)).setCell ⟨gb549, 1, none⟩ (.bool t545)).setCell ⟨gb549, 2, none⟩ (.slice Ao77 t546.length co77)) := ⟨_, rfl⟩
       rw [← hw_]
       have n0_ : Aside0 (Kd.S k35 35 w78 w.heap.size (fun k_ => some k_ ≠ (.slice Ao77 t546.length co77 : Value).ownBlock ∧ k_ ≠ gb549) (.slice Ao8 t519.length co8) t519) := ⟨by rw [hw_]; (with_reducible repeat (first | apply Kd.S_alloc | apply Kd.S_drewN | apply Kd.S_drew)); exact Kd.S_mono (Kd.S_far (p := ⟨gb549, 2, none⟩) (Kd.S_far (p := ⟨gb549, 1, none⟩) (Kd.S_far (p := ⟨gb549, 0, none⟩) (Kd.S_mono HO_3.out (fun k_ hk => (⟨hk, hk.2⟩ : _ ∧ k_ ≠ gb549))) (fun _ hk => hk.2) (.int .i64 t544)) (fun _ hk => hk.2) (.bool t545)) (fun _ hk => hk.2) (.slice Ao77 t546.length co77)) (fun _ hk => ⟨hk.1.1.2, hk.1.2⟩)⟩
       have n1_ : Aside0 (Kd.R Kd.string 9 w78 w.heap.size (fun k_ => some k_ ≠ (v533 : Value).ownBlock) v527 t525) := ⟨by rw [hw_]; (with_reducible repeat (first | apply Kd.R_alloc | apply Kd.R_drewN | apply Kd.R_drew)); exact Kd.R_mono (Kd.R_far (p := ⟨gb549, 2, none⟩) (Kd.R_far (p := ⟨gb549, 1, none⟩) (Kd.R_far (p := ⟨gb549, 0, none⟩) (Kd.R_types HO_7.out BK549.out (by decide)) (fun _ hk => hk.2) (.int .i64 t544)) (fun _ hk => hk.2) (.bool t545)) (fun _ hk => hk.2) (.slice Ao77 t546.length co77)) (fun _ hk => hk.1)⟩
       have n2_ : Aside0 (Kd.R Kd.bool 4 w78 w.heap.size (fun k_ => some k_ ≠ (v535 : Value).ownBlock) (.slice Ao73 t526.length co73) t526) := ⟨by rw [hw_]; (with_reducible repeat (first | apply Kd.R_alloc | apply Kd.R_drewN | apply Kd.R_drew)); exact Kd.R_mono (Kd.R_far (p := ⟨gb549, 2, none⟩) (Kd.R_far (p := ⟨gb549, 1, none⟩) (Kd.R_far (p := ⟨gb549, 0, none⟩) (Kd.R_types HO_8.out BK549.out (by decide)) (fun _ hk => hk.2) (.int .i64 t544)) (fun _ hk => hk.2) (.bool t545)) (fun _ hk => hk.2) (.slice Ao77 t546.length co77)) (fun _ hk => hk.1)⟩
       have n3_ : Aside0 (Kd.R Kd.string 9 w78 w.heap.size (fun k_ => some k_ ≠ (v527 : Value).ownBlock) v533 t531) := ⟨by rw [hw_]; (with_reducible repeat (first | apply Kd.R_alloc | apply Kd.R_drewN | apply Kd.R_drew)); exact Kd.R_mono (Kd.R_far (p := ⟨gb549, 2, none⟩) (Kd.R_far (p := ⟨gb549, 1, none⟩) (Kd.R_far (p := ⟨gb549, 0, none⟩) (Kd.R_types HO_9.out BK549.out (by decide)) (fun _ hk => hk.2) (.int .i64 t544)) (fun _ hk => hk.2) (.bool t545)) (fun _ hk => hk.2) (.slice Ao77 t546.length co77)) (fun _ hk => hk.1)⟩
       have n4_ : Aside0 (Kd.R Kd.bool 4 w78 w.heap.size (fun k_ => some k_ ≠ (.slice Ao73 t526.length co73 : Value).ownBlock) v535 t532) := ⟨by rw [hw_]; (with_reducible repeat (first | apply Kd.R_alloc | apply Kd.R_drewN | apply Kd.R_drew)); exact Kd.R_mono (Kd.R_far (p := ⟨gb549, 2, none⟩) (Kd.R_far (p := ⟨gb549, 1, none⟩) (Kd.R_far (p := ⟨gb549, 0, none⟩) (Kd.R_types HO_10.out BK549.out (by decide)) (fun _ hk => hk.2) (.int .i64 t544)) (fun _ hk => hk.2) (.bool t545)) (fun _ hk => hk.2) (.slice Ao77 t546.length co77)) (fun _ hk => hk.1)⟩
       have n5_ : Aside0 (Kd.R k60 60 w78 w.heap.size (fun _ => True) (.slice Ao77 t546.length co77) t546) := ⟨by rw [hw_]; (with_reducible repeat (first | apply Kd.R_alloc | apply Kd.R_drewN | apply Kd.R_drew)); exact Kd.R_mono (Kd.R_far (p := ⟨gb549, 2, none⟩) (Kd.R_far (p := ⟨gb549, 1, none⟩) (Kd.R_far (p := ⟨gb549, 0, none⟩) (Kd.R_types HO548.out BK549.out (by decide)) (fun _ hk => hk.2) (.int .i64 t544)) (fun _ hk => hk.2) (.bool t545)) (fun _ hk => hk.2) (.slice Ao77 t546.length co77)) (fun _ hk => trivial)⟩
       have n6_ : Aside0 (w78.heap[gb549]? = some (.cells #[.int .i64 t544, .bool t545, .slice Ao77 t546.length co77] 35 (0, 0))) := ⟨by rw [hw_]; refine BD ?_; refine blk_put (cs := #[.int .i64 t544, .bool t545, .slice none 0 0]) ?_ 2 _ rfl; refine BD ?_; refine blk_put (cs := #[.int .i64 t544, .bool false, .slice none 0 0]) ?_ 1 _ rfl; refine BD ?_; refine blk_put (cs := #[.int .i64 0, .bool false, .slice none 0 0]) ?_ 0 _ rfl; refine BD ?_; exact BK549.out⟩
       have n7_ : Aside0 (Below w.heap.size w w78) := ⟨by rw [hw_]; exact (BB1 HB.out GE549.out)⟩
       (try clear HO_3)
       (try clear HO_7)
       (try clear HO_8)
       (try clear HO_9)
       (try clear HO_10)
       (try clear HO548)
       (try clear BK549)
       (try clear HB)
       clear hw_
       have HO_3 := n0_
       have HO_7 := n1_
       have HO_8 := n2_
       have HO_9 := n3_
       have HO_10 := n4_
       have HO548 := n5_
       have BK549 := n6_
       have HB := n7_
       clear n0_ n1_ n2_ n3_ n4_ n5_ n6_ n7_
       replace HO_3 := AM (Kd.S_drew HO_3.out); replace HO_7 := AM (Kd.R_drew HO_7.out); replace HO_8 := AM (Kd.R_drew HO_8.out); replace HO_9 := AM (Kd.R_drew HO_9.out); replace HO_10 := AM (Kd.R_drew HO_10.out); replace HO548 := AM (Kd.R_drew HO548.out); replace BK549 := AM (blk_drew BK549.out); replace HB := AM (below_drew1 HB.out)
       obtain ⟨Ao80, co80, eo80⟩ := Kd.R_slice HO_7.out
       (first | subst eo80 | (injection eo80 with f1_ f2_ f3_; have f4_ := f1_.symm; have f5_ := f3_.symm; clear f1_ f2_ f3_; subst f4_; subst f5_))
       obtain ⟨Ao81, co81, eo81⟩ := Kd.R_slice HO_9.out
       (first | subst eo81 | (injection eo81 with f1_ f2_ f3_; have f4_ := f1_.symm; have f5_ := f3_.symm; clear f1_ f2_ f3_; subst f4_; subst f5_))
       refine start_ (n := 30) (S := fun w' => True) (ds := []) (.replicate 30 false) (by kernel_rfl) rfl rfl trivial (fun hHeld => ?_); refine with_tabW laws_FnUnitsOf.tab21 laws_FnUnitsOf.bits21 (fun HT_ HW_ => ?_)
       generalize w78.drew = w79 at HO_3 HO_7 HO_8 HO_9 HO_10 HO548 BK549 HB hHeld ⊢
       refine PH 0 91 HT_.out ?_
       refine PH 1 92 HT_.out ?_
       refine OH 2 (some 93) HT_.out (fun K hK => ?_)
       refine GO Try.func12 #[.slice Ao80 t525.length co80, .slice Ao81 t531.length co81] ?_
       with_reducible refine (laws_sameTexts.calls k1 _ _ t525 _ _ t531 true _ ?side1 ?side2 ?side3 ?side4 A30.out).mono ?_
       (case side1 => exact CC (Kd.R_reads' HO_7.out).2.2)
       (case side2 => exact (Kd.R_reads' HO_7.out).2.1)
       (case side3 => exact CC (Kd.R_reads' HO_9.out).2.2)
       (case side4 => exact (Kd.R_reads' HO_9.out).2.1)
       rintro e w' ⟨rfl, ⟨nd, rfl⟩⟩
       refine ⟨_, rfl, ?_⟩
       obtain ⟨Ao82, co82, eo82⟩ := Kd.R_slice HO_10.out
       (first | subst eo82 | (injection eo82 with f1_ f2_ f3_; have f4_ := f1_.symm; have f5_ := f3_.symm; clear f1_ f2_ f3_; subst f4_; subst f5_))
       refine hK.out _ _ trivial (fun hHeld => ?_)
       clear hK K
       refine NM 93 ?_
       refine PH 3 94 HT_.out ?_
       refine PH 4 95 HT_.out ?_
       refine PH 5 96 HT_.out ?_
       refine OH 6 (some 97) HT_.out (fun K hK => ?_)
       refine GO Try.func13 #[.slice Ao73 t526.length co73, .slice Ao82 t532.length co82] ?_
       with_reducible refine (laws_sameBools.calls k1 _ _ t526 _ _ t532 false _ ?side1 ?side2 ?side3 ?side4 A32.out).mono ?_
       (case side1 => exact CC (Kd.R_reads' HO_8.out).2.2)
       (case side2 => exact (Kd.R_reads' HO_8.out).2.1)
       (case side3 => exact CC (Kd.R_reads' HO_10.out).2.2)
       (case side4 => exact (Kd.R_reads' HO_10.out).2.1)
       rintro e w' ⟨rfl, ⟨nd, rfl⟩⟩
       refine ⟨_, rfl, ?_⟩
       refine hK.out _ _ trivial (fun hHeld => ?_)
       clear hK K
       refine NM 97 ?_
       refine PH 7 98 HT_.out ?_
       refine PH 8 99 HT_.out ?_
       refine PO 9 100 HT_.out ?_
       refine PO 10 101 HT_.out ?_
       refine PO 11 102 HT_.out ?_
       refine PO 12 103 HT_.out ?_
       refine PO 13 104 HT_.out ?_
       refine PO 14 105 HT_.out ?_
       refine PH 15 106 HT_.out ?_
       refine PH 16 107 HT_.out ?_
       refine PO 17 108 HT_.out ?_
       refine PO 18 109 HT_.out ?_
       refine PO 19 110 HT_.out ?_
       refine PO 20 111 HT_.out ?_
       refine PO 21 112 HT_.out ?_
       refine PO 22 113 HT_.out ?_
       refine PH 23 114 HT_.out ?_
       refine PH 24 115 HT_.out ?_
       refine PO 25 116 HT_.out ?_
       refine PO 26 117 HT_.out ?_
       refine PO 27 118 HT_.out ?_
       refine PH 28 119 HT_.out ?_
       refine PH 29 2 HT_.out ?_
       refine done_ (done_of HT_.out (by kernel_rfl)) ?_
       try go_wp2
       go_ret
       exact ⟨ER, (BB1 HB.out GE549.out)⟩
     ·replace c31 := Bool.eq_false_iff.mpr c31
      subst c31
      have H1 : (some false) = some r := by rw [if_neg (show ¬ (false = true) by decide)] at H; exact H
      clear H
      have H := H1
      clear H1
      obtain rfl := Option.some.inj H
      obtain ⟨Ao83, co83, eo83⟩ := Kd.R_slice HO_8.out
      subst eo83
      try go_wp2_with (first | ((with_reducible refine gate_callee (f := 11) rfl ?_); refine GL (some 90) rfl rfl Try.func11 #[.slice A0 l0.length c0] rfl ?_; (with_reducible refine (spec_DrawHost.calls k1 _ _ l0 t544 t545 t546 _ ?side1 ?side2 A29.out).mono ?_); (case side1 => exact CC (Kd.C_below HR0.out HB.out)); (case side2 => exact HC0.out); rintro e w84 ⟨v547, rfl, ho0, hb⟩; refine ⟨_, rfl, ?_⟩; have HO548 := AM (Kd.R_lower ho0 (below_size (BB HB.out))); replace HO_3 := AM (Kd.S_elder' (SS HO_3.out) (Kd.R_base ho0) hb); replace HO_7 := AM (Kd.R_below (RR HO_7.out) hb); replace HO_8 := AM (Kd.R_below (RR HO_8.out) hb); replace HO_9 := AM (Kd.R_below (RR HO_9.out) hb); replace HO_10 := AM (Kd.R_below (RR HO_10.out) hb); replace HB := AM (below_step (BB HB.out) hb); (try clear hb); (try clear ho0)) | ((with_reducible refine gate_dst (N := 17) rfl ?_); (try (refine gate_guard (by rfl) ?_; dsimp only)); refine BX 17 #[.int .i64 0, .bool false, .slice none 0 0] 35 ?_; intro gb549 hg w85 hbox hb; have BK549 := AM (hbox); have GW549 : Aside0 (w.heap.size ≤ gb549) := WG hg (BB HB.out); have GE549 := GW549; replace HO_3 := AM (Kd.S_below (Kd.S_elderB (SS HO_3.out) gb549 (Nat.le_of_eq hg.symm)) hb); replace HO_7 := AM (Kd.R_below (RR HO_7.out) hb); replace HO_8 := AM (Kd.R_below (RR HO_8.out) hb); replace HO_9 := AM (Kd.R_below (RR HO_9.out) hb); replace HO_10 := AM (Kd.R_below (RR HO_10.out) hb); replace HO548 := AM (Kd.R_below (RR HO548.out) hb); replace HB := AM (below_step (BB HB.out) hb); clear hb hbox hg; have hcz86 := blk_cell BK549.out; have hfz86 := blk_frozen BK549.out; obtain ⟨Ao87, co87, eo87⟩ := Kd.R_slice HO548.out; subst eo87))
      obtain ⟨w88, hw_⟩ : ∃ w_, w_ = (((w85.setCell ⟨gb549, 0, none⟩ (.int .i64 t544)).setCell ⟨gb549, 1, none⟩ (.bool t545)).setCell ⟨gb549, 2, none⟩ (.slice Ao87 t546.length co87)) := ⟨_, rfl⟩
      rw [← hw_]
      have n0_ : Aside0 (Kd.S k35 35 w88 w.heap.size (fun k_ => some k_ ≠ (.slice Ao87 t546.length co87 : Value).ownBlock ∧ k_ ≠ gb549) (.slice Ao8 t519.length co8) t519) := ⟨by rw [hw_]; (with_reducible repeat (first | apply Kd.S_alloc | apply Kd.S_drewN | apply Kd.S_drew)); exact Kd.S_mono (Kd.S_far (p := ⟨gb549, 2, none⟩) (Kd.S_far (p := ⟨gb549, 1, none⟩) (Kd.S_far (p := ⟨gb549, 0, none⟩) (Kd.S_mono HO_3.out (fun k_ hk => (⟨hk, hk.2⟩ : _ ∧ k_ ≠ gb549))) (fun _ hk => hk.2) (.int .i64 t544)) (fun _ hk => hk.2) (.bool t545)) (fun _ hk => hk.2) (.slice Ao87 t546.length co87)) (fun _ hk => ⟨hk.1.1.2, hk.1.2⟩)⟩
      have n1_ : Aside0 (Kd.R Kd.string 9 w88 w.heap.size (fun k_ => some k_ ≠ (v533 : Value).ownBlock) v527 t525) := ⟨by rw [hw_]; (with_reducible repeat (first | apply Kd.R_alloc | apply Kd.R_drewN | apply Kd.R_drew)); exact Kd.R_mono (Kd.R_far (p := ⟨gb549, 2, none⟩) (Kd.R_far (p := ⟨gb549, 1, none⟩) (Kd.R_far (p := ⟨gb549, 0, none⟩) (Kd.R_types HO_7.out BK549.out (by decide)) (fun _ hk => hk.2) (.int .i64 t544)) (fun _ hk => hk.2) (.bool t545)) (fun _ hk => hk.2) (.slice Ao87 t546.length co87)) (fun _ hk => hk.1)⟩
      have n2_ : Aside0 (Kd.R Kd.bool 4 w88 w.heap.size (fun k_ => some k_ ≠ (v535 : Value).ownBlock) (.slice Ao83 t526.length co83) t526) := ⟨by rw [hw_]; (with_reducible repeat (first | apply Kd.R_alloc | apply Kd.R_drewN | apply Kd.R_drew)); exact Kd.R_mono (Kd.R_far (p := ⟨gb549, 2, none⟩) (Kd.R_far (p := ⟨gb549, 1, none⟩) (Kd.R_far (p := ⟨gb549, 0, none⟩) (Kd.R_types HO_8.out BK549.out (by decide)) (fun _ hk => hk.2) (.int .i64 t544)) (fun _ hk => hk.2) (.bool t545)) (fun _ hk => hk.2) (.slice Ao87 t546.length co87)) (fun _ hk => hk.1)⟩
      have n3_ : Aside0 (Kd.R Kd.string 9 w88 w.heap.size (fun k_ => some k_ ≠ (v527 : Value).ownBlock) v533 t531) := ⟨by rw [hw_]; (with_reducible repeat (first | apply Kd.R_alloc | apply Kd.R_drewN | apply Kd.R_drew)); exact Kd.R_mono (Kd.R_far (p := ⟨gb549, 2, none⟩) (Kd.R_far (p := ⟨gb549, 1, none⟩) (Kd.R_far (p := ⟨gb549, 0, none⟩) (Kd.R_types HO_9.out BK549.out (by decide)) (fun _ hk => hk.2) (.int .i64 t544)) (fun _ hk => hk.2) (.bool t545)) (fun _ hk => hk.2) (.slice Ao87 t546.length co87)) (fun _ hk => hk.1)⟩
      have n4_ : Aside0 (Kd.R Kd.bool 4 w88 w.heap.size (fun k_ => some k_ ≠ (.slice Ao83 t526.length co83 : Value).ownBlock) v535 t532) := ⟨by rw [hw_]; (with_reducible repeat (first | apply Kd.R_alloc | apply Kd.R_drewN | apply Kd.R_drew)); exact Kd.R_mono (Kd.R_far (p := ⟨gb549, 2, none⟩) (Kd.R_far (p := ⟨gb549, 1, none⟩) (Kd.R_far (p := ⟨gb549, 0, none⟩) (Kd.R_types HO_10.out BK549.out (by decide)) (fun _ hk => hk.2) (.int .i64 t544)) (fun _ hk => hk.2) (.bool t545)) (fun _ hk => hk.2) (.slice Ao87 t546.length co87)) (fun _ hk => hk.1)⟩
      have n5_ : Aside0 (Kd.R k60 60 w88 w.heap.size (fun _ => True) (.slice Ao87 t546.length co87) t546) := ⟨by rw [hw_]; (with_reducible repeat (first | apply Kd.R_alloc | apply Kd.R_drewN | apply Kd.R_drew)); exact Kd.R_mono (Kd.R_far (p := ⟨gb549, 2, none⟩) (Kd.R_far (p := ⟨gb549, 1, none⟩) (Kd.R_far (p := ⟨gb549, 0, none⟩) (Kd.R_types HO548.out BK549.out (by decide)) (fun _ hk => hk.2) (.int .i64 t544)) (fun _ hk => hk.2) (.bool t545)) (fun _ hk => hk.2) (.slice Ao87 t546.length co87)) (fun _ hk => trivial)⟩
      have n6_ : Aside0 (w88.heap[gb549]? = some (.cells #[.int .i64 t544, .bool t545, .slice Ao87 t546.length co87] 35 (0, 0))) := ⟨by rw [hw_]; refine BD ?_; refine blk_put (cs := #[.int .i64 t544, .bool t545, .slice none 0 0]) ?_ 2 _ rfl; refine BD ?_; refine blk_put (cs := #[.int .i64 t544, .bool false, .slice none 0 0]) ?_ 1 _ rfl; refine BD ?_; refine blk_put (cs := #[.int .i64 0, .bool false, .slice none 0 0]) ?_ 0 _ rfl; refine BD ?_; exact BK549.out⟩
      have n7_ : Aside0 (Below w.heap.size w w88) := ⟨by rw [hw_]; exact (BB1 HB.out GE549.out)⟩
      (try clear HO_3)
      (try clear HO_7)
      (try clear HO_8)
      (try clear HO_9)
      (try clear HO_10)
      (try clear HO548)
      (try clear BK549)
      (try clear HB)
      clear hw_
      have HO_3 := n0_
      have HO_7 := n1_
      have HO_8 := n2_
      have HO_9 := n3_
      have HO_10 := n4_
      have HO548 := n5_
      have BK549 := n6_
      have HB := n7_
      clear n0_ n1_ n2_ n3_ n4_ n5_ n6_ n7_
      replace HO_3 := AM (Kd.S_drew HO_3.out); replace HO_7 := AM (Kd.R_drew HO_7.out); replace HO_8 := AM (Kd.R_drew HO_8.out); replace HO_9 := AM (Kd.R_drew HO_9.out); replace HO_10 := AM (Kd.R_drew HO_10.out); replace HO548 := AM (Kd.R_drew HO548.out); replace BK549 := AM (blk_drew BK549.out); replace HB := AM (below_drew1 HB.out)
      obtain ⟨Ao90, co90, eo90⟩ := Kd.R_slice HO_7.out
      (first | subst eo90 | (injection eo90 with f1_ f2_ f3_; have f4_ := f1_.symm; have f5_ := f3_.symm; clear f1_ f2_ f3_; subst f4_; subst f5_))
      obtain ⟨Ao91, co91, eo91⟩ := Kd.R_slice HO_9.out
      (first | subst eo91 | (injection eo91 with f1_ f2_ f3_; have f4_ := f1_.symm; have f5_ := f3_.symm; clear f1_ f2_ f3_; subst f4_; subst f5_))
      refine start_ (n := 30) (S := fun w' => True) (ds := []) (.replicate 30 false) (by kernel_rfl) rfl rfl trivial (fun hHeld => ?_); refine with_tabW laws_FnUnitsOf.tab21 laws_FnUnitsOf.bits21 (fun HT_ HW_ => ?_)
      generalize w88.drew = w89 at HO_3 HO_7 HO_8 HO_9 HO_10 HO548 BK549 HB hHeld ⊢
      refine PH 0 91 HT_.out ?_
      refine PH 1 92 HT_.out ?_
      refine OH 2 (some 93) HT_.out (fun K hK => ?_)
      refine GO Try.func12 #[.slice Ao90 t525.length co90, .slice Ao91 t531.length co91] ?_
      with_reducible refine (laws_sameTexts.calls k1 _ _ t525 _ _ t531 false _ ?side1 ?side2 ?side3 ?side4 A30.out).mono ?_
      (case side1 => exact CC (Kd.R_reads' HO_7.out).2.2)
      (case side2 => exact (Kd.R_reads' HO_7.out).2.1)
      (case side3 => exact CC (Kd.R_reads' HO_9.out).2.2)
      (case side4 => exact (Kd.R_reads' HO_9.out).2.1)
      rintro e w' ⟨rfl, ⟨nd, rfl⟩⟩
      refine ⟨_, rfl, ?_⟩
      refine hK.out _ _ trivial (fun hHeld => ?_)
      clear hK K
      refine NM 93 ?_
      refine PH 3 94 HT_.out ?_
      refine PO 4 95 HT_.out ?_
      refine PO 5 96 HT_.out ?_
      refine PO 6 97 HT_.out ?_
      refine PH 7 98 HT_.out ?_
      refine PH 8 99 HT_.out ?_
      refine PO 9 100 HT_.out ?_
      refine PO 10 101 HT_.out ?_
      refine PO 11 102 HT_.out ?_
      refine PO 12 103 HT_.out ?_
      refine PO 13 104 HT_.out ?_
      refine PO 14 105 HT_.out ?_
      refine PH 15 106 HT_.out ?_
      refine PH 16 107 HT_.out ?_
      refine PO 17 108 HT_.out ?_
      refine PO 18 109 HT_.out ?_
      refine PO 19 110 HT_.out ?_
      refine PO 20 111 HT_.out ?_
      refine PO 21 112 HT_.out ?_
      refine PO 22 113 HT_.out ?_
      refine PH 23 114 HT_.out ?_
      refine PH 24 115 HT_.out ?_
      refine PO 25 116 HT_.out ?_
      refine PO 26 117 HT_.out ?_
      refine PO 27 118 HT_.out ?_
      refine PH 28 119 HT_.out ?_
      refine PH 29 2 HT_.out ?_
      refine done_ (done_of HT_.out (by kernel_rfl)) ?_
      try go_wp2
      go_ret
      exact ⟨ER, (BB1 HB.out GE549.out)⟩

def laws_FnUnitsOf.Pure : Prop := ∀ (l0 : List Int), l0.length ≤ maxLen → l0.length * 1 ≤ 140737488351232 → (∀ x ∈ l0, (Lit.int .u8 x).wf = true) → ∃ k, laws_FnUnitsOf.f k l0 = some true
theorem laws_FnUnitsOf.walk (P : laws_FnUnitsOf.Pure) (a0 : Option Addr) (len0 cap0 : Nat) (z0 : List Int) (w : World) (w0 : (a0 = none ∧ len0 = 0 ∧ cap0 = 0 ∧ z0 = []) ∨ ∃ x, a0 = some x ∧ len0 ≤ cap0 ∧ cap0 ≤ maxLen ∧ z0.length = cap0 ∧ (∀ i, i < z0.length → w.cell? (x.add i) = some (.int .u8 (z0.getD i 0))) ∧ ∀ n ∈ z0, (Lit.int .u8 n).wf = true) (y0 : len0 * 1 ≤ 140737488351232) :
  Calls Try.prog 3 #[.slice a0 len0 cap0] w fun e w' => e = .returned (.bool true) ∧ Below w.heap.size w w' := by
 obtain ⟨l0, rfl, hr0, hm0, hw0, hc0⟩ := ReadsInt.ofRowC w0
 obtain ⟨k, h⟩ := P l0 hm0 y0 hw0
 refine (laws_FnUnitsOf.calls k _ _ l0 true w (Kd.C_of_reads (d := (0 : Int)) (h1 := fun _ => rfl) hr0) hc0 h).mono ?_
 rintro e w' ⟨rfl, hd⟩
 exact ⟨rfl, hd⟩

end Go.Proofs.Ytaejgompckpmfaa.Pr
namespace Go.Proofs.Ytaejgompckpmfaa.Opn
open Go.RowKit Go.ChangeShapes Go.WideShapes Go.Deep Go.Proofs.YtaejgompckpmfaaW.PrintWords
def Opens {α : Type} (P : Program) (d : Kd α) (wf : α → Prop) (t : TypeId) : Prop :=
 ∀ (H : Type) (enc : TypeId × Value → H) (w : World) (base : Nat) (spare : Nat → Bool) (held : Bool) (fuel : Nat) (cs : List Value) (x : DataW H × List MemPlace),
  DataW.trod enc P w base spare held fuel t cs = some x → ∃ v, d.K w v cs ∧ wf v

theorem opens_int {P : Program} {t : TypeId} (k : IntKind) (ht : P.underlying t = some (.int k)) : Opens P (Kd.int k) (fun n => (Lit.int k n).wf = true) t := by
 intro H enc w base spare held fuel cs x h
 obtain ⟨n, rfl, _, hw⟩ := DataW.trod_int ht h
 exact ⟨n, rfl, hw⟩
theorem list_of_lt {α : Type} {q : Nat → α → Prop} (len : Nat) (key : ∀ i, i < len → ∃ v, q i v) : ∃ xs : List α, xs.length = len ∧ ∀ i v, xs[i]? = some v → q i v := by
 induction len with
 | zero => exact ⟨[], rfl, fun i v h => by simp at h⟩
 | succ k ih =>
  obtain ⟨xs, hxl, hx⟩ := ih (fun i hik => key i (by omega))
  obtain ⟨v, h1⟩ := key k (by omega)
  refine ⟨xs ++ [v], by simp [hxl], fun i u hu => ?_⟩
  by_cases hik : i < xs.length
  ·rw [List.getElem?_append_left hik] at hu
   exact hx i u hu
  ·have hil := (List.getElem?_eq_some_iff.1 hu).1
   simp at hil
   have hi' : i = k := by omega
   subst hi'
   rw [List.getElem?_append_right (by omega)] at hu
   simp [hxl] at hu
   subst hu
   exact h1

theorem opens_slice {α : Type} {P : Program} {t e : TypeId} {d : Kd α} {wf : α → Prop} (ht : P.underlying t = some (.slice e)) (hc : P.cellsOf e = d.sz) (he : Opens P d wf e) :
  Opens P (Kd.slice e d) (fun xs => xs.length ≤ maxLen ∧ ∀ x ∈ xs, wf x) t := by
 intro H enc w base spare held fuel cs x h
 rcases Go.Deep.open_slice ht h with ⟨rfl, _⟩ | ⟨a, len, cap, m, n, D, Pl, rfl, _, hl, hm, hmm, _, hi⟩
 ·refine ⟨[], ⟨none, 0, rfl, Nat.le_refl _, rfl, by simp, fun h => absurd h (by simp)⟩, by simp, fun x hx => by simp at hx⟩
 ·have hlm : len ≤ m := by rw [hmm]; split <;> omega
  have key : ∀ i, i < len → ∃ v c, d.K w v c ∧ wf v ∧ w.cells? base (a.add (i * P.cellsOf e)) (P.cellsOf e) = some c := by
   intro i hil
   obtain ⟨c, h1, h2⟩ := hi i (by omega)
   obtain ⟨v, hk, hw⟩ := he _ _ _ _ _ _ _ _ _ h2
   exact ⟨v, c, hk, hw, h1⟩
  have this := list_of_lt (q := fun i v => ∃ c, d.K w v c ∧ wf v ∧ w.cells? base (a.add (i * P.cellsOf e)) (P.cellsOf e) = some c) len key
  obtain ⟨xs, hxl, hx⟩ := this
  refine ⟨xs, ⟨some a, cap, by rw [hxl], by omega, ?_⟩, by rw [hxl]; omega, ?_⟩
  ·refine ⟨rfl, by unfold maxLen at hm; omega, fun _ => ⟨a, rfl, fun j p hj => ?_⟩⟩
   obtain ⟨c, h1, h2, h3⟩ := hx j p hj
   obtain ⟨_, hcl, hat⟩ := World.cells?_some h3
   refine ⟨c, by rw [hcl, hc], h1, fun i u hu => ?_⟩
   have hil : i < P.cellsOf e := by rw [← hcl]; exact (List.getElem?_eq_some_iff.1 hu).1
   rw [← Go.Deep.add_add, ← hc, hat i hil, hu]
  ·intro y hy
   obtain ⟨i, hi⟩ := List.mem_iff_getElem?.1 hy
   obtain ⟨c, _, h2, _⟩ := hx i y hi
   exact h2

theorem arg_slice {α : Type} {P : Program} {t e : TypeId} {d : Kd α} {wf : List α → Prop} (h : Opens P (Kd.slice e d) wf t) {H : Type} {enc : TypeId × Value → H} {w : World} {base : Nat} {spare : Nat → Bool} {held : Bool}
  {A : Option Addr} {n c : Nat} {x : DataW H} {p : List MemPlace} (hx : DataW.Trod enc P w base spare held t (.slice A n c) x p) : ∃ l : List α, n = l.length ∧ l.length ≤ c ∧ Kd.C d w A l.length l ∧ wf l := by
 obtain ⟨fuel, hf⟩ := hx
 obtain ⟨l, ⟨A', c', he, hl, hC⟩, hw⟩ := h _ _ _ _ _ _ _ _ _ hf
 simp [Value.cells] at he
 obtain ⟨rfl, rfl, rfl⟩ := he
 exact ⟨l, rfl, hl, hC, hw⟩
end Go.Proofs.Ytaejgompckpmfaa.Opn
namespace Go.Proofs.Ytaejgompckpmfaa.SFnUnitsOf
open Go.RowKit Go.Proofs.YtaejgompckpmfaaW.PrintWords Go.Proofs.YtaejgompckpmfaaW.PrintLast Go.Proofs.YtaejgompckpmfaaW.PrintMore Go.Proofs.Ytaejgompckpmfaa.Pr Go.Proofs.Ytaejgompckpmfaa.Opn
def Pure : Prop := ∀ (l0 : List (Int)), (l0.length ≤ maxLen ∧ ∀ y ∈ l0, (Lit.int .u8 y).wf = true) → ∃ k, laws_FnUnitsOf.f k l0 = some true
end Go.Proofs.Ytaejgompckpmfaa.SFnUnitsOf
namespace Go.Proofs.Ytaejgompckpmfaa.Evs
open Go.RowKit Go.Proofs.YtaejgompckpmfaaW.PrintWords
theorem ev_some {α : Type} (r : α) : Ev (fun _ => some r) r := Ev.now r
theorem ev_pos {α : Type} {c : Prop} [Decidable c] {f g : Nat → Option α} {r : α} (h : c) (k : Ev f r) : Ev (fun n => if c then f n else g n) r := by
 simpa [h] using k
theorem ev_neg {α : Type} {c : Prop} [Decidable c] {f g : Nat → Option α} {r : α} (h : ¬ c) (k : Ev g r) : Ev (fun n => if c then f n else g n) r := by
 simpa [h] using k
theorem ev_ite {α : Type} {c : Prop} [Decidable c] {f g : Nat → Option α} {r s : α} (k : c → Ev f r) (l : ¬ c → Ev g s) : Ev (fun n => if c then f n else g n) (if c then r else s) := by
 by_cases h : c
 ·rw [if_pos h]; exact ev_pos h (k h)
 ·rw [if_neg h]; exact ev_neg h (l h)
theorem ev_bind {α β : Type} {g : Nat → Option α} {f : Nat → α → Option β} {a : α} {r : β} (h : Ev g a) (k : Ev (fun n => f n a) r) : Ev (fun n => (g n).bind (f n)) r := Ev.bind h k
theorem ev_call {α β : Type} {g : Option α} {f : Nat → α → Option β} {a : α} {r : β} (h : g = some a) (k : Ev (fun n => f n a) r) : Ev (fun n => g.bind (f n)) r := by
 subst h
 exact k
theorem ev_eq {α : Type} {g : Nat → Option α} {r s : α} (h : Ev g r) (e : r = s) : Ev g s := e ▸ h
theorem ev_step {α : Type} {g f : Nat → Option α} {r : α} (h : ∀ k, g (k + 1) = f k) (k : Ev f r) : Ev g r := Ev.step h k
theorem ev_rounds {α : Type} {g : Nat → Option α} {r : α} (h : Ev g r) : ∃ k, g k = some r := h.rounds
theorem ev_const {α : Type} {g : Option α} {r : α} (h : g = some r) : Ev (fun _ => g) r := ⟨0, fun _ _ => h⟩

theorem wrap_in {i : Int} (h0 : -9223372036854775808 ≤ i) (h1 : i ≤ 9223372036854775807) : wrap64 i = i := by unfold wrap64; omega
theorem getD_mid' {α : Type} (p s : List α) (x d : α) (i : Int) (hi : i = (p.length : Int)) : (p ++ x :: s).getD i.toNat d = x := by
 subst hi
 simp [List.getD]
theorem set_mid {α : Type} (p s : List α) (x y : α) (i : Int) (hi : i = (p.length : Int)) : (p ++ x :: s).set i.toNat y = p ++ y :: s := by
 subst hi
 simp
end Go.Proofs.Ytaejgompckpmfaa.Evs
namespace Go.Proofs.Ytaejgompckpmfaa.Pu
open Go.RowKit Go.Proofs.YtaejgompckpmfaaW.PrintWords Go.Proofs.Ytaejgompckpmfaa.Pr Go.Proofs.Ytaejgompckpmfaa.Evs
theorem curAnd255 (n : Int) : bits .and .i64 n 255 = n % 256 := by
 have h255 : (BitVec.ofInt 64 255).toNat = 2 ^ 8 - 1 := by decide
 have key : (BitVec.ofInt 64 n &&& BitVec.ofInt 64 255).toNat = (n % ((2 ^ 64 : Nat) : Int)).toNat % 2 ^ 8 := by
  rw [BitVec.toNat_and, BitVec.toNat_ofInt, h255, Nat.and_two_pow_sub_one_eq_mod]
 show IntKind.i64.wrap ((BitVec.ofInt 64 n &&& BitVec.ofInt 64 255).toNat : Nat) = n % 256
 rw [key, IntKind.wrap_i64]
 omega
def inB (b : List Int) (i : Int) : Prop := 0 ≤ i ∧ i ≤ (b.length : Int)
theorem cur_byte (b : List Int) (hb : b.length ≤ 1048576) (i h : Int) (hi : inB b i) : ∃ x i' h', spec_l01Byte.f b i h = some (x, i', h') ∧ (0 ≤ x ∧ x ≤ 255) ∧ inB b i' := by
 unfold spec_l01Byte.f
 by_cases c : i < (b.length : Int)
 ·rw [if_pos c, if_pos hi.1, wrap_in (i := i + 1) (by have := hi.1; omega) (by omega)]
  refine ⟨_, _, _, rfl, ?_, ?_⟩
  ·rw [curAnd255]
   omega
  ·exact ⟨by have := hi.1; omega, by omega⟩
 ·rw [if_neg c]
  refine ⟨_, _, _, rfl, ?_, hi⟩
  rw [curAnd255]
  omega
theorem cur_below (b : List Int) (hb : b.length ≤ 1048576) (i h n : Int) (hi : inB b i) (h0 : 0 < n) (h1 : n ≤ 256) : ∃ x i' h', spec_l01Below.f b i h n = some (x, i', h') ∧ (0 ≤ x ∧ x < n) ∧ inB b i' := by
 obtain ⟨x, i', h', e, hx, hi'⟩ := cur_byte b hb i h hi
 unfold spec_l01Below.f
 rw [if_neg (by omega), if_pos h1, e, Option.bind_some, if_neg (by omega)]
 exact ⟨_, _, _, rfl, ⟨Int.tmod_nonneg _ hx.1, Int.tmod_lt_of_pos _ h0⟩, hi'⟩
theorem cur_new_loop (b : List Int) (hb : b.length ≤ 1048576) (d : Nat) : ∀ (h : Int) (i : Nat), b.length ≤ i + d → ∃ h', Ev (fun k => spec_l01New.l0 k b h (i : Int)) (b, 0, h') := by
 induction d with
 | zero => intro h i hd; exact ⟨h, ev_step (fun k => spec_l01New.l0.eq_2 _ _ _ k) (ev_neg (by omega) (ev_some _))⟩
 | succ d ih =>
  intro h i hd
  by_cases c : (i : Int) < (b.length : Int)
  ·by_cases c2 : (i : Int) < 4000
   ·obtain ⟨h', e⟩ := ih (Go.bits .and .i64 (wrap64 ((wrap64 ((wrap64 (h * 131)) + (wrap64 (rd b (i : Int))))) + 7)) 1073741823) (i + 1) (by omega)
    refine ⟨h', ev_step (fun k => spec_l01New.l0.eq_2 _ _ _ k) (ev_pos c (ev_pos c2 (ev_pos (by omega) ?_)))⟩
    rw [wrap_in (i := (i : Int) + 1) (by omega) (by omega)]
    exact e
   ·exact ⟨h, ev_step (fun k => spec_l01New.l0.eq_2 _ _ _ k) (ev_pos c (ev_neg c2 (ev_some _)))⟩
  ·exact ⟨h, ev_step (fun k => spec_l01New.l0.eq_2 _ _ _ k) (ev_neg c (ev_some _))⟩
theorem cur_new (b : List Int) (hb : b.length ≤ 1048576) : ∃ h', Ev (fun k => spec_l01New.f k b) (b, 0, h') := by
 unfold spec_l01New.f
 exact cur_new_loop b hb b.length _ 0 (by omega)
theorem cur_once (b : List Int) (hb : b.length ≤ 1048576) (i h n : Int) (hi : inB b i) (h0 : 0 < n) (h1 : n ≤ 256) : ∃ x i' h', spec_l01Once.f b i h n = some (x, i', h') ∧ inB b i' := by
 obtain ⟨x, i', h', e, hx, hi'⟩ := cur_below b hb i h n hi h0 h1
 unfold spec_l01Once.f
 rw [e]
 exact ⟨_, _, _, rfl, hi'⟩
theorem cur_text_loop (b : List Int) (hb : b.length ≤ 1048576) (n : Nat) (hn : n ≤ 5000) (d : Nat) : ∀ (z : List Int) (i h : Int), z.length + d = n → inB b i →
  ∃ r i' h', Ev (fun k => spec_l01Text.l0 k (n : Int) z (z.length : Int) b i h) (r, i', h') ∧ r.size = n ∧ inB b i' := by
 induction d with
 | zero =>
  intro z i h hz hi
  refine ⟨strOfNums z, i, h, ev_step (fun k => spec_l01Text.l0.eq_2 _ _ _ _ _ _ k) (ev_neg (by omega) (ev_some _)), ?_, hi⟩
  rw [strOfNums_size]
  omega
 | succ d ih =>
  intro z i h hz hi
  obtain ⟨x, i1, h1, e, hx, hi1⟩ := cur_byte b hb i h hi
  obtain ⟨r, i', h', hE, hr, hi'⟩ := ih (z ++ [x % 256]) i1 h1 (by simp; omega) hi1
  have hw : wrap64 ((z.length : Int) + 1) = ((z ++ [x % 256]).length : Int) := by rw [wrap_in (by omega) (by omega), List.length_append]; rfl
  refine ⟨r, i', h', ev_step (fun k => spec_l01Text.l0.eq_2 _ _ _ _ _ _ k) (ev_pos (by omega) (ev_call e (ev_pos (by omega) ?_))), hr, hi'⟩
  simp only [hw]
  exact hE
theorem cur_text (b : List Int) (hb : b.length ≤ 1048576) (i h : Int) (n : Nat) (hn : n ≤ 5000) (hi : inB b i) : ∃ r i' h', Ev (fun k => spec_l01Text.f k b i h (n : Int)) (r, i', h') ∧ r.size = n ∧ inB b i' := by
 obtain ⟨r, i', h', hE, hr, hi'⟩ := cur_text_loop b hb n hn n [] i h (by simp) hi
 refine ⟨r, i', h', ?_, hr, hi'⟩
 unfold spec_l01Text.f
 exact ev_neg (by omega) (ev_step (fun k => spec_l01Text.j0.eq_2 _ _ _ _ k) hE)
end Go.Proofs.Ytaejgompckpmfaa.Pu
namespace Go.Proofs.Ytaejgompckpmfaa.Lw
open Go.RowKit Go.Proofs.YtaejgompckpmfaaW.PrintWords Go.Proofs.Ytaejgompckpmfaa.Pr Go.Proofs.Ytaejgompckpmfaa.Evs
abbrev ImUnit := S60
theorem rd60 (p s : List S60) (x : S60) : rd_T60 (p ++ x :: s) (p.length : Int) = x := by unfold rd_T60; exact getD_mid' p s x _ _ rfl
end Go.Proofs.Ytaejgompckpmfaa.Lw
namespace Go.Proofs.Ytaejgompckpmfaa.Pu
open Go.RowKit Go.Proofs.YtaejgompckpmfaaW.PrintWords Go.Proofs.Ytaejgompckpmfaa.Pr Go.Proofs.Ytaejgompckpmfaa.Evs Go.Proofs.Ytaejgompckpmfaa.Lw
def bit1 (s : Int) : Int := if Int.tmod s 2 = 1 then Go.bits .xor .u32 ((Int.tdiv s 2) % 4294967296) 3558460437 else (Int.tdiv s 2) % 4294967296
def bitN : Nat → Int → Int
 | 0, s => s
 | d + 1, s => bitN d (bit1 s)
def sumFrom (t : ByteArray) : Int → Nat → Nat → Int
 | s, _, 0 => s
 | s, i, d + 1 => sumFrom t (bitN 8 (Go.bits .xor .u32 s ((bt t (i : Int)) % 4294967296))) (i + 1) d
theorem spec_SumMore_l1 (t : ByteArray) (i r : Int) (d : Nat) : ∀ (s j : Int), 0 ≤ j → j + d = 8 → Ev (fun k => spec_SumMore.l0 k (bitN d s) t (wrap64 (i + 1))) r → Ev (fun k => spec_SumMore.l1 k s t i j) r := by
 induction d with
 | zero => intro s j h0 h8 h; exact ev_step (fun k => spec_SumMore.l1.eq_2 _ _ _ _ k) (ev_neg (by omega) h)
 | succ d ih =>
  intro s j h0 h8 h
  refine ev_step (fun k => spec_SumMore.l1.eq_2 _ _ _ _ k) (ev_pos (by omega) ?_)
  have e : wrap64 (j + 1) = j + 1 := wrap_in (by omega) (by omega)
  rw [e]
  have h' := ih (bit1 s) (j + 1) (by omega) (by omega) h
  unfold bit1 at h'
  by_cases c : Int.tmod s 2 = 1
  ·exact ev_pos c (by rw [if_pos c] at h'; exact h')
  ·exact ev_neg c (by rw [if_neg c] at h'; exact h')
theorem spec_SumMore_l0 (t : ByteArray) (ht : t.size < 9223372036854775807) (d : Nat) : ∀ (s : Int) (i : Nat), i + d = t.size → Ev (fun k => spec_SumMore.l0 k s t (i : Int)) (sumFrom t s i d) := by
 induction d with
 | zero => intro s i h; exact ev_step (fun k => spec_SumMore.l0.eq_2 _ _ _ k) (ev_neg (by omega) (ev_some _))
 | succ d ih =>
  intro s i h
  refine ev_step (fun k => spec_SumMore.l0.eq_2 _ _ _ k) (ev_pos (by omega) (ev_pos (by omega) (spec_SumMore_l1 _ _ _ 8 _ _ (by omega) (by omega) ?_)))
  rw [wrap_in (by omega) (by omega)]
  exact ih _ (i + 1) (by omega)
theorem impl_SumMore_l1 (t : ByteArray) (i r : Int) (d : Nat) : ∀ (s j : Int), 0 ≤ j → j + d = 8 → Ev (fun k => impl_SumMore.l0 k (bitN d s) t (wrap64 (i + 1))) r → Ev (fun k => impl_SumMore.l1 k s t i j) r := by
 induction d with
 | zero => intro s j h0 h8 h; exact ev_step (fun k => impl_SumMore.l1.eq_2 _ _ _ _ k) (ev_neg (by omega) h)
 | succ d ih =>
  intro s j h0 h8 h
  refine ev_step (fun k => impl_SumMore.l1.eq_2 _ _ _ _ k) (ev_pos (by omega) ?_)
  have e : wrap64 (j + 1) = j + 1 := wrap_in (by omega) (by omega)
  rw [e]
  have h' := ih (bit1 s) (j + 1) (by omega) (by omega) h
  unfold bit1 at h'
  by_cases c : Int.tmod s 2 = 1
  ·exact ev_pos c (by rw [if_pos c] at h'; exact h')
  ·exact ev_neg c (by rw [if_neg c] at h'; exact h')
theorem impl_SumMore_l0 (t : ByteArray) (ht : t.size < 9223372036854775807) (d : Nat) : ∀ (s : Int) (i : Nat), i + d = t.size → Ev (fun k => impl_SumMore.l0 k s t (i : Int)) (sumFrom t s i d) := by
 induction d with
 | zero => intro s i h; exact ev_step (fun k => impl_SumMore.l0.eq_2 _ _ _ k) (ev_neg (by omega) (ev_some _))
 | succ d ih =>
  intro s i h
  refine ev_step (fun k => impl_SumMore.l0.eq_2 _ _ _ k) (ev_pos (by omega) (ev_pos (by omega) (impl_SumMore_l1 _ _ _ 8 _ _ (by omega) (by omega) ?_)))
  rw [wrap_in (by omega) (by omega)]
  exact ih _ (i + 1) (by omega)
def sumText (t : ByteArray) : Int := wrap64 (sumFrom t 4294967295 0 t.size)
theorem spec_SumText_ev (t : ByteArray) (ht : t.size < 9223372036854775807) : Ev (fun k => spec_SumText.f k t) (sumText t) := by
 unfold spec_SumText.f spec_SumOf.f spec_SumMore.f
 have h := spec_SumMore_l0 t ht t.size 4294967295 0 (by omega)
 exact ev_bind (ev_bind (by simpa using h) (ev_some _)) (ev_some _)
theorem impl_SumText_ev (t : ByteArray) (ht : t.size < 9223372036854775807) : Ev (fun k => impl_SumText.f k t) (sumText t) := by
 unfold impl_SumText.f impl_SumOf.f impl_SumMore.f
 have h := impl_SumMore_l0 t ht t.size 4294967295 0 (by omega)
 exact ev_bind (ev_bind (by simpa using h) (ev_some _)) (ev_some _)
theorem idxF_range {α : Type} (p : α → Bool) (s : List α) : ∀ j : Nat, idxF p s j = -1 ∨ ((j : Int) ≤ idxF p s j ∧ idxF p s j < j + s.length) := by
 induction s with
 | nil => intro j; exact .inl rfl
 | cons x s ih =>
  intro j
  unfold idxF
  split
  ·exact .inr ⟨by omega, by simp; omega⟩
  ·rcases ih (j + 1) with h | h
   ·exact .inl h
   ·exact .inr ⟨by omega, by simp; omega⟩
theorem spec_l14At_loop (g i a : Int) (b : Bool) (s : List ImUnit) : ∀ (p : List ImUnit), p.length + s.length < 9223372036854775807 → Ev (fun k => spec_l14At.l0 k g i (p.length : Int) a b (p ++ s)) (idxF (isAt g i) s p.length) := by
 induction s with
 | nil => intro p hl; exact ev_step (fun k => spec_l14At.l0.eq_2 _ _ _ _ _ _ k) (ev_neg (by simp) (ev_some _))
 | cons x s ih =>
  intro p hl
  simp at hl
  refine ev_step (fun k => spec_l14At.l0.eq_2 _ _ _ _ _ _ k) (ev_pos (by simp; omega) (ev_pos (by omega) ?_))
  have e : wrap64 ((p.length : Int) + 1) = (p.length : Int) + 1 := wrap_in (by omega) (by omega)
  simp only [rd60, e]
  have h := ih (p ++ [x]) (by simp; omega)
  simp only [List.length_append, List.length_cons, List.length_nil, List.append_assoc, List.cons_append, List.nil_append] at h
  have h' : Ev (fun k => spec_l14At.l0 k g i ((p.length : Int) + 1) a b (p ++ x :: s)) (idxF (isAt g i) s (p.length + 1)) := by simpa using h
  by_cases c : x.f0 = g
  ·refine ev_pos c ?_
   by_cases c2 : x.f1 = i
   ·exact ev_pos c2 (ev_eq (ev_some _) (by rw [idxF, if_pos (by simp [isAt, c, c2])]))
   ·exact ev_neg c2 (ev_eq h' (by rw [idxF, if_neg (by simp [isAt, c, c2])]))
  ·exact ev_neg c (ev_eq h' (by rw [idxF, if_neg (by simp [isAt, c])]))
def getUnit (up : Bool) (us : List ImUnit) (g i : Int) : ByteArray × Bool :=
 if up = true then (if idxF (isAt g i) us 0 < 0 then (⟨#[]⟩, false) else if (rd_T60 us (idxF (isAt g i) us 0)).f3 = sumText (rd_T60 us (idxF (isAt g i) us 0)).f2 then ((rd_T60 us (idxF (isAt g i) us 0)).f2, true) else (⟨#[]⟩, false)) else (⟨#[]⟩, false)
theorem getUnit_no {up : Bool} {us : List ImUnit} {g i : Int} (h : (getUnit up us g i).2 = false) : (getUnit up us g i).1 = ⟨#[]⟩ := by
 unfold getUnit at h ⊢
 split
 ·rename_i h1
  rw [if_pos h1] at h
  split
  ·rfl
  ·rename_i h2
   rw [if_neg h2] at h
   split
   ·rename_i h3
    rw [if_pos h3] at h
    cases h
   ·rfl
 ·rfl
def shortU (us : List ImUnit) : Prop := us.length < 9223372036854775807 ∧ ∀ u ∈ us, u.f2.size < 9223372036854775807
theorem shortU_at {us : List ImUnit} (h : shortU us) (i : Int) : (rd_T60 us i).f2.size < 9223372036854775807 := by
 unfold rd_T60
 by_cases c : i.toNat < us.length
 ·simp only [List.getD, List.getElem?_eq_getElem c, Option.getD_some]
  exact h.2 _ (List.getElem_mem c)
 ·have e : us[i.toNat]? = none := List.getElem?_eq_none (by omega)
  rw [List.getD, e]
  decide
theorem spec_GetUnit_ev (a : Int) (up : Bool) (us : List ImUnit) (g i : Int) (h : shortU us) : Ev (fun k => spec_GetUnit.f k a up us g i) (getUnit up us g i) := by
 unfold spec_GetUnit.f spec_l14At.f getUnit
 have h1 := spec_l14At_loop g i a up us [] (by simpa using h.1)
 refine ev_bind (by simpa using h1) ?_
 have hr := idxF_range (isAt g i) us 0
 refine ev_ite (fun c => ev_ite (fun c => ev_some _) (fun c => ev_pos (by omega) (ev_pos (by omega) (ev_bind (spec_SumText_ev _ (shortU_at h _)) ?_)))) (fun c => ev_some _)
 exact ev_ite (fun c => ev_some _) (fun c => ev_some _)
theorem impl_GetUnit_ev (a : Int) (up : Bool) (us : List ImUnit) (g i : Int) (h : shortU us) : Ev (fun k => impl_GetUnit.f k a up us g i) (getUnit up us g i) := by
 unfold impl_GetUnit.f impl_unitAt.f getUnit
 refine ev_call rfl ?_
 have hr := idxF_range (isAt g i) us 0
 refine ev_ite (fun c => ev_ite (fun c => ev_some _) (fun c => ev_pos (by omega) (ev_pos (by omega) (ev_bind (impl_SumText_ev _ (shortU_at h _)) ?_)))) (fun c => ev_some _)
 exact ev_ite (fun c => ev_some _) (fun c => ev_some _)
end Go.Proofs.Ytaejgompckpmfaa.Pu
namespace Go.Proofs.Ytaejgompckpmfaa.Lw
open Go.RowKit Go.Proofs.YtaejgompckpmfaaW.PrintWords Go.Proofs.Ytaejgompckpmfaa.Pr Go.Proofs.Ytaejgompckpmfaa.Evs
abbrev ImHost := S35
theorem rd35 (p s : List S35) (x : S35) : rd_T35 (p ++ x :: s) (p.length : Int) = x := by unfold rd_T35; exact getD_mid' p s x _ _ rfl
end Go.Proofs.Ytaejgompckpmfaa.Lw
namespace Go.Proofs.Ytaejgompckpmfaa.Pu
open Go.RowKit Go.Proofs.YtaejgompckpmfaaW.PrintWords Go.Proofs.Ytaejgompckpmfaa.Pr Go.Proofs.Ytaejgompckpmfaa.Evs Go.Proofs.Ytaejgompckpmfaa.Lw
def ahead (x y : ImUnit) : Bool := decide (x.f0 < y.f0) || (decide (x.f0 = y.f0) && decide (x.f1 < y.f1))
def unitOk (u : ImUnit) : Bool := decide (1 ≤ u.f0 ∧ u.f0 ≤ 100000) && decide (0 ≤ u.f1 ∧ u.f1 ≤ 5) && decide (u.f2.size ≤ 200) && decide (0 ≤ u.f3 ∧ u.f3 ≤ 4294967295)
def unitsFrom : ImUnit → List ImUnit → Bool
 | _, [] => true
 | x, u :: s => unitOk u && ahead x u && unitsFrom u s
def unitsOk : List ImUnit → Bool
 | [] => true
 | u :: s => unitOk u && unitsFrom u s
def hostOk (id : Int) (us : List ImUnit) : Bool := unitsOk us && decide (1 ≤ id ∧ id ≤ 7)
theorem spec_ahead_eq (x y : ImUnit) : spec_l14Ahead.f x.f0 x.f1 x.f2 x.f3 y.f0 y.f1 y.f2 y.f3 = some (ahead x y) := by
 unfold spec_l14Ahead.f ahead
 by_cases c : x.f0 < y.f0
 ·rw [if_pos c, decide_eq_true c, Bool.true_or]
 ·rw [if_neg c, decide_eq_false c, Bool.false_or]
  by_cases c2 : x.f0 = y.f0
  ·rw [if_pos c2, decide_eq_true c2, Bool.true_and]
  ·rw [if_neg c2, decide_eq_false c2, Bool.false_and]
theorem l01In_in (n lo hi : Int) : spec_l01In.f n lo hi = some (decide (lo ≤ n ∧ n ≤ hi)) := by
 unfold spec_l01In.f
 by_cases c : n ≥ lo
 ·rw [if_pos c]
  congr 1
  exact decide_eq_decide.mpr ⟨fun h => ⟨c, h⟩, fun h => h.2⟩
 ·rw [if_neg c, decide_eq_false (fun h => c h.1)]
theorem spec_HostOk_loop (id : Int) (up : Bool) (s : List ImUnit) : ∀ (p : List ImUnit), (p ++ s).length < 9223372036854775800 →
  Ev (fun k => spec_HostOk.l0 k (p.length : Int) id up (p ++ s)) ((match p.getLast? with | none => unitsOk s | some x => unitsFrom x s) && decide (1 ≤ id ∧ id ≤ 7)) := by
 induction s with
 | nil =>
  intro p hl
  refine ev_step (fun k => spec_HostOk.l0.eq_2 _ _ _ _ k) (ev_neg (by simp) (ev_call (l01In_in _ _ _) (ev_eq (ev_some _) ?_)))
  cases p.getLast? <;> simp [unitsOk, unitsFrom]
 | cons u s ih =>
  intro p hl
  simp at hl
  have e : wrap64 ((p.length : Int) + 1) = ((p ++ [u]).length : Int) := by rw [wrap_in (by omega) (by omega), List.length_append]; rfl
  refine ev_step (fun k => spec_HostOk.l0.eq_2 _ _ _ _ k) (ev_pos (by simp; omega) (ev_pos (by omega) ?_))
  simp only [rd60, e]
  have hih : Ev (fun k => spec_HostOk.l0 k ((p ++ [u]).length : Int) id up (p ++ u :: s)) (unitsFrom u s && decide (1 ≤ id ∧ id ≤ 7)) := by
   have h := ih (p ++ [u]) (by simp; omega)
   rw [List.append_assoc, List.getLast?_concat] at h
   exact h
  have hno : ∀ b : Bool, (b = false) → Ev (fun k => some false) ((match p.getLast? with | none => unitsOk (u :: s) | some x => unitsFrom x (u :: s)) && decide (1 ≤ id ∧ id ≤ 7)) → Ev (fun _ => some false) ((match p.getLast? with | none => unitsOk (u :: s) | some x => unitsFrom x (u :: s)) && decide (1 ≤ id ∧ id ≤ 7)) := fun _ _ h => h
  by_cases c1 : 1 ≤ u.f0 ∧ u.f0 ≤ 100000
  ·refine ev_call (l01In_in _ _ _) (ev_pos (decide_eq_true c1) ?_)
   by_cases c2 : 0 ≤ u.f1 ∧ u.f1 ≤ 5
   ·refine ev_call (l01In_in _ _ _) (ev_pos (decide_eq_true c2) ?_)
    by_cases c3 : u.f2.size ≤ 200
    ·refine ev_neg (by omega) ?_
     by_cases c4 : 0 ≤ u.f3 ∧ u.f3 ≤ 4294967295
     ·refine ev_call (l01In_in _ _ _) (ev_pos (decide_eq_true c4) ?_)
      have hu : unitOk u = true := by simp [unitOk, c1, c2, c3, c4]
      cases hp : p.getLast? with
      | none =>
       rw [List.getLast?_eq_none_iff] at hp
       subst hp
       refine ev_neg (by simp) (ev_eq hih ?_)
       simp [unitsOk, hu]
      | some x =>
       obtain ⟨q, rfl⟩ := List.getLast?_eq_some_iff.mp hp
       have hq : (q ++ [x]).length = q.length + 1 := by simp
       have e2 : wrap64 (((q ++ [x]).length : Int) - 1) = (q.length : Int) := by rw [wrap_in (by omega) (by omega)]; omega
       refine ev_pos (by omega) (ev_pos (by rw [e2]; omega) (ev_pos (by rw [e2]; simp; omega) ?_))
       rw [e2, List.append_assoc q [x] (u :: s), List.singleton_append, rd60]
       refine ev_call (spec_ahead_eq _ _) ?_
       by_cases c5 : ahead x u = true
       ·refine ev_pos c5 ?_
        rw [List.append_assoc q [x] (u :: s), List.singleton_append] at hih
        refine ev_eq hih ?_
        simp [unitsFrom, hu, c5]
       ·refine ev_neg c5 (ev_eq (ev_some _) ?_)
        simp [unitsFrom, c5]
     ·refine ev_call (l01In_in _ _ _) (ev_neg (by simpa using c4) (ev_eq (ev_some _) ?_))
      have hu : unitOk u = false := by simp [unitOk, c4]
      cases p.getLast? <;> simp [unitsOk, unitsFrom, hu]
    ·refine ev_pos (by omega) (ev_eq (ev_some _) ?_)
     have hu : unitOk u = false := by simp [unitOk, c3]
     cases p.getLast? <;> simp [unitsOk, unitsFrom, hu]
   ·refine ev_call (l01In_in _ _ _) (ev_neg (by simpa using c2) (ev_eq (ev_some _) ?_))
    have hu : unitOk u = false := by simp [unitOk, c2]
    cases p.getLast? <;> simp [unitsOk, unitsFrom, hu]
  ·refine ev_call (l01In_in _ _ _) (ev_neg (by simpa using c1) (ev_eq (ev_some _) ?_))
   have hu : unitOk u = false := by simp [unitOk, c1]
   cases p.getLast? <;> simp [unitsOk, unitsFrom, hu]
theorem spec_HostOk_ev (id : Int) (up : Bool) (us : List ImUnit) (h : us.length < 9223372036854775800) : Ev (fun k => spec_HostOk.f k id up us) (hostOk id us) := by
 unfold spec_HostOk.f
 have := spec_HostOk_loop id up us [] (by simpa using h)
 simpa [hostOk] using this
def putL (us : List ImUnit) (u : ImUnit) : List ImUnit := us.filter (fun x => ahead x u) ++ u :: us.filter (fun x => ahead u x)
def putT (id : Int) (up : Bool) (us : List ImUnit) (g i : Int) (t : ByteArray) : List ImUnit × Bool := if hostOk id us = true ∧ up = true ∧ hostOk id (putL us ⟨g, i, t, sumText t⟩) = true then (putL us ⟨g, i, t, sumText t⟩, true) else (us, false)
theorem spec_Copy_eq (id : Int) (up : Bool) (us : List ImUnit) (h : us.length < 3000000000000) : spec_l14Copy.f id up us = some (id, up, us) := by
 unfold spec_l14Copy.f
 rw [Option.bind_some, if_pos (by simp; omega)]
 rfl
theorem spec_Put_l1 (id : Int) (up : Bool) (us : List ImUnit) (hl : us.length < 1000000000000) (u : ImUnit) (a : Int) (b : Bool) (c : List ImUnit) (r : List ImUnit) (hr : r.length ≤ us.length + 1) (s : List ImUnit) : ∀ (p : List ImUnit), p ++ s = us →
  Ev (fun k => spec_PutUnit.l1 k (r ++ p.filter (fun x => ahead u x)) (p.length : Int) id up us u.f0 u.f1 u.f2 u.f3 a b c) (if hostOk id us = true ∧ up = true ∧ hostOk id (r ++ us.filter (fun x => ahead u x)) = true then (id, up, r ++ us.filter (fun x => ahead u x), true) else (a, b, c, false)) := by
 induction s with
 | nil =>
  intro p hp
  rw [List.append_nil] at hp
  subst hp
  have hf := List.length_filter_le (fun x => ahead u x) p
  refine ev_step (fun k => spec_PutUnit.l1.eq_2 _ _ _ _ _ _ _ _ _ _ _ _ k) (ev_neg (by omega) (ev_bind (spec_HostOk_ev _ _ _ (by omega)) ?_))
  by_cases c1 : hostOk id p = true
  ·refine ev_pos c1 ?_
   by_cases c2 : up = true
   ·refine ev_pos c2 (ev_bind (spec_HostOk_ev _ _ _ (by simp; omega)) ?_)
    by_cases c3 : hostOk id (r ++ p.filter (fun x => ahead u x)) = true
    ·exact ev_pos c3 (ev_eq (ev_some _) (if_pos ⟨c1, c2, c3⟩).symm)
    ·exact ev_neg c3 (ev_eq (ev_some _) (if_neg (fun x => c3 x.2.2)).symm)
   ·exact ev_neg c2 (ev_eq (ev_some _) (if_neg (fun x => c2 x.2.1)).symm)
  ·exact ev_neg c1 (ev_eq (ev_some _) (if_neg (fun x => c1 x.1)).symm)
 | cons x s ih =>
  intro p hp
  have hlp : p.length < us.length := by rw [← hp]; simp
  have hx : rd_T60 us (p.length : Int) = x := by rw [← hp]; exact rd60 p s x
  have e : wrap64 ((p.length : Int) + 1) = ((p ++ [x]).length : Int) := by rw [wrap_in (by omega) (by omega), List.length_append]; rfl
  have hf := List.length_filter_le (fun x => ahead u x) p
  have hih := ih (p ++ [x]) (by rw [List.append_assoc]; exact hp)
  rw [List.filter_append] at hih
  refine ev_step (fun k => spec_PutUnit.l1.eq_2 _ _ _ _ _ _ _ _ _ _ _ _ k) (ev_pos (by omega) (ev_pos (by omega) ?_))
  simp only [hx, e]
  refine ev_call (spec_ahead_eq u x) ?_
  by_cases c1 : ahead u x = true
  ·refine ev_pos c1 (ev_pos (by simp; omega) ?_)
   simp only [List.filter_cons, c1, if_true, List.filter_nil, ← List.append_assoc] at hih
   exact hih
  ·refine ev_neg c1 ?_
   simp only [List.filter_cons, c1, List.filter_nil] at hih
   simpa using hih
theorem spec_Put_l0 (id : Int) (up : Bool) (us : List ImUnit) (hl : us.length < 1000000000000) (u : ImUnit) (a : Int) (b : Bool) (c : List ImUnit) (s : List ImUnit) : ∀ (p : List ImUnit), p ++ s = us →
  Ev (fun k => spec_PutUnit.l0 k (p.filter (fun x => ahead x u)) (p.length : Int) id up us u.f0 u.f1 u.f2 u.f3 a b c) (if hostOk id us = true ∧ up = true ∧ hostOk id (putL us u) = true then (id, up, putL us u, true) else (a, b, c, false)) := by
 induction s with
 | nil =>
  intro p hp
  rw [List.append_nil] at hp
  subst hp
  have hf := List.length_filter_le (fun x => ahead x u) p
  refine ev_step (fun k => spec_PutUnit.l0.eq_2 _ _ _ _ _ _ _ _ _ _ _ _ k) (ev_neg (by omega) (ev_pos (Nat.lt_of_le_of_lt hf (by omega)) ?_))
  have h := spec_Put_l1 id up p hl u a b c (p.filter (fun x => ahead x u) ++ [u]) (by simp; omega) p [] rfl
  simp only [List.filter_nil, List.append_nil] at h
  refine ev_eq h ?_
  rw [show List.filter (fun x => ahead x u) p ++ [u] ++ List.filter (fun x => ahead u x) p = putL p u by simp [putL]]
 | cons x s ih =>
  intro p hp
  have hlp : p.length < us.length := by rw [← hp]; simp
  have hx : rd_T60 us (p.length : Int) = x := by rw [← hp]; exact rd60 p s x
  have e : wrap64 ((p.length : Int) + 1) = ((p ++ [x]).length : Int) := by rw [wrap_in (by omega) (by omega), List.length_append]; rfl
  have hf := List.length_filter_le (fun x => ahead x u) p
  have hih := ih (p ++ [x]) (by rw [List.append_assoc]; exact hp)
  rw [List.filter_append] at hih
  refine ev_step (fun k => spec_PutUnit.l0.eq_2 _ _ _ _ _ _ _ _ _ _ _ _ k) (ev_pos (by omega) (ev_pos (by omega) ?_))
  simp only [hx, e]
  refine ev_call (spec_ahead_eq x u) ?_
  by_cases c1 : ahead x u = true
  ·refine ev_pos c1 (ev_pos (Nat.lt_of_le_of_lt hf (by omega)) ?_)
   simp only [List.filter_cons, c1, if_true, List.filter_nil] at hih
   exact hih
  ·refine ev_neg c1 ?_
   simp only [List.filter_cons, c1, List.filter_nil] at hih
   simpa using hih
theorem spec_PutUnit_ev (id : Int) (up : Bool) (us : List ImUnit) (hl : us.length < 1000000000000) (g i : Int) (t : ByteArray) (x : Int) (ht : t.size < 9223372036854775807) : Ev (fun k => spec_PutUnit.f k id up us g i t x) (id, up, putT id up us g i t) := by
 unfold spec_PutUnit.f
 refine ev_call (spec_Copy_eq id up us (by omega)) (ev_bind (spec_SumText_ev t ht) ?_)
 have h := spec_Put_l0 id up us hl ⟨g, i, t, sumText t⟩ id up us us [] rfl
 refine ev_eq h ?_
 unfold putT
 split <;> rfl
def flipU (u : ImUnit) (a : Int) : ImUnit := ⟨u.f0, u.f1, flipT u.f2 (Int.tmod a (u.f2.size : Int)).toNat, u.f3⟩
def spoilT (us : List ImUnit) (g i a : Int) : List ImUnit × Bool :=
 if idxF (isAt g i) us 0 < 0 ∨ a < 0 ∨ (rd_T60 us (idxF (isAt g i) us 0)).f2.toList = [] ∨ (rd_T60 us (idxF (isAt g i) us 0)).f3 ≠ sumText (rd_T60 us (idxF (isAt g i) us 0)).f2 then (us, false)
 else (us.set (idxF (isAt g i) us 0).toNat (flipU (rd_T60 us (idxF (isAt g i) us 0)) a), true)
theorem spec_Spoil_ev (id : Int) (up : Bool) (us : List ImUnit) (h : shortU us) (hl : us.length < 3000000000000) (g i a : Int) : Ev (fun k => spec_Spoil.f k id up us g i a) (id, up, spoilT us g i a) := by
 have h1 := spec_l14At_loop g i id up us [] (by simpa using h.1)
 have hr := idxF_range (isAt g i) us 0
 have hT := spec_SumText_ev (rd_T60 us (idxF (isAt g i) us 0)).f2 (shortU_at h _)
 unfold spec_Spoil.f spec_l14At.f spoilT
 refine ev_call (spec_Copy_eq id up us hl) (ev_bind (by simpa using h1) ?_)
 generalize idxF (isAt g i) us 0 = x at hr hT ⊢
 by_cases c1 : x < 0
 ·exact ev_pos c1 (ev_eq (ev_some _) (by rw [if_pos (.inl c1)]))
 ·refine ev_neg c1 ?_
  by_cases c2 : a < 0
  ·exact ev_pos c2 (ev_eq (ev_some _) (by rw [if_pos (.inr (.inl c2))]))
  ·refine ev_neg c2 (ev_pos (by omega) (ev_pos (by omega) ?_))
   by_cases c3 : (rd_T60 us x).f2.toList = []
   ·exact ev_pos c3 (ev_eq (ev_some _) (by rw [if_pos (.inr (.inr (.inl c3)))]))
   ·refine ev_neg c3 (ev_bind hT ?_)
    by_cases c4 : (rd_T60 us x).f3 = sumText (rd_T60 us x).f2
    ·refine ev_pos c4 (ev_pos (by show x < (us.length : Int); omega) (ev_eq (ev_some _) ?_))
     rw [if_neg (fun hh => hh.elim c1 (fun hh => hh.elim c2 (fun hh => hh.elim c3 (fun hh => hh c4))))]
     rfl
    ·exact ev_neg c4 (ev_eq (ev_some _) (by rw [if_pos (.inr (.inr (.inr c4)))]))
theorem flipT_size (s : ByteArray) (n : Nat) : (flipT s n).size = s.size := by unfold flipT; rw [strOfNums_size]; simp
theorem rdU_in (us : List ImUnit) (x : Int) (h0 : 0 ≤ x) (h1 : x < (us.length : Int)) : rd_T60 us x ∈ us := by
 unfold rd_T60
 have h : x.toNat < us.length := by omega
 rw [List.getD_eq_getElem?_getD, List.getElem?_eq_getElem h]
 exact List.getElem_mem h
theorem spoil_tame {us : List ImUnit} {B : Nat} (g i a : Int) (h : us.length ≤ B ∧ ∀ u ∈ us, u.f2.size ≤ 1048576) : (spoilT us g i a).1.length ≤ B ∧ ∀ u ∈ (spoilT us g i a).1, u.f2.size ≤ 1048576 := by
 have hr := idxF_range (isAt g i) us 0
 unfold spoilT
 split
 ·exact h
 ·rename_i c
  refine ⟨by show (List.set _ _ _).length ≤ _; rw [List.length_set]; exact h.1, ?_⟩
  intro u hu
  rcases List.mem_or_eq_of_mem_set hu with hu | rfl
  ·exact h.2 u hu
  ·show (flipT _ _).size ≤ _
   rw [flipT_size]
   have hc : ¬ idxF (isAt g i) us 0 < 0 := fun k => c (.inl k)
   exact h.2 _ (rdU_in us _ (by omega) (by omega))
end Go.Proofs.Ytaejgompckpmfaa.Pu
namespace Go.Proofs.Ytaejgompckpmfaa.Pr
open Go.RowKit Go.Proofs.YtaejgompckpmfaaW.PrintWords Go.Proofs.YtaejgompckpmfaaW.PrintLast Go.Proofs.YtaejgompckpmfaaW.PrintMore
attribute [local go_sem] max2_int min2_int max_two min_two max_three min_three max_four min_four
def impl_GroupSize.f (a0 : Int) : Option (Int) := (impl_SchemaOf.f a0).bind fun bt600 => (some (wrap64 ((wrap64 (bt600.1 * 4)) * 2)))
end Go.Proofs.Ytaejgompckpmfaa.Pr
namespace Go.Proofs.Ytaejgompckpmfaa.Pu
open Go.RowKit Go.Proofs.YtaejgompckpmfaaW.PrintWords Go.Proofs.Ytaejgompckpmfaa.Pr Go.Proofs.Ytaejgompckpmfaa.Evs
def mOf (s : Int) : Nat := if s = 1 then 2 else if s = 2 then 3 else if s = 3 then 4 else 0
def nOf (s : Int) : Nat := if s = 1 then 3 else if s = 2 then 5 else if s = 3 then 6 else 0
theorem mOf_le (s : Int) : mOf s ≤ 4 := by unfold mOf; split <;> (try split) <;> (try split) <;> omega
theorem schema_m {s : Int} (h : s = 1 ∨ s = 2 ∨ s = 3) : ∃ q : Int, impl_SchemaOf.f s = some ((mOf s : Int), q, true) ∧ spec_SchemaOf.f s = some ((mOf s : Int), q, true) := by
 rcases h with rfl | rfl | rfl
 ·exact ⟨1, rfl, rfl⟩
 ·exact ⟨2, rfl, rfl⟩
 ·exact ⟨2, rfl, rfl⟩
theorem schema_no {s : Int} (h : ¬ (s = 1 ∨ s = 2 ∨ s = 3)) : impl_SchemaOf.f s = some (0, 0, false) ∧ spec_SchemaOf.f s = some (0, 0, false) := by
 have h1 : s ≠ 1 := fun x => h (.inl x)
 have h2 : s ≠ 2 := fun x => h (.inr (.inl x))
 have h3 : s ≠ 3 := fun x => h (.inr (.inr x))
 unfold impl_SchemaOf.f spec_SchemaOf.f
 rw [if_neg h1, if_neg h2, if_neg h3]
 exact ⟨rfl, rfl⟩
theorem groupSize {s : Int} (h : s = 1 ∨ s = 2 ∨ s = 3) : impl_GroupSize.f s = some ((8 * mOf s : Nat) : Int) ∧ spec_GroupSize.f s = some ((8 * mOf s : Nat) : Int) := by
 obtain ⟨q, h1, h2⟩ := schema_m h
 have hm := mOf_le s
 have e : wrap64 (wrap64 ((mOf s : Int) * 4) * 2) = ((8 * mOf s : Nat) : Int) := by
  rw [wrap_in (i := (mOf s : Int) * 4) (by omega) (by omega), wrap_in (by omega) (by omega)]
  omega
 unfold impl_GroupSize.f spec_GroupSize.f
 rw [h1, h2]
 simp only [Option.bind_some, e]
 exact ⟨trivial, trivial⟩
end Go.Proofs.Ytaejgompckpmfaa.Pu
namespace Go.Proofs.Ytaejgompckpmfaa.Pr
open Go.RowKit Go.Proofs.YtaejgompckpmfaaW.PrintWords Go.Proofs.YtaejgompckpmfaaW.PrintLast Go.Proofs.YtaejgompckpmfaaW.PrintMore
attribute [local go_sem] max2_int min2_int max_two min_two max_three min_three max_four min_four
def impl_within.f (a0 : Int) (a1 : Int) (a2 : Int) : Option (Bool) := if a0 ≥ a1 then (some (decide (a0 ≤ a2))) else (some false)
def impl_PlaceOf.j0 : Nat → Int → Int → Int → Bool → Option (Int × Int × Int)
 | 0, _, _, _, _ => none
 | k + 1, x0, x1, x7, x24 => if x24 = true then (some (0, 0, 0)) else ((impl_GroupSize.f x0).bind fun t607 => (if t607 = 0 then (none) else ((impl_GroupSize.f x0).bind fun t608 => (if t608 = 0 then (none) else (if x7 = 0 then (none) else (some (wrap64 (Int.tdiv x1 t608), Int.tmod (wrap64 (Int.tdiv (Int.tmod x1 t607) 4)) x7, wrap64 ((wrap64 ((wrap64 (Int.tdiv (wrap64 (Int.tdiv (Int.tmod x1 t607) 4)) x7)) * 4)) + (Int.tmod (Int.tmod x1 t607) 4)))))))))
def impl_PlaceOf.f (k : Nat) (a0 : Int) (a1 : Int) : Option (Int × Int × Int) := (impl_SchemaOf.f a0).bind fun bt603 => (if bt603.2.2 = true then ((impl_within.f a1 0 100000).bind fun t606 => (impl_PlaceOf.j0 k a0 a1 bt603.1 (!t606))) else (impl_PlaceOf.j0 k a0 a1 bt603.1 true))
end Go.Proofs.Ytaejgompckpmfaa.Pr
namespace Go.Proofs.Ytaejgompckpmfaa.Pu
open Go.RowKit Go.Proofs.YtaejgompckpmfaaW.PrintWords Go.Proofs.Ytaejgompckpmfaa.Pr Go.Proofs.Ytaejgompckpmfaa.Evs
set_option maxRecDepth 100000
def placeT (s : Int) (i : Nat) : Int × Int × Int := (spec_PlaceOf.f s (i : Int)).getD (0, 0, 0)
def placeOk (s : Int) (i : Nat) : Bool := (spec_PlaceOf.f s (i : Int) == some (placeT s i)) && (impl_PlaceOf.f 1 s (i : Int) == some (placeT s i)) && decide (0 ≤ (placeT s i).2.1 ∧ (placeT s i).2.1 < (mOf s : Int) ∧ 0 ≤ (placeT s i).2.2)
theorem place1 : (List.range 32).all (placeOk 1) = true := by kernel_rfl
theorem place2 : (List.range 32).all (placeOk 2) = true := by kernel_rfl
theorem place3 : (List.range 32).all (placeOk 3) = true := by kernel_rfl
theorem impl_PlaceOf_any (k : Nat) (s a : Int) : impl_PlaceOf.f (k + 1) s a = impl_PlaceOf.f 1 s a := by
 unfold impl_PlaceOf.f
 simp only [impl_PlaceOf.j0]
theorem place_of {s : Int} (h : s = 1 ∨ s = 2 ∨ s = 3) {i : Nat} (hi : i < 32) : spec_PlaceOf.f s (i : Int) = some (placeT s i) ∧ Ev (fun k => impl_PlaceOf.f k s (i : Int)) (placeT s i) ∧ 0 ≤ (placeT s i).2.1 ∧ (placeT s i).2.1 < (mOf s : Int) ∧ 0 ≤ (placeT s i).2.2 := by
 have h1 : placeOk s i = true := by
  rcases h with rfl | rfl | rfl
  ·exact List.all_eq_true.mp place1 i (List.mem_range.mpr hi)
  ·exact List.all_eq_true.mp place2 i (List.mem_range.mpr hi)
  ·exact List.all_eq_true.mp place3 i (List.mem_range.mpr hi)
 simp only [placeOk, Bool.and_eq_true, beq_iff_eq, decide_eq_true_eq] at h1
 exact ⟨h1.1.1, ev_step (fun k => impl_PlaceOf_any k s i) (ev_const h1.1.2), h1.2⟩
end Go.Proofs.Ytaejgompckpmfaa.Pu
namespace Go.Proofs.Ytaejgompckpmfaa.Pu
def code (s : Int) : List (List Int) := if s = 1 then [[1, 0], [0, 1], [142, 244]] else if s = 2 then [[1, 0, 0], [0, 1, 0], [0, 0, 1], [244, 142, 1], [71, 167, 122]] else if s = 3 then [[1, 0, 0, 0], [0, 1, 0, 0], [0, 0, 1, 0], [0, 0, 0, 1], [71, 167, 122, 186], [167, 71, 186, 122]] else []
end Go.Proofs.Ytaejgompckpmfaa.Pu
namespace Go.Proofs.Ytaejgompckpmfaa.Pr
open Go.RowKit Go.Proofs.YtaejgompckpmfaaW.PrintWords Go.Proofs.YtaejgompckpmfaaW.PrintLast Go.Proofs.YtaejgompckpmfaaW.PrintMore
attribute [local go_sem] max2_int min2_int max_two min_two max_three min_three max_four min_four
end Go.Proofs.Ytaejgompckpmfaa.Pr
namespace Go.Proofs.Ytaejgompckpmfaa.Pu
open Go.RowKit Go.Proofs.YtaejgompckpmfaaW.PrintWords Go.Proofs.Ytaejgompckpmfaa.Pr
set_option maxRecDepth 100000
theorem spec_CodeOf_ev {s : Int} (h : s = 1 ∨ s = 2 ∨ s = 3) : Ev (fun k => spec_CodeOf.f k s) (code s) := by
 rcases h with rfl | rfl | rfl
 ·exact Ev.of (k := 400) (spec_CodeOf.mono 1) (by kernel_rfl)
 ·exact Ev.of (k := 400) (spec_CodeOf.mono 2) (by kernel_rfl)
 ·exact Ev.of (k := 400) (spec_CodeOf.mono 3) (by kernel_rfl)
end Go.Proofs.Ytaejgompckpmfaa.Pu
namespace Go.Proofs.Ytaejgompckpmfaa.Pu
open Go.RowKit Go.Proofs.YtaejgompckpmfaaW.PrintWords Go.Proofs.Ytaejgompckpmfaa.Pr Go.Proofs.Ytaejgompckpmfaa.Evs
def stepA (a : Int) : Int := if 2 * a > 255 then Go.bits .xor .i64 (2 * a) 285 else 2 * a
def mulL : Nat → Int → Int → Int → Int
 | 0, _, _, o => o
 | f + 1, a, b, o => if b > 0 then mulL f (stepA a) (b / 2) (if b % 2 = 1 then Go.bits .xor .i64 o a else o) else o
def mulG (a b : Int) : Int := mulL 8 a b 0
set_option maxRecDepth 100000 in
theorem stepA_all : ∀ n : Fin 256, 0 ≤ stepA (n.val : Int) ∧ stepA (n.val : Int) < 256 := by decide
theorem stepA_in (a : Int) (h0 : 0 ≤ a) (h1 : a < 256) : 0 ≤ stepA a ∧ stepA a < 256 := by
 have := stepA_all ⟨a.toNat, by omega⟩
 have e : (((⟨a.toNat, by omega⟩ : Fin 256)).val : Int) = a := by simp; omega
 rwa [e] at this
theorem pow_le8 (f : Nat) (h : f ≤ 8) : (2 : Int) ^ f ≤ 256 := by
 have : f = 0 ∨ f = 1 ∨ f = 2 ∨ f = 3 ∨ f = 4 ∨ f = 5 ∨ f = 6 ∨ f = 7 ∨ f = 8 := by omega
 rcases this with rfl | rfl | rfl | rfl | rfl | rfl | rfl | rfl | rfl <;> decide
theorem spec_MulG_l0 : ∀ (f : Nat) (a b o : Int), 0 ≤ a → a < 256 → 0 ≤ b → b < 2 ^ f → f ≤ 8 → Ev (fun k => spec_MulG.l0 k a b o) (mulL f a b o)
 | 0, a, b, o, h0, h1, h2, h3, hf => ev_step (fun k => spec_MulG.l0.eq_2 _ _ _ k) (ev_neg (by simp at h3; omega) (ev_some _))
 | f + 1, a, b, o, h0, h1, h2, h3, hf => by
  have hb : b < 256 := Int.lt_of_lt_of_le h3 (pow_le8 (f + 1) hf)
  refine ev_step (fun k => spec_MulG.l0.eq_2 _ _ _ k) ?_
  unfold mulL
  by_cases c : b > 0
  ·rw [if_pos c]
   refine ev_pos c ?_
   have hs := stepA_in a h0 h1
   have hd : b / 2 < 2 ^ f := by rw [Int.pow_succ] at h3; omega
   have w : wrap64 (2 * a) = 2 * a := wrap_in (by omega) (by omega)
   have t : Int.tmod b 2 = b % 2 := Int.tmod_eq_emod_of_nonneg h2
   have d : wrap64 (Int.tdiv b 2) = b / 2 := by rw [Int.tdiv_eq_ediv_of_nonneg h2]; exact wrap_in (by omega) (by omega)
   rw [t, w, d]
   by_cases o1 : b % 2 = 1
   ·rw [if_pos o1]
    refine ev_pos o1 ?_
    have ih := spec_MulG_l0 f (stepA a) (b / 2) (Go.bits .xor .i64 o a) hs.1 hs.2 (by omega) hd (by omega)
    by_cases g : 2 * a > 255
    ·refine ev_pos (by omega) ?_
     unfold stepA at ih ⊢
     rw [if_pos g] at ih ⊢
     exact ih
    ·refine ev_neg (by omega) ?_
     unfold stepA at ih ⊢
     rw [if_neg g] at ih ⊢
     exact ih
   ·rw [if_neg o1]
    refine ev_neg o1 ?_
    have ih := spec_MulG_l0 f (stepA a) (b / 2) o hs.1 hs.2 (by omega) hd (by omega)
    by_cases g : 2 * a > 255
    ·refine ev_pos (by omega) ?_
     unfold stepA at ih ⊢
     rw [if_pos g] at ih ⊢
     exact ih
    ·refine ev_neg (by omega) ?_
     unfold stepA at ih ⊢
     rw [if_neg g] at ih ⊢
     exact ih
  ·rw [if_neg c]
   exact ev_neg c (ev_some _)
theorem l05Mod_eq (a : Int) (h0 : 0 ≤ a) (h1 : a < 256) : spec_l05Mod.f a = some a := by
 unfold spec_l05Mod.f
 have t : Int.tmod a 256 = a := by rw [Int.tmod_eq_emod_of_nonneg h0]; omega
 rw [t, if_neg (by omega)]
theorem spec_MulG_ev (a b : Int) (h0 : 0 ≤ a) (h1 : a < 256) (h2 : 0 ≤ b) (h3 : b < 256) : Ev (fun k => spec_MulG.f k a b) (mulG a b) := by
 unfold spec_MulG.f
 refine ev_call (l05Mod_eq a h0 h1) (ev_call (l05Mod_eq b h2 h3) ?_)
 exact spec_MulG_l0 8 a b 0 h0 h1 h2 h3 (Nat.le_refl _)
end Go.Proofs.Ytaejgompckpmfaa.Pu
namespace Go.Proofs.Ytaejgompckpmfaa.Pr
open Go.RowKit Go.Proofs.YtaejgompckpmfaaW.PrintWords Go.Proofs.YtaejgompckpmfaaW.PrintLast Go.Proofs.YtaejgompckpmfaaW.PrintMore
attribute [local go_sem] max2_int min2_int max_two min_two max_three min_three max_four min_four
end Go.Proofs.Ytaejgompckpmfaa.Pr
namespace Go.Proofs.Ytaejgompckpmfaa.Pu
open Go.RowKit Go.Proofs.YtaejgompckpmfaaW.PrintWords Go.Proofs.Ytaejgompckpmfaa.Pr Go.Proofs.Ytaejgompckpmfaa.Evs
def mulT (a : Int) (s : ByteArray) : ByteArray := strOfNums ((List.range s.size).map fun j => mulG a (btN s j) % 256)
theorem mulT_size (a : Int) (s : ByteArray) : (mulT a s).size = s.size := by unfold mulT; rw [strOfNums_size]; simp
theorem ev_all {α : Type} (g : Nat → Nat → Option α) (v : Nat → α) : ∀ n : Nat, (∀ j, j < n → Ev (g j) (v j)) → ∃ K, ∀ k, K ≤ k → ∀ j, j < n → g j k = some (v j)
 | 0, _ => ⟨0, fun k _ j hj => absurd hj (Nat.not_lt_zero _)⟩
 | n + 1, h => by
  obtain ⟨K, hK⟩ := ev_all g v n (fun j hj => h j (by omega))
  obtain ⟨K2, hK2⟩ := h n (by omega)
  refine ⟨max K K2, fun k hk j hj => ?_⟩
  by_cases e : j = n
  ·subst e
   exact hK2 k (by omega)
  ·exact hK k (by omega) j (by omega)
theorem spec_MulText_ev (a : Int) (s : ByteArray) (h0 : 0 ≤ a) (h1 : a < 256) (hs : s.size ≤ 1048576) : Ev (fun k => spec_MulText.f k a s) (mulT a s) := by
 obtain ⟨K, hK⟩ := ev_all (fun j k => spec_MulG.f k a (btN s j)) (fun j => mulG a (btN s j)) s.size (fun j _ => spec_MulG_ev a _ h0 h1 (btN_lo s j) (btN_hi s j))
 refine ⟨K, fun k hk => ?_⟩
 show spec_MulText.f k a s = _
 unfold spec_MulText.f
 rw [if_pos ⟨hs, fun j hj => by rw [hK k hk j hj]; rfl⟩]
 unfold mulT
 congr 2
 refine List.map_congr_left fun j hj => ?_
 rw [hK k hk j (List.mem_range.1 hj)]
 rfl
end Go.Proofs.Ytaejgompckpmfaa.Pu
namespace Go.Proofs.Ytaejgompckpmfaa.Pr
open Go.RowKit Go.Proofs.YtaejgompckpmfaaW.PrintWords Go.Proofs.YtaejgompckpmfaaW.PrintLast Go.Proofs.YtaejgompckpmfaaW.PrintMore
open Go.Lib Go.Shelf
end Go.Proofs.Ytaejgompckpmfaa.Pr
namespace Go.Proofs.Ytaejgompckpmfaa.Pr
open Go.RowKit Go.Proofs.YtaejgompckpmfaaW.PrintWords Go.Proofs.YtaejgompckpmfaaW.PrintLast Go.Proofs.YtaejgompckpmfaaW.PrintMore
end Go.Proofs.Ytaejgompckpmfaa.Pr
namespace Go.Proofs.Ytaejgompckpmfaa.Pr
open Go.RowKit Go.Proofs.YtaejgompckpmfaaW.PrintWords Go.Proofs.YtaejgompckpmfaaW.PrintLast Go.Proofs.YtaejgompckpmfaaW.PrintMore
attribute [local go_sem] max2_int min2_int max_two min_two max_three min_three max_four min_four
end Go.Proofs.Ytaejgompckpmfaa.Pr
namespace Go.Proofs.Ytaejgompckpmfaa.Pu
open Go.RowKit Go.Proofs.YtaejgompckpmfaaW.PrintWords Go.Proofs.Ytaejgompckpmfaa.Pr Go.Proofs.Ytaejgompckpmfaa.Evs
theorem addT_size (a b : ByteArray) : (addT a b).size = max a.size b.size := by unfold addT; rw [strOfNums_size]; simp
def rowT : List Int → List ByteArray → ByteArray → ByteArray
 | a :: r, u :: us, acc => rowT r us (addT acc (mulT a u))
 | _, _, acc => acc
def applyT (m : List (List Int)) (us : List ByteArray) : List ByteArray := m.map fun row => rowT row us ⟨#[]⟩
def Fits (m : List (List Int)) (us : List ByteArray) : Prop := (∀ row ∈ m, row.length = us.length ∧ ∀ a ∈ row, 0 ≤ a ∧ a < 256) ∧ us.length ≤ 8 ∧ m.length ≤ 8 ∧ ∀ u ∈ us, u.size ≤ 1048576
theorem fits_len {m : List (List Int)} {us : List ByteArray} (hf : Fits m us) (hp : 0 < m.length) : (m.getD 0 []).length = us.length := by
 have := (hf.1 _ (List.getElem_mem hp)).1
 rw [List.getD_eq_getElem?_getD, List.getElem?_eq_getElem hp]
 exact this
theorem l01In_eq (n lo hi : Int) : spec_l01In.f n lo hi = some (decide (lo ≤ n) && decide (n ≤ hi)) := by
 unfold spec_l01In.f
 by_cases h : lo ≤ n <;> by_cases h2 : n ≤ hi <;> simp [h, h2]
theorem spec_MatrixOk_l1 (m : List (List Int)) (i : Nat) (row : List Int) (v : Bool) (him : i < m.length) (hrow : m[i] = row) (hl : row.length ≤ 8) (hr : ∀ a ∈ row, 0 ≤ a ∧ a ≤ 255) (hE : Ev (fun k => spec_MatrixOk.l0 k m (wrap64 ((i : Int) + 1))) v) : ∀ (d j : Nat), j + d = row.length →
  Ev (fun k => spec_MatrixOk.l1 k m (i : Int) (j : Int)) v := by
 have e1 : rd_L4 m (i : Int) = row := by show m.getD i [] = _; rw [List.getD_eq_getElem?_getD, List.getElem?_eq_getElem him]; exact hrow
 intro d
 induction d with
 | zero =>
  intro j hj
  refine ev_step (fun k => spec_MatrixOk.l1.eq_2 _ _ _ k) (ev_pos (by omega) (ev_pos (by omega) (ev_neg (by rw [e1]; omega) hE)))
 | succ d ih =>
  intro j hj
  have hjr : j < row.length := by omega
  have hb := hr _ (List.getElem_mem hjr)
  have e : wrap64 ((j : Int) + 1) = ((j + 1 : Nat) : Int) := by rw [wrap_in (by omega) (by omega)]; omega
  have e2 : rd row (j : Int) = row[j] := by show row.getD j 0 = _; rw [List.getD_eq_getElem?_getD, List.getElem?_eq_getElem hjr]; rfl
  refine ev_step (fun k => spec_MatrixOk.l1.eq_2 _ _ _ k) (ev_pos (by omega) (ev_pos (by omega) (ev_pos (by rw [e1]; omega) (ev_pos (by omega) ?_))))
  rw [e1, e2, e]
  exact ev_call (show spec_l01In.f row[j] 0 255 = some true by rw [l01In_eq, decide_eq_true hb.1, decide_eq_true hb.2]; rfl) (ev_pos rfl (ih (j + 1) (by omega)))
set_option maxHeartbeats 2000000 in
theorem spec_MatrixOk_ev (m : List (List Int)) (us : List ByteArray) (hf : Fits m us) (hp : 0 < m.length) (hu : 0 < us.length) : Ev (fun k => spec_MatrixOk.f k m) true := by
 obtain ⟨h1, h2, h3, h4⟩ := hf
 unfold spec_MatrixOk.f
 have main : ∀ (d i : Nat), i + d = m.length → Ev (fun k => spec_MatrixOk.l0 k m (i : Int)) true := by
  intro d
  induction d with
  | zero =>
   intro i hi
   refine ev_step (fun k => spec_MatrixOk.l0.eq_2 _ _ k) (ev_neg (by omega) (ev_call (show spec_l01In.f (m.length : Int) 1 8 = some true by rw [l01In_eq, decide_eq_true (by omega), decide_eq_true (by omega)]; rfl) (ev_some _)))
  | succ d ih =>
   intro i hi
   have him : i < m.length := by omega
   have hrow := h1 _ (List.getElem_mem him)
   have h := ih (i + 1) (by omega)
   have e : wrap64 ((i : Int) + 1) = ((i + 1 : Nat) : Int) := by rw [wrap_in (by omega) (by omega)]; omega
   have e1 : rd_L4 m (i : Int) = m[i] := by show m.getD i [] = _; rw [List.getD_eq_getElem?_getD, List.getElem?_eq_getElem him]; rfl
   have e0 : (rd_L4 m 0).length = us.length := by
    show (m.getD 0 []).length = _
    rw [List.getD_eq_getElem?_getD, List.getElem?_eq_getElem hp]
    exact (h1 _ (List.getElem_mem hp)).1
   have t : ((rd_L4 m (i : Int)).length : Int) = ((rd_L4 m 0).length : Int) := by rw [e1, hrow.1, e0]
   refine ev_step (fun k => spec_MatrixOk.l0.eq_2 _ _ k) (ev_pos (by omega) (ev_pos (by omega) (ev_pos (by omega) (ev_pos t ?_))))
   rw [e1, hrow.1]
   refine ev_call (show spec_l01In.f (us.length : Int) 1 8 = some true by rw [l01In_eq, decide_eq_true (by omega), decide_eq_true (by omega)]; rfl) ?_
   refine ev_step (fun k => spec_MatrixOk.j1.eq_2 _ _ _ k) (ev_neg (by decide) ?_)
   exact spec_MatrixOk_l1 m i m[i] true him rfl (by rw [hrow.1]; exact h2) (fun a ha => ⟨(hrow.2 a ha).1, by have := (hrow.2 a ha).2; omega⟩) (by rw [e]; exact h) m[i].length 0 (by omega)
 exact main m.length 0 (by omega)
theorem spec_ApplyM_l1 (us : List ByteArray) (out : List ByteArray) (m : List (List Int)) (i : Nat) (him : i < m.length) (v : List ByteArray) (hout : out.length ≤ 8) (n : Nat) (row : List Int) (hrow : m[i] = row) (hl : row.length = n) (hl2 : us.length = n) (hn : n ≤ 8) (hr : ∀ a ∈ row, 0 ≤ a ∧ a < 256) (hu : ∀ u ∈ us, u.size ≤ 1048576)
  (hE : Ev (fun k => spec_ApplyM.l0 k m us (out ++ [rowT row us ⟨#[]⟩]) (wrap64 ((i : Int) + 1))) v) : ∀ (d j : Nat) (acc : ByteArray), j + d = n → acc.size ≤ 1048576 → rowT (row.drop j) (us.drop j) acc = rowT row us ⟨#[]⟩ →
  Ev (fun k => spec_ApplyM.l1 k m us out (i : Int) acc (j : Int)) v := by
 have e0 : rd_L4 m (i : Int) = row := by show m.getD i [] = _; rw [List.getD_eq_getElem?_getD, List.getElem?_eq_getElem him]; exact hrow
 intro d
 induction d with
 | zero =>
  intro j acc hj ha hacc
  rw [List.drop_eq_nil_of_le (by omega), rowT] at hacc
  ·refine ev_step (fun k => spec_ApplyM.l1.eq_2 _ _ _ _ _ _ k) (ev_neg (by omega) (ev_pos (by omega) ?_))
   rw [hacc]
   exact hE
  ·intro a r u us' h
   cases h
 | succ d ih =>
  intro j acc hj ha hacc
  have hjr : j < row.length := by omega
  have hju : j < us.length := by omega
  rw [List.drop_eq_getElem_cons hjr, List.drop_eq_getElem_cons hju, rowT] at hacc
  have hb := hr _ (List.getElem_mem hjr)
  have hs := hu _ (List.getElem_mem hju)
  have e : wrap64 ((j : Int) + 1) = ((j + 1 : Nat) : Int) := by rw [wrap_in (by omega) (by omega)]; omega
  have h := ih (j + 1) (addT acc (mulT row[j] us[j])) (by omega) (by rw [addT_size, mulT_size]; omega) hacc
  have e1 : rd row (j : Int) = row[j] := by show row.getD j 0 = _; rw [List.getD_eq_getElem?_getD, List.getElem?_eq_getElem hjr]; rfl
  have e2 : rdOf ByteArray.empty us (j : Int) = us[j] := by show us.getD j _ = _; rw [List.getD_eq_getElem?_getD, List.getElem?_eq_getElem hju]; rfl
  have t1 : (j : Int) < (us.length : Int) := Int.ofNat_lt.2 hju
  have t2 : (i : Int) < (m.length : Int) := Int.ofNat_lt.2 him
  have t3 : (j : Int) < ((rd_L4 m (i : Int)).length : Int) := by rw [e0]; exact Int.ofNat_lt.2 hjr
  refine ev_step (fun k => spec_ApplyM.l1.eq_2 _ _ _ _ _ _ k) (ev_pos t1 (ev_pos (Int.natCast_nonneg _) (ev_pos t2 (ev_pos (Int.natCast_nonneg _) (ev_pos t3 ?_)))))
  rw [e0, e1, e2, e]
  refine ev_bind (spec_MulText_ev _ _ hb.1 hb.2 hs) (ev_call (by unfold spec_AddText.f; rw [if_pos ⟨ha, by rw [mulT_size]; exact hs⟩]) ?_)
  exact h
theorem spec_ApplyM_l0 (m : List (List Int)) (us : List ByteArray) (hf : Fits m us) : ∀ (d i : Nat), i + d = m.length →
  Ev (fun k => spec_ApplyM.l0 k m us (applyT (m.take i) us) (i : Int)) (applyT m us) := by
 obtain ⟨h1, h2, h3, h4⟩ := hf
 intro d
 induction d with
 | zero =>
  intro i hi
  rw [List.take_of_length_le (by omega)]
  exact ev_step (fun k => spec_ApplyM.l0.eq_2 _ _ _ _ k) (ev_neg (by omega) (ev_some _))
 | succ d ih =>
  intro i hi
  have him : i < m.length := by omega
  have h := ih (i + 1) (by omega)
  have hrow := h1 _ (List.getElem_mem him)
  have e : wrap64 ((i : Int) + 1) = ((i + 1 : Nat) : Int) := by rw [wrap_in (by omega) (by omega)]; omega
  refine ev_step (fun k => spec_ApplyM.l0.eq_2 _ _ _ _ k) (ev_pos (by omega) ?_)
  refine spec_ApplyM_l1 us _ m i him _ (by unfold applyT; rw [List.length_map, List.length_take]; omega) us.length m[i] rfl hrow.1 rfl h2 hrow.2 h4 ?_ us.length 0 ⟨#[]⟩ (by omega) (by show 0 ≤ _; omega) rfl
  rw [e]
  have e3 : applyT (m.take i) us ++ [rowT m[i] us ⟨#[]⟩] = applyT (m.take (i + 1)) us := by
   unfold applyT
   rw [List.take_succ_eq_append_getElem him, List.map_append]
   rfl
  rw [e3]
  exact h
theorem spec_ApplyM_ev (m : List (List Int)) (us : List ByteArray) (hf : Fits m us) (hp : 0 < m.length) (hu : 0 < us.length) : Ev (fun k => spec_ApplyM.f k m us) (applyT m us) := by
 unfold spec_ApplyM.f
 refine ev_call rfl (ev_bind (spec_MatrixOk_ev m us hf hp hu) (ev_pos rfl (ev_pos (by omega) ?_)))
 have e : (((rd_L4 m 0).length : Int) != (us.length : Int)) = false := by
  have := fits_len hf hp
  have e1 : rd_L4 m 0 = m.getD 0 [] := rfl
  rw [e1, this]
  simp
 rw [e]
 have h := spec_ApplyM_l0 m us hf m.length 0 (by omega)
 exact ev_step (fun k => spec_ApplyM.j0.eq_2 _ _ _ _ k) (ev_neg (by decide) h)
def cutGo (s : Int) (t : ByteArray) : Nat → List ByteArray
 | 0 => List.replicate (mOf s) ⟨#[]⟩
 | n + 1 => (cutGo s t n).set (placeT s n).2.1.toNat ((cutGo s t n).getD (placeT s n).2.1.toNat ByteArray.empty ++ t.extract n (n + 1))
theorem cutGo_len (s : Int) (t : ByteArray) : ∀ n, (cutGo s t n).length = mOf s
 | 0 => by simp [cutGo]
 | n + 1 => by simp [cutGo, cutGo_len s t n]
theorem cutGo_small (s : Int) (t : ByteArray) : ∀ n, ∀ u ∈ cutGo s t n, u.size ≤ n
 | 0, u, hu => by
  rw [cutGo] at hu
  rw [List.eq_of_mem_replicate hu]
  exact Nat.le_refl _
 | n + 1, u, hu => by
  rw [cutGo] at hu
  rcases List.mem_or_eq_of_mem_set hu with h | rfl
  ·have := cutGo_small s t n u h
   omega
  ·rw [ByteArray.size_append, ByteArray.size_extract]
   have : ((cutGo s t n).getD (placeT s n).2.1.toNat ByteArray.empty).size ≤ n := by
    rw [List.getD_eq_getElem?_getD]
    by_cases c : (placeT s n).2.1.toNat < (cutGo s t n).length
    ·rw [List.getElem?_eq_getElem c]
     exact cutGo_small s t n _ (List.getElem_mem c)
    ·rw [List.getElem?_eq_none (by omega)]
     exact Nat.zero_le _
   omega
def cutT (s : Int) (t : ByteArray) : List ByteArray × Bool := if (s = 1 ∨ s = 2 ∨ s = 3) ∧ t.size ≤ 8 * mOf s then (cutGo s t t.size, true) else ([], false)
theorem spec_Cut_loop {s : Int} (h : s = 1 ∨ s = 2 ∨ s = 3) (t : ByteArray) (ht : t.size ≤ 8 * mOf s) : ∀ (d i : Nat), i + d = t.size →
  Ev (fun k => spec_CutUnits.l0 k s t (cutGo s t i) (i : Int)) (cutGo s t t.size, true) := by
 have hm := mOf_le s
 intro d
 induction d with
 | zero =>
  intro i hi
  obtain rfl : i = t.size := by omega
  exact ev_step (fun k => spec_CutUnits.l0.eq_2 _ _ _ _ k) (ev_neg (by omega) (ev_some _))
 | succ d ih =>
  intro i hi
  obtain ⟨h1, _, h2, h3, h4⟩ := place_of h (show i < 32 by omega)
  have e : wrap64 ((i : Int) + 1) = ((i + 1 : Nat) : Int) := by rw [wrap_in (by omega) (by omega)]; omega
  have hl := cutGo_len s t i
  have hsz : ((cutGo s t i).getD (placeT s i).2.1.toNat ByteArray.empty).size ≤ 32 := by
   have h5 : (placeT s i).2.1.toNat < (cutGo s t i).length := by omega
   rw [List.getD_eq_getElem?_getD, List.getElem?_eq_getElem h5]
   have := cutGo_small s t i _ (List.getElem_mem h5)
   simp only [Option.getD_some]
   omega
  refine ev_step (fun k => spec_CutUnits.l0.eq_2 _ _ _ _ k) (ev_pos (by omega) (ev_call h1 (ev_pos h2 (ev_pos (by omega) (ev_pos (by omega) (ev_pos (by rw [e]; omega) (ev_pos (by rw [e]; omega) (ev_pos ?_ ?_))))))))
  ·rw [e]
   have h6 : (rdOf ByteArray.empty (cutGo s t i) (placeT s i).2.1).size ≤ 32 := hsz
   rw [ByteArray.size_extract]
   have : ((i + 1 : Nat) : Int).toNat = i + 1 := rfl
   have : ((i : Nat) : Int).toNat = i := rfl
   omega
  ·rw [e]
   exact ih (i + 1) (by omega)
theorem spec_CutUnits_ev (s : Int) (t : ByteArray) : Ev (fun k => spec_CutUnits.f k s t) (cutT s t) := by
 unfold spec_CutUnits.f
 by_cases h : s = 1 ∨ s = 2 ∨ s = 3
 ·obtain ⟨q, h1, h2⟩ := schema_m h
  have hm := mOf_le s
  refine ev_call h2 (ev_pos rfl (ev_call (groupSize h).2 ?_))
  by_cases ht : t.size ≤ 8 * mOf s
  ·rw [decide_eq_false (by omega : ¬ (t.size : Int) > ((8 * mOf s : Nat) : Int))]
   refine ev_step (fun k => spec_CutUnits.j0.eq_2 _ _ _ _ k) (ev_neg (by decide) (ev_pos (by simp only; omega) (ev_pos (by simp only; omega) ?_)))
   rw [cutT, if_pos ⟨h, ht⟩]
   exact spec_Cut_loop h t ht t.size 0 (by omega)
  ·rw [decide_eq_true (by omega : (t.size : Int) > ((8 * mOf s : Nat) : Int))]
   rw [cutT, if_neg (fun x => ht x.2)]
   exact ev_step (fun k => spec_CutUnits.j0.eq_2 _ _ _ _ k) (ev_pos rfl (ev_some _))
 ·rw [cutT, if_neg (fun x => h x.1)]
  exact ev_call (schema_no h).2 (ev_neg (by decide) (ev_step (fun k => spec_CutUnits.j0.eq_2 _ _ _ _ k) (ev_pos rfl (ev_some _))))
def most : List ByteArray → Nat
 | [] => 0
 | u :: s => max u.size (most s)
def zeros (n : Nat) : ByteArray := strOfNums (List.replicate n 0)
def padT (n : Nat) (u : ByteArray) : ByteArray := addT u (zeros n)
def encT (s : Int) (us : List ByteArray) : List ByteArray × Bool := if (s = 1 ∨ s = 2 ∨ s = 3) ∧ us.length = mOf s ∧ most us ≤ 200 then (applyT (code s) (us.map (padT (most us))), true) else ([], false)
theorem most_app (us : List ByteArray) (u : ByteArray) : most (us ++ [u]) = max (most us) u.size := by
 induction us with
 | nil => simp [most]
 | cons x s ih => simp only [List.cons_append, most, ih]; omega
theorem most_le (us : List ByteArray) : ∀ u ∈ us, u.size ≤ most us := by
 induction us with
 | nil => intro u hu; cases hu
 | cons x s ih =>
  intro u hu
  rw [most]
  rcases List.mem_cons.mp hu with rfl | h
  ·omega
  ·have := ih u h
   omega
theorem zeros_size (n : Nat) : (zeros n).size = n := by unfold zeros; rw [strOfNums_size]; simp
theorem padT_size (n : Nat) (u : ByteArray) : (padT n u).size = max u.size n := by unfold padT; rw [addT_size, zeros_size]
theorem code_rows {s : Int} (h : s = 1 ∨ s = 2 ∨ s = 3) : ((code s).all fun row => decide (row.length = mOf s) && row.all fun a => decide (0 ≤ a ∧ a < 256)) = true ∧ (code s).length = nOf s ∧ 0 < nOf s ∧ nOf s ≤ 6 ∧ 0 < mOf s ∧ mOf s ≤ nOf s := by
 rcases h with rfl | rfl | rfl <;> decide
theorem enc_fits {s : Int} (h : s = 1 ∨ s = 2 ∨ s = 3) (us : List ByteArray) (hu : us.length = mOf s) (hz : ∀ u ∈ us, u.size ≤ 1048576) : Fits (code s) us := by
 obtain ⟨h1, h2, h3, h4, h5, h6⟩ := code_rows h
 rw [List.all_eq_true] at h1
 refine ⟨fun row hr => ?_, by omega, by omega, hz⟩
 have := h1 row hr
 rw [Bool.and_eq_true, decide_eq_true_eq, List.all_eq_true] at this
 exact ⟨by omega, fun a ha => by simpa using this.2 a ha⟩
theorem spec_Enc_l1 {s : Int} (h : s = 1 ∨ s = 2 ∨ s = 3) (us : List ByteArray) (hu : us.length = mOf s) (n : Nat) (hn : n ≤ 200) (hz : ∀ u ∈ us, u.size ≤ n) (t : List ByteArray) : ∀ (p : List ByteArray), p ++ t = us →
  Ev (fun k => spec_Encode.l1 k s us (mOf s : Int) (n : Int) (p.map (padT n)) (p.length : Int)) (applyT (code s) (us.map (padT n)), true) := by
 have hm := mOf_le s
 induction t with
 | nil =>
  intro p hp
  rw [List.append_nil] at hp
  subst hp
  refine ev_step (fun k => spec_Encode.l1.eq_2 _ _ _ _ _ _ k) (ev_neg (by omega) (ev_bind (spec_CodeOf_ev h) (ev_bind (spec_ApplyM_ev _ _ (enc_fits h _ (by simp [hu]) ?_) ?_ ?_) (ev_some _))))
  ·intro u hm2
   obtain ⟨v, hv, rfl⟩ := List.mem_map.mp hm2
   rw [padT_size]
   have := hz v hv
   omega
  ·have := (code_rows h).2.1
   have := (code_rows h).2.2.1
   omega
  ·have := (code_rows h).2.2.2.2.1
   rw [List.length_map]
   exact hu ▸ this
 | cons u t ih =>
  intro p hp
  have hlp : p.length < us.length := by rw [← hp]; simp
  have hx : rdOf ByteArray.empty us (p.length : Int) = u := by rw [← hp]; unfold rdOf; exact getD_mid' p t u _ _ rfl
  have hum : u ∈ us := by rw [← hp]; simp
  have e : wrap64 ((p.length : Int) + 1) = ((p ++ [u]).length : Int) := by rw [wrap_in (by omega) (by omega), List.length_append]; rfl
  have hih := ih (p ++ [u]) (by rw [List.append_assoc]; exact hp)
  rw [List.map_append] at hih
  refine ev_step (fun k => spec_Encode.l1.eq_2 _ _ _ _ _ _ k) (ev_pos (by omega) (ev_pos (by omega) (ev_pos (by omega) (ev_pos (by omega) (ev_pos (by omega) ?_)))))
  rw [hx, e]
  have hadd : spec_AddText.f u (strOfNums (List.replicate ((n : Nat) : Int).toNat 0)) = some (padT n u) := by
   unfold spec_AddText.f
   exact if_pos ⟨by have := hz u hum; omega, by have := zeros_size n; show (zeros n).size ≤ _; omega⟩
  exact ev_call hadd (ev_pos (by simp; omega) hih)
theorem spec_Enc_l0 {s : Int} (h : s = 1 ∨ s = 2 ∨ s = 3) (us : List ByteArray) (hu : us.length = mOf s) (t : List ByteArray) : ∀ (p : List ByteArray), p ++ t = us → most p ≤ 200 →
  Ev (fun k => spec_Encode.l0 k s us (mOf s : Int) (most p : Int) (p.length : Int)) (if most us ≤ 200 then (applyT (code s) (us.map (padT (most us))), true) else ([], false)) := by
 have hm := mOf_le s
 induction t with
 | nil =>
  intro p hp h2
  rw [List.append_nil] at hp
  subst hp
  rw [if_pos h2]
  refine ev_step (fun k => spec_Encode.l0.eq_2 _ _ _ _ _ k) (ev_neg (by omega) ?_)
  exact spec_Enc_l1 h p hu (most p) h2 (most_le p) p [] rfl
 | cons u t ih =>
  intro p hp h2
  have hlp : p.length < us.length := by rw [← hp]; simp
  have hx : rdOf ByteArray.empty us (p.length : Int) = u := by rw [← hp]; unfold rdOf; exact getD_mid' p t u _ _ rfl
  have e : wrap64 ((p.length : Int) + 1) = ((p ++ [u]).length : Int) := by rw [wrap_in (by omega) (by omega), List.length_append]; rfl
  refine ev_step (fun k => spec_Encode.l0.eq_2 _ _ _ _ _ k) (ev_pos (by omega) (ev_pos (by omega) (ev_pos (by omega) ?_)))
  rw [hx, e]
  by_cases c : u.size ≤ 200
  ·have h3 := most_app p u
   have hih := ih (p ++ [u]) (by rw [List.append_assoc]; exact hp) (by omega)
   refine ev_neg (by omega) ?_
   by_cases c2 : (u.size : Int) > (most p : Int)
   ·refine ev_pos c2 ?_
    rw [show (most (p ++ [u]) : Int) = (u.size : Int) by omega] at hih
    exact hih
   ·refine ev_neg c2 ?_
    rw [show (most (p ++ [u]) : Int) = (most p : Int) by omega] at hih
    exact hih
  ·refine ev_pos (by omega) (ev_eq (ev_some _) ?_)
   have hum : u ∈ us := by rw [← hp]; simp
   have := most_le us u hum
   rw [if_neg (by omega)]
theorem spec_Encode_ev (s : Int) (us : List ByteArray) : Ev (fun k => spec_Encode.f k s us) (encT s us) := by
 unfold spec_Encode.f
 by_cases h : s = 1 ∨ s = 2 ∨ s = 3
 ·obtain ⟨q, h1, h2⟩ := schema_m h
  refine ev_call h2 (ev_pos rfl ?_)
  by_cases hu : us.length = mOf s
  ·rw [show ((us.length : Int) != (mOf s : Int)) = false by simp [hu]]
   refine ev_step (fun k => spec_Encode.j0.eq_2 _ _ _ _ k) (ev_neg (by decide) (ev_eq (spec_Enc_l0 h us hu us [] rfl (Nat.zero_le _)) ?_))
   unfold encT
   by_cases c : most us ≤ 200
   ·rw [if_pos c, if_pos ⟨h, hu, c⟩]
   ·rw [if_neg c, if_neg (fun x => c x.2.2)]
  ·rw [show ((us.length : Int) != (mOf s : Int)) = true by simp; omega]
   rw [encT, if_neg (fun x => hu x.2.1)]
   exact ev_step (fun k => spec_Encode.j0.eq_2 _ _ _ _ k) (ev_pos rfl (ev_some _))
 ·rw [encT, if_neg (fun x => h x.1)]
  exact ev_call (schema_no h).2 (ev_neg (by decide) (ev_step (fun k => spec_Encode.j0.eq_2 _ _ _ _ k) (ev_pos rfl (ev_some _))))
end Go.Proofs.Ytaejgompckpmfaa.Pu
namespace Go.Proofs.Ytaejgompckpmfaa.Pr
open Go.RowKit Go.Proofs.YtaejgompckpmfaaW.PrintWords Go.Proofs.YtaejgompckpmfaaW.PrintLast Go.Proofs.YtaejgompckpmfaaW.PrintMore
attribute [local go_sem] max2_int min2_int max_two min_two max_three min_three max_four min_four
end Go.Proofs.Ytaejgompckpmfaa.Pr
namespace Go.Proofs.Ytaejgompckpmfaa.Pr
open Go.RowKit Go.Proofs.YtaejgompckpmfaaW.PrintWords Go.Proofs.YtaejgompckpmfaaW.PrintLast Go.Proofs.YtaejgompckpmfaaW.PrintMore
open Go.Shelf Go.Lib Go.Sort
structure Gr (W w' : World) : Prop where mk :: (out : ∃ q os', w' = grow (W.drewN q) os')
theorem Gr.refl (W : World) : Gr W W := ⟨0, #[], by simp [World.drewN_zero]⟩
theorem grow_drewN (W : World) (os : Array Obj) (q : Nat) : (Go.Sort.grow W os).drewN q = Go.Sort.grow (W.drewN q) os := rfl
theorem drewN_add (W : World) (q r : Nat) : (W.drewN q).drewN r = W.drewN (q + r) := by simp [World.drewN, Nat.add_assoc]
theorem Gr.drewN {W w : World} (h : Gr W w) (r : Nat) : Gr W (w.drewN r) := by
 obtain ⟨q, os, rfl⟩ := h.out
 exact ⟨q + r, os, by rw [grow_drewN, drewN_add]⟩
theorem Gr.drew {W w : World} (h : Gr W w) : Gr W w.drew := h.drewN 1
theorem Gr.grow {W w : World} (h : Gr W w) (os' : Array Obj) : Gr W (grow w os') := by
 obtain ⟨q, os, rfl⟩ := h.out
 exact ⟨q, os ++ os', by rw [grow_grow]⟩
theorem Gr.alloc {W w : World} (h : Gr W w) (o : Obj) : Gr W (w.alloc o) := by rw [alloc_eq_grow]; exact h.grow _
theorem grow_cell {w : World} {a : Addr} {v : Value} (h : w.cell? a = some v) (os : Array Obj) : (Go.Sort.grow w os).cell? a = some v := (cell?_grow w os a (World.block_lt_of_cell? w a h)).trans h
theorem Gr.cell {W w : World} (h : Gr W w) {a : Addr} {v : Value} (k : W.cell? a = some v) : w.cell? a = some v := by
 obtain ⟨q, os, rfl⟩ := h.out
 have k1 : (W.drewN q).cell? a = some v := k
 exact grow_cell k1 os
end Go.Proofs.Ytaejgompckpmfaa.Pr
namespace Go.Proofs.Ytaejgompckpmfaa.Pu
open Go.Sort
variable {α : Type} [Inhabited α]
end Go.Proofs.Ytaejgompckpmfaa.Pu
namespace Go.Proofs.Ytaejgompckpmfaa.Pr
open Go.RowKit Go.Proofs.YtaejgompckpmfaaW.PrintWords Go.Proofs.YtaejgompckpmfaaW.PrintLast Go.Proofs.YtaejgompckpmfaaW.PrintMore
open Go.Shelf Go.Lib Go.Sort Go.Proofs.Ytaejgompckpmfaa.Pu
end Go.Proofs.Ytaejgompckpmfaa.Pr
namespace Go.Proofs.Ytaejgompckpmfaa.Pu
open Go.Sort
variable {α : Type} [Inhabited α] {lt : α → α → Bool}
omit [Inhabited α] in
theorem le_lt (hO : SWO lt) {x y z : α} (h : lt y x = false) (k : lt y z = true) : lt x z = true := by
 cases c : lt x z with
 | true => rfl
 | false =>
  have := hO.ntrans y x z h c
  rw [k] at this
  cases this
omit [Inhabited α] in
theorem lt_le (hO : SWO lt) {x y z : α} (h : lt x y = true) (k : lt z y = false) : lt x z = true := by
 cases c : lt x z with
 | true => rfl
 | false =>
  have := hO.ntrans x z y c k
  rw [h] at this
  cases this
structure Cut (lt : α → α → Bool) (a m b mid lo hi st en : Nat) (d : Array α) : Prop where
 ham : a < m
 hmb : m < b
 hmid : mid = (a + b) / 2
 hlh : (mid < m ∧ lo = mid + m - b ∧ hi = mid) ∨ (m ≤ mid ∧ lo = a ∧ hi = m)
 h1 : lo ≤ st
 h2 : st ≤ hi
 hen : en = mid + m - st
 low : ∀ c, lo ≤ c → c < st → lt d[mid + m - 1 - c]! d[c]! = false
 high : ∀ c, st ≤ c → c < hi → lt d[mid + m - 1 - c]! d[c]! = true
theorem Cut.mono (hO : SWO lt) {a m b mid lo hi : Nat} {d : Array α} (ham : a < m) (hmb : m < b) (hmid : mid = (a + b) / 2) (hlh : (mid < m ∧ lo = mid + m - b ∧ hi = mid) ∨ (m ≤ mid ∧ lo = a ∧ hi = m))
  (s1 : SortedIn lt a m d) (s2 : SortedIn lt m b d) (c c' : Nat) (h1 : lo ≤ c) (h2 : c ≤ c') (h3 : c' < hi) (h : lt d[mid + m - 1 - c]! d[c]! = true) : lt d[mid + m - 1 - c']! d[c']! = true := by
 rcases Nat.lt_or_eq_of_le h2 with h2 | rfl
 ·have e1 : lt d[mid + m - 1 - c]! d[mid + m - 1 - c']! = false := s2 _ _ (by omega) (by omega) (by omega)
  have e2 : lt d[c']! d[c]! = false := s1 _ _ (by omega) h2 (by omega)
  exact lt_le hO (le_lt hO e1 h) e2
 ·exact h
end Go.Proofs.Ytaejgompckpmfaa.Pu
namespace Go.Proofs.Ytaejgompckpmfaa.Pr
open Go.RowKit Go.Proofs.YtaejgompckpmfaaW.PrintWords Go.Proofs.YtaejgompckpmfaaW.PrintLast Go.Proofs.YtaejgompckpmfaaW.PrintMore
open Go.Shelf Go.Lib Go.Sort Go.Proofs.Ytaejgompckpmfaa.Pu
end Go.Proofs.Ytaejgompckpmfaa.Pr
namespace Go.Proofs.Ytaejgompckpmfaa.Pu
open Go.Sort
variable {α : Type} [Inhabited α] {lt : α → α → Bool}
inductive Blk (lt : α → α → Bool) (bs n : Nat) (d : Array α) : Nat → Prop
 | last (a : Nat) : a ≤ n → n ≤ a + bs → SortedIn lt a n d → Blk lt bs n d a
 | step (a : Nat) : a + bs ≤ n → SortedIn lt a (a + bs) d → Blk lt bs n d (a + bs) → Blk lt bs n d a
inductive Fwd (lt : α → α → Bool) (bs : Nat) (d : Array α) : Nat → Prop
 | zero : Fwd lt bs d 0
 | step (a : Nat) : Fwd lt bs d a → SortedIn lt a (a + bs) d → Fwd lt bs d (a + bs)
theorem Fwd.blk {bs n a : Nat} {d : Array α} (h : Fwd lt bs d a) (t : Blk lt bs n d a) (hn : a ≤ n) : Blk lt bs n d 0 := by
 induction h with
 | zero => exact t
 | step a h s ih => exact ih (.step a hn s t) (by omega)
theorem Blk.none {bs n a : Nat} {d : Array α} (h : Blk lt bs n d a) (hm : ¬ a + bs < n) : SortedIn lt a n d := by
 cases h with
 | last _ h1 h2 s => exact s
 | step _ h s t =>
  obtain rfl : n = a + bs := by omega
  exact s
end Go.Proofs.Ytaejgompckpmfaa.Pu
namespace Go.Proofs.Ytaejgompckpmfaa.Pr
open Go.RowKit Go.Proofs.YtaejgompckpmfaaW.PrintWords Go.Proofs.YtaejgompckpmfaaW.PrintLast Go.Proofs.YtaejgompckpmfaaW.PrintMore
open Go.Shelf Go.Lib Go.Sort Go.Proofs.Ytaejgompckpmfaa.Pu
end Go.Proofs.Ytaejgompckpmfaa.Pr
namespace Go.Proofs.Ytaejgompckpmfaa.Pr
open Go.RowKit Go.Proofs.YtaejgompckpmfaaW.PrintWords Go.Proofs.YtaejgompckpmfaaW.PrintLast Go.Proofs.YtaejgompckpmfaaW.PrintMore
open Go.Shelf Go.Lib Go.Sort
def upsTo (l0 : List S35) (i : Nat) : List Nat := (List.range i).filter fun k => (l0.getD k z35).f1
theorem upsTo_yes (l0 : List S35) (i : Nat) (h : (l0.getD i z35).f1 = true) : upsTo l0 (i + 1) = upsTo l0 i ++ [i] := by
 unfold upsTo
 rw [List.range_succ, List.filter_append, List.filter_cons_of_pos (by exact h)]
 rfl
theorem upsTo_no (l0 : List S35) (i : Nat) (h : (l0.getD i z35).f1 = false) : upsTo l0 (i + 1) = upsTo l0 i := by
 unfold upsTo
 rw [List.range_succ, List.filter_append, List.filter_cons_of_neg (by show ¬ _ = true; rw [h]; decide)]
 exact List.append_nil _
theorem upsTo_len (l0 : List S35) (i : Nat) : (upsTo l0 i).length ≤ i := by
 have := List.length_filter_le (fun k => (l0.getD k z35).f1) (List.range i)
 rwa [List.length_range] at this
theorem upsTo_lt (l0 : List S35) (i : Nat) : ∀ k ∈ upsTo l0 i, k < i := fun k hk => List.mem_range.1 (List.mem_filter.1 hk).1
def hostLt (x y : S35) : Bool := decide (x.f2.length < y.f2.length ∨ (x.f2.length = y.f2.length ∧ x.f0 < y.f0))
def ltK (l0 : List S35) (a b : Nat) : Bool := hostLt (l0.getD a z35) (l0.getD b z35)
structure IsRank (l0 : List S35) (us : List Nat) : Prop where
 perm : us.Perm (upsTo l0 l0.length)
 sorted : us.Pairwise fun a b => ltK l0 b a = false
end Go.Proofs.Ytaejgompckpmfaa.Pr
namespace Go.Proofs.Ytaejgompckpmfaa.Pr
open Go.RowKit Go.Proofs.YtaejgompckpmfaaW.PrintWords Go.Proofs.YtaejgompckpmfaaW.PrintLast Go.Proofs.YtaejgompckpmfaaW.PrintMore
theorem sorted_unique {α : Type} (R : α → α → Prop) (anti : ∀ a b, R a b → R b a → a = b) : ∀ (us ts : List α), us.Perm ts → us.Pairwise R → ts.Pairwise R → us = ts
 | [], ts, h, _, _ => by rw [List.nil_perm.1 h]
 | a :: s, [], h, _, _ => absurd h.length_eq (by simp)
 | a :: s, b :: t, h, h1, h2 => by
  have ha : a ∈ b :: t := h.mem_iff.1 (List.mem_cons_self ..)
  have hb : b ∈ a :: s := h.mem_iff.2 (List.mem_cons_self ..)
  have e : a = b := by
   rcases List.mem_cons.1 ha with e | ha
   ·exact e
   ·rcases List.mem_cons.1 hb with e | hb
    ·exact e.symm
    ·exact anti a b ((List.pairwise_cons.1 h1).1 b hb) ((List.pairwise_cons.1 h2).1 a ha)
  subst e
  rw [sorted_unique R anti s t (List.perm_cons _ |>.1 h) (List.pairwise_cons.1 h1).2 (List.pairwise_cons.1 h2).2]
def keyOf (l0 : List S35) (k : Nat) : Nat × Int := ((l0.getD k z35).f2.length, (l0.getD k z35).f0)
def idOf (l0 : List S35) (k : Nat) : Int := (l0.getD k z35).f0
def keyLt (p q : Nat × Int) : Bool := decide (p.1 < q.1 ∨ (p.1 = q.1 ∧ p.2 < q.2))
theorem ltK_key (l0 : List S35) (a b : Nat) : ltK l0 a b = keyLt (keyOf l0 a) (keyOf l0 b) := rfl
theorem keyLt_false (p q : Nat × Int) : keyLt p q = false ↔ ¬ (p.1 < q.1 ∨ (p.1 = q.1 ∧ p.2 < q.2)) := by
 unfold keyLt
 exact decide_eq_false_iff_not
theorem rank_ids {l0 : List S35} {us ts : List Nat} (h1 : IsRank l0 us) (h2 : IsRank l0 ts) : us.map (idOf l0) = ts.map (idOf l0) := by
 have e : us.map (keyOf l0) = ts.map (keyOf l0) := by
  refine sorted_unique (fun p q => keyLt q p = false) (fun p q h k => ?_) _ _ ((h1.perm.trans h2.perm.symm).map _) ?_ ?_
  ·rw [keyLt_false] at h k
   exact Prod.ext (by omega) (by omega)
  ·rw [List.pairwise_map]
   exact h1.sorted
  ·rw [List.pairwise_map]
   exact h2.sorted
 have e2 := congrArg (List.map Prod.snd) e
 rw [List.map_map, List.map_map] at e2
 exact e2
def sortK (l0 : List S35) : List Nat := (upsTo l0 l0.length).mergeSort (fun a b => !ltK l0 b a)
theorem sortK_rank (l0 : List S35) : IsRank l0 (sortK l0) := by
 refine ⟨List.mergeSort_perm _ _, ?_⟩
 refine (List.pairwise_mergeSort (le := fun a b => !ltK l0 b a) (fun a b c h k => ?_) (fun a b => ?_) (upsTo l0 l0.length)).imp (fun {a b} h => by simpa using h)
 ·simp only [Bool.not_eq_true', ltK_key, keyLt_false] at h k ⊢
  omega
 ·simp only [Bool.or_eq_true, Bool.not_eq_true', ltK_key, keyLt_false]
  omega
def idsR (l0 : List S35) : List Int := (sortK l0).map (idOf l0)
theorem rank_idsR {l0 : List S35} {us : List Nat} (h : IsRank l0 us) : us.map (idOf l0) = idsR l0 := rank_ids h (sortK_rank l0)
theorem idsR_len (l0 : List S35) : (idsR l0).length = (upsTo l0 l0.length).length := by
 unfold idsR
 rw [List.length_map, (sortK_rank l0).perm.length_eq]
theorem IsRank.len {l0 : List S35} {us : List Nat} (h : IsRank l0 us) : us.length = (idsR l0).length := by rw [idsR_len, h.perm.length_eq]
theorem IsRank.lt {l0 : List S35} {us : List Nat} (h : IsRank l0 us) : ∀ k ∈ us, k < l0.length := fun k hk => upsTo_lt l0 _ k (h.perm.mem_iff.1 hk)
def placeH (l0 : List S35) (n : Int) : List Int × Bool := if n < 0 ∨ n > ((idsR l0).length : Int) then ([], false) else ((idsR l0).take n.toNat, true)
end Go.Proofs.Ytaejgompckpmfaa.Pr
namespace Go.Proofs.Ytaejgompckpmfaa.Pr
open Go.RowKit Go.Proofs.YtaejgompckpmfaaW.PrintWords Go.Proofs.YtaejgompckpmfaaW.PrintLast Go.Proofs.YtaejgompckpmfaaW.PrintMore
open Go.Shelf Go.Lib Go.Sort
theorem placeH_no {l0 : List (S35)} {a1 : Int} (h : a1 < 0 ∨ a1 > ((idsR l0).length : Int)) : placeH l0 a1 = ([], false) := if_pos h
theorem placeH_yes {l0 : List (S35)} {n : Nat} (h : n ≤ (idsR l0).length) : placeH l0 (n : Int) = ((idsR l0).take n, true) := by
 unfold placeH
 rw [if_neg (by omega), Int.toNat_natCast]
theorem rd_us (us : List Nat) (i : Nat) (h : i < us.length) : rd (us.map Int.ofNat) (i : Int) = ((us[i] : Nat) : Int) := by
 show (us.map Int.ofNat).getD i 0 = _
 rw [List.getD_eq_getElem?_getD, List.getElem?_map, List.getElem?_eq_getElem h]
 rfl
end Go.Proofs.Ytaejgompckpmfaa.Pr
namespace Go.Proofs.Ytaejgompckpmfaa.Pu
open Go.RowKit Go.Proofs.YtaejgompckpmfaaW.PrintWords Go.Proofs.Ytaejgompckpmfaa.Pr Go.Proofs.Ytaejgompckpmfaa.Evs
structure Ins (lt : Nat → Nat → Bool) (k i : Nat) (g : Nat → Nat) : Prop where
 all : ∀ p q, p < q → q ≤ i → p ≠ k → q ≠ k → lt (g q) (g p) = false
 beh : ∀ q, k < q → q ≤ i → lt (g q) (g k) = false
theorem Ins.start {lt : Nat → Nat → Bool} {i : Nat} {g : Nat → Nat} (h : ∀ p q, p < q → q < i → lt (g q) (g p) = false) : Ins lt i i g := ⟨fun p q h1 h2 _ h4 => h p q h1 (by omega), fun q h1 h2 => absurd h1 (by omega)⟩
theorem Ins.stop {lt : Nat → Nat → Bool} {i : Nat} {g : Nat → Nat} (h : Ins lt 0 i g) : ∀ p q, p < q → q < i + 1 → lt (g q) (g p) = false := fun p q h1 h2 => by
 by_cases hp : p = 0
 ·subst hp
  exact h.beh q h1 (by omega)
 ·exact h.all p q h1 (by omega) hp (by omega)
theorem Ins.stay {lt : Nat → Nat → Bool} (ht : ∀ x y z, lt x y = false → lt y z = false → lt x z = false) {k i : Nat} {g : Nat → Nat} (h : Ins lt (k + 1) i g) (hk : k + 1 ≤ i) (c : lt (g (k + 1)) (g k) = false) : Ins lt k i g := by
 refine ⟨fun p q h1 h2 h3 h4 => ?_, fun q h1 h2 => ?_⟩
 ·by_cases hq : q = k + 1
  ·subst hq
   exact ht _ _ _ c (h.all p k (by omega) (by omega) (by omega) (by omega))
  ·by_cases hp : p = k + 1
   ·subst hp
    exact h.beh q h1 h2
   ·exact h.all p q h1 h2 hp hq
 ·by_cases hq : q = k + 1
  ·subst hq
   exact c
  ·exact h.all k q h1 h2 (by omega) hq
theorem Ins.swap {lt : Nat → Nat → Bool} (ha : ∀ x y, lt x y = true → lt y x = false) {k i : Nat} {g g' : Nat → Nat} (h : Ins lt (k + 1) i g) (hk : k + 1 ≤ i) (c : lt (g (k + 1)) (g k) = true) (e1 : g' k = g (k + 1)) (e2 : g' (k + 1) = g k) (e3 : ∀ j, j ≠ k → j ≠ k + 1 → g' j = g j) : Ins lt k i g' := by
 refine ⟨fun p q h1 h2 h3 h4 => ?_, fun q h1 h2 => ?_⟩
 ·by_cases hq : q = k + 1
  ·subst hq
   rw [e2, e3 p h3 (by omega)]
   exact h.all p k (by omega) (by omega) (by omega) (by omega)
  ·by_cases hp : p = k + 1
   ·subst hp
    rw [e2, e3 q h4 hq]
    exact h.all k q (by omega) h2 (by omega) hq
   ·rw [e3 p h3 hp, e3 q h4 hq]
    exact h.all p q h1 h2 hp hq
 ·rw [e1]
  by_cases hq : q = k + 1
  ·subst hq
   rw [e2]
   exact ha _ _ c
  ·rw [e3 q (by omega) hq]
   exact h.beh q (by omega) h2
theorem ltK_n (l : List S35) (x y z : Nat) (h : ltK l x y = false) (k : ltK l y z = false) : ltK l x z = false := by
 rw [ltK_key, keyLt_false] at h k ⊢
 omega
theorem ltK_a (l : List S35) (x y : Nat) (h : ltK l x y = true) : ltK l y x = false := by
 have h := of_decide_eq_true h
 exact decide_eq_false (by omega)
theorem gd (us : List Nat) (j : Nat) (h : j < us.length) : us.getD j 0 = us[j] := by rw [List.getD_eq_getElem?_getD, List.getElem?_eq_getElem h]; rfl
theorem rd_gd (us : List Nat) (j : Nat) (h : j < us.length) : rd (us.map Int.ofNat) (j : Int) = ((us.getD j 0 : Nat) : Int) := by rw [rd_us us j h, gd us j h]
theorem host_gd (l : List S35) (k : Nat) : rd_T35 l (k : Int) = l.getD k z35 := rfl
theorem order_l2 (l : List S35) (hl : l.length < 1048577) (i : Nat) (v : List Int) (P : List Nat → Prop) : ∀ (k : Nat) (us : List Nat), us.Perm (upsTo l l.length) → k ≤ i → i < us.length → Ins (ltK l) k i (fun j => us.getD j 0) →
  (∀ ts : List Nat, ts.Perm (upsTo l l.length) → (∀ p q, p < q → q < i + 1 → ltK l (ts.getD q 0) (ts.getD p 0) = false) → ∃ r, P r ∧ Ev (fun n => spec_l15Order.l1 n l (ts.map Int.ofNat) ((i + 1 : Nat) : Int)) (r.map Int.ofNat)) →
  ∃ r, P r ∧ Ev (fun n => spec_l15Order.l2 n l (us.map Int.ofNat) (i : Int) (k : Int)) (r.map Int.ofNat) := by
 intro k
 induction k with
 | zero =>
  intro us hp hk hi hI hE
  have hul : us.length ≤ l.length := by rw [hp.length_eq]; exact upsTo_len l _
  obtain ⟨r, hr, h⟩ := hE us hp hI.stop
  have e : wrap64 ((i : Int) + 1) = ((i + 1 : Nat) : Int) := by rw [wrap_in (by omega) (by omega)]; omega
  exact ⟨r, hr, ev_step (fun n => spec_l15Order.l2.eq_2 _ _ _ _ n) (ev_neg (by omega) (by rw [e]; exact h))⟩
 | succ k ih =>
  intro us hp hk hi hI hE
  have hul : us.length ≤ l.length := by rw [hp.length_eq]; exact upsTo_len l _
  have hk1 : k < us.length := by omega
  have hk2 : k + 1 < us.length := by omega
  have e : wrap64 (((k + 1 : Nat) : Int) - 1) = (k : Int) := by rw [wrap_in (by omega) (by omega)]; omega
  have b1 : us.getD k 0 < l.length := by rw [gd us k hk1]; exact upsTo_lt l _ _ (hp.mem_iff.1 (List.getElem_mem hk1))
  have b2 : us.getD (k + 1) 0 < l.length := by rw [gd us (k + 1) hk2]; exact upsTo_lt l _ _ (hp.mem_iff.1 (List.getElem_mem hk2))
  by_cases c : ltK l (us.getD (k + 1) 0) (us.getD k 0) = true
  ·-- they change places
   obtain ⟨us', hus'⟩ : ∃ q, q = (us.set (k + 1) (us.getD k 0)).set k (us.getD (k + 1) 0) := ⟨_, rfl⟩
   have hp' : us'.Perm (upsTo l l.length) := by
    rw [hus', gd us k hk1, gd us (k + 1) hk2]
    exact (List.set_set_perm hk2 hk1).trans hp
   have hl' : us'.length = us.length := by rw [hus']; simp
   have g1 : us'.getD k 0 = us.getD (k + 1) 0 := by rw [hus']; simp [List.getD_eq_getElem?_getD, hk1]
   have g2 : us'.getD (k + 1) 0 = us.getD k 0 := by rw [hus']; simp [List.getD_eq_getElem?_getD, hk2]
   have g3 : ∀ j, j ≠ k → j ≠ k + 1 → us'.getD j 0 = us.getD j 0 := fun j h1 h2 => by
    rw [hus']
    simp [List.getD_eq_getElem?_getD, List.getElem?_set, Ne.symm h1, Ne.symm h2]
   obtain ⟨r, hr, h⟩ := ih us' hp' (by omega) (by omega) (hI.swap (ltK_a l) hk c g1 g2 g3) hE
   have e2 : us'.map Int.ofNat = ((us.map Int.ofNat).set (((k + 1 : Nat) : Int)).toNat (rd (us.map Int.ofNat) (k : Int))).set ((k : Int)).toNat (rd (us.map Int.ofNat) ((k + 1 : Nat) : Int)) := by
    rw [rd_gd us k hk1, rd_gd us (k + 1) hk2, Int.toNat_natCast, Int.toNat_natCast, hus', List.map_set, List.map_set]
    rfl
   rw [e2] at h
   refine ⟨r, hr, ev_step (fun n => spec_l15Order.l2.eq_2 _ _ _ _ n) ?_⟩
   have hc := of_decide_eq_true c
   simp only [e]
   refine ev_pos (by omega) (ev_pos (by omega) (ev_pos (by rw [List.length_map]; omega) (ev_pos (by rw [rd_gd us k hk1]; omega) (ev_pos (by rw [rd_gd us k hk1]; omega) (ev_pos (by omega) (ev_pos (by rw [List.length_map]; omega) (ev_pos (by rw [rd_gd us (k + 1) hk2]; omega) (ev_pos (by rw [rd_gd us (k + 1) hk2]; omega) ?_))))))))
   refine ev_call rfl (ev_call rfl ?_)
   rw [rd_gd us k hk1, rd_gd us (k + 1) hk2] at h ⊢
   rw [host_gd, host_gd]
   by_cases c2 : ((l.getD (us.getD k 0) z35).f2.length : Int) > ((l.getD (us.getD (k + 1) 0) z35).f2.length : Int)
   ·exact ev_pos c2 h
   ·refine ev_neg c2 (ev_call rfl (ev_call rfl (ev_pos ?_ (ev_pos ?_ h))))
    ·omega
    ·omega
  ·have cf : ltK l (us.getD (k + 1) 0) (us.getD k 0) = false := by simpa using c
   obtain ⟨r, hr, h⟩ := ih us hp (by omega) hi (hI.stay (ltK_n l) hk cf) hE
   refine ⟨r, hr, ev_step (fun n => spec_l15Order.l2.eq_2 _ _ _ _ n) ?_⟩
   have hc := of_decide_eq_false cf
   simp only [e]
   refine ev_pos (by omega) (ev_pos (by omega) (ev_pos (by rw [List.length_map]; omega) (ev_pos (by rw [rd_gd us k hk1]; omega) (ev_pos (by rw [rd_gd us k hk1]; omega) (ev_pos (by omega) (ev_pos (by rw [List.length_map]; omega) (ev_pos (by rw [rd_gd us (k + 1) hk2]; omega) (ev_pos (by rw [rd_gd us (k + 1) hk2]; omega) ?_))))))))
   refine ev_call rfl (ev_call rfl ?_)
   rw [rd_gd us k hk1, rd_gd us (k + 1) hk2]
   rw [host_gd, host_gd]
   refine ev_neg (by omega) (ev_call rfl (ev_call rfl ?_))
   by_cases c2 : ((l.getD (us.getD k 0) z35).f2.length : Int) = ((l.getD (us.getD (k + 1) 0) z35).f2.length : Int)
   ·exact ev_pos c2 (ev_neg (by omega) h)
   ·exact ev_neg c2 h
theorem order_l1 (l : List S35) (hl : l.length < 1048577) : ∀ (d i : Nat) (us : List Nat), 0 < i → us.length ≤ i + d → us.Perm (upsTo l l.length) → (∀ p q, p < q → q < i → q < us.length → ltK l (us.getD q 0) (us.getD p 0) = false) →
  ∃ r, IsRank l r ∧ Ev (fun n => spec_l15Order.l1 n l (us.map Int.ofNat) (i : Int)) (r.map Int.ofNat) := by
 have fin : ∀ (i : Nat) (us : List Nat), us.length ≤ i → us.Perm (upsTo l l.length) → (∀ p q, p < q → q < i → q < us.length → ltK l (us.getD q 0) (us.getD p 0) = false) → ∃ r, IsRank l r ∧ Ev (fun n => spec_l15Order.l1 n l (us.map Int.ofNat) (i : Int)) (r.map Int.ofNat) := by
  intro i us hi hp hs
  refine ⟨us, ⟨hp, List.pairwise_iff_getElem.2 fun p q h1 h2 h3 => ?_⟩, ev_step (fun n => spec_l15Order.l1.eq_2 _ _ _ n) (ev_neg (by rw [List.length_map]; omega) (ev_some _))⟩
  have := hs p q h3 (by omega) h2
  rwa [gd us p h1, gd us q h2] at this
 intro d
 induction d with
 | zero => intro i us h0 hi hp hs; exact fin i us (by omega) hp hs
 | succ d ih =>
  intro i us h0 hi hp hs
  by_cases hlt : i < us.length
  ·obtain ⟨r, hr, h⟩ := order_l2 l hl i [] (IsRank l) i us hp (Nat.le_refl _) hlt (Ins.start fun p q h1 h2 => hs p q h1 h2 (by omega)) (fun ts ht hs' => ih (i + 1) ts (by omega) (by rw [ht.length_eq, ← hp.length_eq]; omega) ht (fun p q h1 h2 _ => hs' p q h1 h2))
   exact ⟨r, hr, ev_step (fun n => spec_l15Order.l1.eq_2 _ _ _ n) (ev_pos (by rw [List.length_map]; omega) h)⟩
  ·exact fin i us (by omega) hp hs
theorem order_l0 (l : List S35) (hl : l.length < 1048577) (v : List Int) (hE : Ev (fun n => spec_l15Order.l1 n l ((upsTo l l.length).map Int.ofNat) 1) v) : ∀ (d i : Nat), i + d = l.length →
  Ev (fun n => spec_l15Order.l0 n l ((upsTo l i).map Int.ofNat) (i : Int)) v := by
 intro d
 induction d with
 | zero =>
  intro i hi
  obtain rfl : i = l.length := by omega
  exact ev_step (fun n => spec_l15Order.l0.eq_2 _ _ _ n) (ev_neg (by omega) hE)
 | succ d ih =>
  intro i hi
  have h := ih (i + 1) (by omega)
  have e : wrap64 ((i : Int) + 1) = ((i + 1 : Nat) : Int) := by rw [wrap_in (by omega) (by omega)]; omega
  have hu := upsTo_len l i
  refine ev_step (fun n => spec_l15Order.l0.eq_2 _ _ _ n) (ev_pos (by omega) (ev_pos (by omega) ?_))
  rw [e, host_gd]
  cases c : (l.getD i z35).f1 with
  | true =>
   rw [upsTo_yes l i c, List.map_append] at h
   exact ev_pos rfl (ev_pos (by rw [List.length_map]; omega) h)
  | false =>
   rw [upsTo_no l i c] at h
   exact ev_neg (by decide) h
theorem order_ev (l : List S35) (hl : l.length < 1048577) : ∃ r, IsRank l r ∧ Ev (fun n => spec_l15Order.f n l) (r.map Int.ofNat) := by
 obtain ⟨r, hr, h⟩ := order_l1 l hl l.length 1 (upsTo l l.length) (by omega) (by have := upsTo_len l l.length; omega) (List.Perm.refl _) (fun p q h1 h2 => absurd h2 (by omega))
 refine ⟨r, hr, ?_⟩
 unfold spec_l15Order.f
 exact order_l0 l hl _ h l.length 0 (by omega)
theorem place_l0 (l : List S35) (hl : l.length < 1048577) (us : List Nat) (hus : ∀ k ∈ us, k < l.length) (hul : us.length < 1048577) (n : Nat) (hn : n ≤ us.length) : ∀ (d i : Nat), i + d = n →
  Ev (fun k => spec_PlaceGroup.l0 k l (n : Int) (us.map Int.ofNat) ((us.take i).map (idOf l)) (i : Int)) ((us.take n).map (idOf l), true) := by
 intro d
 induction d with
 | zero =>
  intro i hi
  obtain rfl : i = n := by omega
  exact ev_step (fun k => spec_PlaceGroup.l0.eq_2 _ _ _ _ _ k) (ev_neg (by omega) (ev_some _))
 | succ d ih =>
  intro i hi
  have h := ih (i + 1) (by omega)
  have hiu : i < us.length := by omega
  have e : wrap64 ((i : Int) + 1) = ((i + 1 : Nat) : Int) := by rw [wrap_in (by omega) (by omega)]; omega
  have b := hus _ (List.getElem_mem hiu)
  rw [List.take_succ_eq_append_getElem hiu, List.map_append] at h
  refine ev_step (fun k => spec_PlaceGroup.l0.eq_2 _ _ _ _ _ k) ?_
  rw [rd_us us i hiu, e, host_gd]
  exact ev_pos (by omega) (ev_pos (by omega) (ev_pos (by rw [List.length_map]; omega) (ev_pos (by omega) (ev_pos (by omega) (ev_pos (by rw [List.length_map, List.length_take]; omega) h)))))
theorem spec_PlaceGroup_ev (l : List S35) (hl : l.length < 1048577) (a : Int) : Ev (fun k => spec_PlaceGroup.f k l a) (placeH l a) := by
 obtain ⟨us, hr, h⟩ := order_ev l hl
 have hz := hr.len
 have hul : us.length < 1048577 := by rw [hr.perm.length_eq]; have := upsTo_len l l.length; omega
 unfold spec_PlaceGroup.f
 refine ev_bind h (ev_call rfl ?_)
 by_cases c : a < 0
 ·refine ev_pos c (ev_step (fun k => spec_PlaceGroup.j0.eq_2 _ _ _ _ _ k) (ev_pos rfl ?_))
  rw [placeH_no (.inl c)]
  exact ev_some _
 ·refine ev_neg c (ev_step (fun k => spec_PlaceGroup.j0.eq_2 _ _ _ _ _ k) ?_)
  by_cases c2 : a > ((us.map Int.ofNat).length : Int)
  ·refine ev_pos (decide_eq_true c2) ?_
   rw [List.length_map, hz] at c2
   rw [placeH_no (.inr c2)]
   exact ev_some _
  ·refine ev_neg (by simp only [decide_eq_true_eq]; exact c2) ?_
   rw [List.length_map] at c2
   obtain ⟨n, rfl⟩ : ∃ n : Nat, a = (n : Int) := ⟨a.toNat, by omega⟩
   rw [placeH_yes (by rw [← hz]; omega), ← rank_idsR hr, ← List.map_take]
   exact place_l0 l hl us hr.lt hul n (by omega) n 0 (by omega)
end Go.Proofs.Ytaejgompckpmfaa.Pu
namespace Go.Proofs.Ytaejgompckpmfaa.Pu
open Go.RowKit Go.Proofs.YtaejgompckpmfaaW.PrintWords Go.Proofs.Ytaejgompckpmfaa.Pr Go.Proofs.Ytaejgompckpmfaa.Evs Go.Proofs.Ytaejgompckpmfaa.Lw
def tame (B : Nat) (hs : List ImHost) : Prop := hs.length ≤ 1000 ∧ ∀ h ∈ hs, h.f2.length ≤ B ∧ ∀ u ∈ h.f2, u.f2.size ≤ 1048576
theorem tame_mono {B C : Nat} {hs : List ImHost} (h : tame B hs) (hBC : B ≤ C) : tame C hs := ⟨h.1, fun x hx => ⟨Nat.le_trans (h.2 x hx).1 hBC, (h.2 x hx).2⟩⟩
def hasId (id : Int) (h : ImHost) : Bool := decide (h.f0 = id)
theorem spec_l15Host_loop (id : Int) (s : List ImHost) : ∀ (p : List ImHost), (p ++ s).length ≤ 1000 → Ev (fun k => spec_l15Host.l0 k (p ++ s) id (p.length : Int)) (idxF (hasId id) s p.length) := by
 induction s with
 | nil => intro p hl; exact ev_step (fun k => spec_l15Host.l0.eq_2 _ _ _ k) (ev_neg (by simp) (ev_some _))
 | cons x s ih =>
  intro p hl
  simp at hl
  have e : wrap64 ((p.length : Int) + 1) = ((p ++ [x]).length : Int) := by rw [wrap_in (by omega) (by omega), List.length_append]; rfl
  refine ev_step (fun k => spec_l15Host.l0.eq_2 _ _ _ k) (ev_pos (by simp; omega) (ev_pos (by omega) ?_))
  simp only [rd35, e]
  by_cases c : x.f0 = id
  ·refine ev_pos c (ev_eq (ev_some _) ?_)
   rw [idxF, if_pos (by simp [hasId, c])]
  ·refine ev_neg c ?_
   have h := ih (p ++ [x]) (by simp; omega)
   rw [List.append_assoc] at h
   rw [idxF, if_neg (by simp [hasId, c])]
   rw [show (p ++ [x]).length = p.length + 1 by simp] at h ⊢
   exact h
theorem spec_l15Host_ev (hs : List ImHost) (hl : hs.length ≤ 1000) (id : Int) : Ev (fun k => spec_l15Host.f k hs id) (idxF (hasId id) hs 0) := by
 unfold spec_l15Host.f
 have := spec_l15Host_loop id hs [] (by simpa using hl)
 simpa using this
theorem spec_Copies_loop (s : List ImHost) : ∀ (p : List ImHost), tame 1000000 (p ++ s) → Ev (fun k => spec_l15Copy.l0 k (p ++ s) p (p.length : Int)) (p ++ s) := by
 induction s with
 | nil => intro p hl; exact ev_step (fun k => spec_l15Copy.l0.eq_2 _ _ _ k) (ev_neg (by simp) (ev_eq (ev_some _) (by simp)))
 | cons x s ih =>
  intro p ht
  have hl := ht.1
  simp at hl
  have hx := (ht.2 x (by simp)).1
  have e : wrap64 ((p.length : Int) + 1) = ((p ++ [x]).length : Int) := by rw [wrap_in (by omega) (by omega), List.length_append]; rfl
  refine ev_step (fun k => spec_l15Copy.l0.eq_2 _ _ _ k) (ev_pos (by simp; omega) (ev_pos (by omega) ?_))
  simp only [rd35, e]
  refine ev_call (spec_Copy_eq _ _ _ (by omega)) (ev_pos (by omega) ?_)
  have h := ih (p ++ [x]) (by rw [List.append_assoc]; exact ht)
  rw [List.append_assoc] at h
  exact h
theorem spec_l15Copy_ev (hs : List ImHost) (ht : tame 1000000 hs) : Ev (fun k => spec_l15Copy.f k hs) hs := spec_Copies_loop hs [] ht
def writeGo (hs : List ImHost) (g : Int) : List (Int × ByteArray) → Nat → List ImHost → List ImHost × Bool
 | [], _, out => (out, true)
 | (id, t) :: r, i, out =>
  let h := rd_T35 out (idxF (hasId id) out 0)
  if (putT h.f0 h.f1 h.f2 g (i : Int) t).2 = true then writeGo hs g r (i + 1) (out.set (idxF (hasId id) out 0).toNat ⟨h.f0, h.f1, (putT h.f0 h.f1 h.f2 g (i : Int) t).1⟩) else (hs, false)
def writeT (hs : List ImHost) (s g : Int) (t : ByteArray) : List ImHost × Bool :=
 if (cutT s t).2 = true ∧ (encT s (cutT s t).1).2 = true ∧ (placeH hs ((encT s (cutT s t).1).1.length : Int)).2 = true then writeGo hs g ((placeH hs ((encT s (cutT s t).1).1.length : Int)).1.zip (encT s (cutT s t).1).1) 0 hs else (hs, false)
theorem idxF_in {α : Type} (p : α → Bool) (xs : List α) : ∀ j : Nat, (∃ x ∈ xs, p x = true) → (j : Int) ≤ idxF p xs j ∧ idxF p xs j < ((j + xs.length : Nat) : Int) := by
 induction xs with
 | nil => intro j ⟨x, hx, _⟩; cases hx
 | cons y s ih =>
  intro j ⟨x, hx, hp⟩
  rw [idxF]
  by_cases c : p y = true
  ·rw [if_pos c]
   simp only [List.length_cons]
   omega
  ·rw [if_neg c]
   rcases List.mem_cons.mp hx with rfl | h
   ·exact absurd hp c
   ·have := ih (j + 1) ⟨x, h, hp⟩
    simp only [List.length_cons]
    omega
theorem filter_two {α : Type} (p q : α → Bool) (h : ∀ x, ¬ (p x = true ∧ q x = true)) (xs : List α) : (xs.filter p).length + (xs.filter q).length ≤ xs.length := by
 induction xs with
 | nil => exact Nat.le_refl _
 | cons x s ih =>
  rw [List.filter_cons, List.filter_cons]
  have hx := h x
  by_cases c : p x = true
  ·have c2 : ¬ q x = true := fun k => hx ⟨c, k⟩
   rw [if_pos c, if_neg c2]
   simp only [List.length_cons]
   omega
  ·rw [if_neg c]
   split <;> simp only [List.length_cons] <;> omega
theorem ahead_not (x y : ImUnit) : ¬ (ahead x y = true ∧ ahead y x = true) := by
 unfold ahead
 simp only [Bool.or_eq_true, Bool.and_eq_true, decide_eq_true_eq]
 omega
theorem putL_le (us : List ImUnit) (u : ImUnit) : (putL us u).length ≤ us.length + 1 := by
 have := filter_two (fun x => ahead x u) (fun x => ahead u x) (fun x => ahead_not x u) us
 simp only [putL, List.length_append, List.length_cons]
 omega
theorem mem_putL {us : List ImUnit} {u x : ImUnit} (h : x ∈ putL us u) : x = u ∨ x ∈ us := by
 unfold putL at h
 rcases List.mem_append.mp h with h | h
 ·exact .inr (List.mem_filter.mp h).1
 ·rcases List.mem_cons.mp h with rfl | h
  ·exact .inl rfl
  ·exact .inr (List.mem_filter.mp h).1
theorem put_tame {us : List ImUnit} {B : Nat} (id : Int) (up : Bool) (g i : Int) (t : ByteArray) (ht : t.size ≤ 1048576) (h : us.length ≤ B ∧ ∀ u ∈ us, u.f2.size ≤ 1048576) : (putT id up us g i t).1.length ≤ B + 1 ∧ ∀ u ∈ (putT id up us g i t).1, u.f2.size ≤ 1048576 := by
 unfold putT
 split
 ·refine ⟨?_, ?_⟩
  ·have := putL_le us ⟨g, i, t, sumText t⟩
   show (putL us _).length ≤ _
   omega
  ·intro u hu
   rcases mem_putL hu with rfl | hu
   ·exact ht
   ·exact h.2 u hu
 ·exact ⟨by show us.length ≤ _; omega, h.2⟩
theorem rdH_mem (hs : List ImHost) (k : Int) (h0 : 0 ≤ k) (h1 : k < (hs.length : Int)) : rd_T35 hs k ∈ hs := by
 unfold rd_T35
 have h : k.toNat < hs.length := by omega
 rw [List.getD_eq_getElem?_getD, List.getElem?_eq_getElem h]
 exact List.getElem_mem h
theorem rdH_get (hs : List ImHost) (k : Nat) (h : k < hs.length) : rd_T35 hs (k : Int) = hs[k] := by
 show hs.getD k _ = _
 rw [List.getD_eq_getElem?_getD, List.getElem?_eq_getElem h]
 rfl
theorem set_ids (out : List ImHost) (k : Int) (h0 : 0 ≤ k) (h1 : k < (out.length : Int)) (up : Bool) (us : List ImUnit) : (out.set k.toNat ⟨(rd_T35 out k).f0, up, us⟩).map (·.f0) = out.map (·.f0) := by
 obtain ⟨n, rfl⟩ : ∃ n : Nat, k = (n : Int) := ⟨k.toNat, by omega⟩
 rw [rdH_get out n (by omega), Int.toNat_natCast, List.map_set]
 apply List.ext_getElem
 ·simp
 ·intro i h2 h3
  rw [List.getElem_set]
  split
  ·rename_i h; subst h; simp
  ·rfl
theorem spec_Write_loop (B : Nat) (hB : B ≤ 900000) (hs : List ImHost) (hth : tame 1000000 hs) (g : Int) (all : List ByteArray) (hz : ∀ u ∈ all, u.size ≤ 1048576) (ids : List Int) (hlen : ids.length = all.length) (hl : ids.length ≤ 100) : ∀ (r : List (Int × ByteArray)) (i : Nat) (out : List ImHost),
  r = (ids.zip all).drop i → i ≤ ids.length → out.map (·.f0) = hs.map (·.f0) → (∀ id ∈ ids, ∃ h ∈ hs, h.f0 = id) → tame (B + i) out →
  Ev (fun k => spec_WriteGroup.l0 k hs g all ids out (i : Int)) (writeGo hs g r i out) := by
 intro r
 induction r with
 | nil =>
  intro i out hr hi hid hex ht
  have hz2 : (ids.zip all).length ≤ i := List.drop_eq_nil_iff.mp hr.symm
  rw [List.length_zip] at hz2
  exact ev_step (fun k => spec_WriteGroup.l0.eq_2 _ _ _ _ _ _ k) (ev_neg (by omega) (ev_some _))
 | cons p r ih =>
  intro i out hr hi hid hex ht
  obtain ⟨id, t⟩ := p
  have hlt : i < (ids.zip all).length := by
   rcases Nat.lt_or_ge i (ids.zip all).length with h | h
   ·exact h
   ·rw [List.drop_eq_nil_of_le h] at hr; cases hr
  have hlt2 := hlt
  rw [List.length_zip] at hlt2
  rw [List.drop_eq_getElem_cons hlt] at hr
  injection hr with hr1 hr2
  rw [List.getElem_zip] at hr1
  injection hr1 with e1 e2
  have hi2 : i < ids.length := by omega
  have hi3 : i < all.length := by omega
  have e : wrap64 ((i : Int) + 1) = ((i + 1 : Nat) : Int) := by rw [wrap_in (by omega) (by omega)]; rfl
  have b1 : (i : Int) < (ids.length : Int) := by omega
  have b2 : (0 : Int) ≤ (i : Int) := by omega
  have b3 : (i : Int) < (all.length : Int) := by omega
  have b4 : i + 1 ≤ ids.length := hi2
  have hid1 : rd ids (i : Int) = id := by
   show ids.getD i _ = _
   rw [List.getD_eq_getElem?_getD, List.getElem?_eq_getElem hi2, e1]; rfl
  have ht1 : rdOf ByteArray.empty all (i : Int) = t := by
   show all.getD i _ = _
   rw [List.getD_eq_getElem?_getD, List.getElem?_eq_getElem hi3, e2]; rfl
  have hts : t.size ≤ 1048576 := by rw [e2]; exact hz _ (List.getElem_mem hi3)
  have hfound : ∃ x ∈ out, hasId id x = true := by
   obtain ⟨h, hh, e⟩ := hex id (by rw [e1]; exact List.getElem_mem hi2)
   have : id ∈ out.map (·.f0) := by rw [hid]; exact List.mem_map.mpr ⟨h, hh, e⟩
   obtain ⟨x, hx, ex⟩ := List.mem_map.mp this
   exact ⟨x, hx, by simp [hasId, ex]⟩
  have hk := idxF_in (hasId id) out 0 hfound
  have b6 : idxF (hasId id) out 0 < (out.length : Int) := by have := hk.2; rw [Nat.zero_add] at this; exact this
  have hmem := rdH_mem out (idxF (hasId id) out 0) hk.1 b6
  have hb := ht.2 _ hmem
  have b7 : (rd_T35 out (idxF (hasId id) out 0)).f2.length < 1000000000000 := Nat.lt_of_le_of_lt hb.1 (Nat.lt_of_le_of_lt (Nat.add_le_add hB (Nat.le_trans (Nat.le_of_lt hi2) hl)) (by decide))
  have b8 : t.size < 9223372036854775807 := Nat.lt_of_le_of_lt hts (by decide)
  refine ev_step (fun k => spec_WriteGroup.l0.eq_2 _ _ _ _ _ _ k) (ev_pos b1 (ev_pos b2 ?_))
  rw [hid1, ht1, e]
  refine ev_bind (spec_l15Host_ev out ht.1 id) (ev_pos hk.1 (ev_pos b6 (ev_pos b3 (ev_bind (spec_PutUnit_ev _ _ _ b7 g (i : Int) t 0 b8) ?_))))
  rw [writeGo]
  by_cases c : (putT (rd_T35 out (idxF (hasId id) out 0)).f0 (rd_T35 out (idxF (hasId id) out 0)).f1 (rd_T35 out (idxF (hasId id) out 0)).f2 g (i : Int) t).2 = true
  ·refine ev_eq (ev_pos c (ih (i + 1) _ hr2 b4 ?_ hex ?_)) (if_pos c).symm
   ·rw [set_ids out _ hk.1 b6, hid]
   ·refine ⟨by rw [List.length_set]; exact ht.1, ?_⟩
    intro h hh
    rcases List.mem_or_eq_of_mem_set hh with hh | rfl
    ·exact ⟨Nat.le_succ_of_le (ht.2 h hh).1, (ht.2 h hh).2⟩
    ·have := put_tame (B := B + i) (rd_T35 out (idxF (hasId id) out 0)).f0 (rd_T35 out (idxF (hasId id) out 0)).f1 g (i : Int) t hts hb
     exact this
  ·exact ev_eq (ev_neg c (ev_bind (spec_l15Copy_ev hs hth) (ev_some _))) (if_neg c).symm
theorem rowT_size (n : Nat) : ∀ (row : List Int) (us : List ByteArray) (a : ByteArray), (∀ u ∈ us, u.size ≤ n) → a.size ≤ n → (rowT row us a).size ≤ n := by
 intro row
 induction row with
 | nil => intro us a hu ha; cases us <;> exact ha
 | cons x row ih =>
  intro us a hu ha
  cases us with
  | nil => exact ha
  | cons u us =>
   refine ih us _ (fun v hv => hu v (List.mem_cons_of_mem _ hv)) ?_
   have := hu u List.mem_cons_self
   rw [addT_size, mulT_size]
   omega
theorem enc_small (s : Int) (us : List ByteArray) : ∀ u ∈ (encT s us).1, u.size ≤ 200 := by
 intro u hu
 unfold encT at hu
 split at hu
 ·rename_i h
  obtain ⟨row, hr, rfl⟩ := List.mem_map.mp hu
  refine rowT_size 200 row _ _ ?_ (Nat.zero_le _)
  intro v hv
  obtain ⟨w, hw, rfl⟩ := List.mem_map.mp hv
  rw [padT_size]
  have := most_le us w hw
  omega
 ·cases hu
theorem enc_len (s : Int) (us : List ByteArray) : (encT s us).1.length ≤ 6 := by
 unfold encT
 split
 ·rename_i h
  show (applyT _ _).length ≤ 6
  have := code_rows h.1
  simp only [applyT, List.length_map]
  omega
 ·exact Nat.zero_le _
theorem place_mem (l : List ImHost) (a : Int) : ∀ id ∈ (placeH l a).1, ∃ h ∈ l, h.f0 = id := by
 intro id hid
 unfold placeH at hid
 split at hid
 ·cases hid
 ·have h1 := List.mem_of_mem_take hid
  rw [← rank_idsR (sortK_rank l)] at h1
  obtain ⟨k, hk, rfl⟩ := List.mem_map.mp h1
  have hlt := (sortK_rank l).lt k hk
  refine ⟨l[k], List.getElem_mem hlt, ?_⟩
  show _ = (l.getD k z35).f0
  rw [List.getD_eq_getElem?_getD, List.getElem?_eq_getElem hlt]
  rfl
theorem place_len (l : List ImHost) (n : Nat) (h : (placeH l (n : Int)).2 = true) : (placeH l (n : Int)).1.length = n := by
 unfold placeH at h ⊢
 split
 ·rename_i c
  rw [if_pos c] at h
  cases h
 ·rename_i c
  show (List.take _ _).length = n
  rw [List.length_take]
  omega
theorem spec_WriteGroup_ev (hs : List ImHost) (ht : tame 900000 hs) (s g : Int) (t : ByteArray) : Ev (fun k => spec_WriteGroup.f k hs s g t) (writeT hs s g t) := by
 have hel := enc_len s (cutT s t).1
 have h1 : tame 1000000 hs := tame_mono ht (by omega)
 unfold spec_WriteGroup.f
 refine ev_bind (spec_CutUnits_ev s t) (ev_bind (spec_Encode_ev s _) (ev_bind (spec_PlaceGroup_ev hs (by have := ht.1; omega) _) ?_))
 have no : ¬ ((cutT s t).2 = true ∧ (encT s (cutT s t).1).2 = true ∧ (placeH hs ((encT s (cutT s t).1).1.length : Int)).2 = true) → Ev (fun k => (spec_l15Copy.f k hs).bind fun t356 => some (t356, false)) (writeT hs s g t) := fun hn => by
  rw [writeT, if_neg hn]
  exact ev_bind (spec_l15Copy_ev hs h1) (ev_some _)
 by_cases c1 : (cutT s t).2 = true
 ·refine ev_pos c1 ?_
  by_cases c2 : (encT s (cutT s t).1).2 = true
  ·refine ev_pos c2 (ev_step (fun k => spec_WriteGroup.j0.eq_2 _ _ _ _ _ k) ?_)
   by_cases c3 : (placeH hs ((encT s (cutT s t).1).1.length : Int)).2 = true
   ·rw [c3]
    refine ev_neg (by decide) (ev_bind (spec_l15Copy_ev hs h1) ?_)
    rw [writeT, if_pos ⟨c1, c2, c3⟩]
    have hl := place_len hs _ c3
    exact spec_Write_loop 900000 (Nat.le_refl _) hs h1 g _ (fun u hu => by have := enc_small s (cutT s t).1 u hu; omega) _ hl (by omega) _ 0 hs rfl (Nat.zero_le _) rfl (place_mem hs _) ht
   ·rw [Bool.eq_false_iff.mpr c3]
    exact ev_pos rfl (no (fun x => c3 x.2.2))
  ·exact ev_neg c2 (ev_step (fun k => spec_WriteGroup.j0.eq_2 _ _ _ _ _ k) (ev_pos rfl (no (fun x => c2 x.2.1))))
 ·exact ev_neg c1 (ev_step (fun k => spec_WriteGroup.j0.eq_2 _ _ _ _ _ k) (ev_pos rfl (no (fun x => c1 x.1))))
def shortH (hs : List ImHost) : Prop := hs.length < 9223372036854775807 ∧ ∀ h ∈ hs, shortU h.f2
def firstU : List ImHost → Int → Int → ByteArray × Bool
 | [], _, _ => (⟨#[]⟩, false)
 | h :: s, g, i => if (getUnit h.f1 h.f2 g i).2 = true then getUnit h.f1 h.f2 g i else firstU s g i
def fromU (hs : List ImHost) (g : Int) : Nat → Nat → List (ByteArray × Bool)
 | _, 0 => []
 | i, d + 1 => firstU hs g (i : Int) :: fromU hs g (i + 1) d
theorem fromU_length (hs : List ImHost) (g : Int) (d : Nat) : ∀ i, (fromU hs g i d).length = d := by
 induction d with
 | zero => intro i; rfl
 | succ d ih => intro i; simp [fromU, ih]
def schemaOf (s : Int) : Int × Int × Bool := if s = 1 then (2, 1, true) else if s = 2 then (3, 2, true) else if s = 3 then (4, 2, true) else (0, 0, false)
theorem spec_SchemaOf_eq (s : Int) : spec_SchemaOf.f s = some (schemaOf s) := by
 unfold spec_SchemaOf.f schemaOf
 split
 ·rfl
 ·split
  ·rfl
  ·split <;> rfl
theorem impl_SchemaOf_eq (s : Int) : impl_SchemaOf.f s = some (schemaOf s) := by
 unfold impl_SchemaOf.f schemaOf
 split
 ·rfl
 ·split
  ·rfl
  ·split <;> rfl
def many (s : Int) : Nat := if s = 1 then 3 else if s = 2 then 5 else if s = 3 then 6 else 0
theorem many_eq (s : Int) : (schemaOf s).1 + (schemaOf s).2.1 = (many s : Int) := by
 unfold schemaOf many
 split
 ·rfl
 ·split
  ·rfl
  ·split <;> rfl
theorem many_le (s : Int) : many s ≤ 6 := by unfold many; split <;> (try split) <;> (try split) <;> omega
theorem many_wrap (s : Int) : wrap64 ((schemaOf s).1 + (schemaOf s).2.1) = (many s : Int) := by
 have := many_le s
 rw [many_eq]
 exact wrap_in (by omega) (by omega)
def unitsOf (hs : List ImHost) (s g : Int) : List ByteArray × List Bool := ((fromU hs g 0 (many s)).map (·.1), (fromU hs g 0 (many s)).map (·.2))
theorem impl_UnitsOf_l1 (hs : List ImHost) (g a b : Int) (i : Int) (xs : List ByteArray) (ys : List Bool) (r : List ByteArray × List Bool) (hx : xs.length < 1000000) (hy : ys.length < 1000000) (s : List ImHost)
  (hE : Ev (fun k => impl_UnitsOf.l0 k hs g a b (xs ++ [(firstU s g i).1]) (ys ++ [(firstU s g i).2]) (wrap64 (i + 1))) r) : ∀ (p : List ImHost) (n : Int), n = ((p ++ s).length : Int) → shortH (p ++ s) →
  Ev (fun k => impl_UnitsOf.l1 k hs g a b xs ys i ⟨#[]⟩ false (p ++ s) n (p.length : Int)) r := by
 induction s with
 | nil =>
  intro p n hn hs
  exact ev_step (fun k => impl_UnitsOf.l1.eq_2 _ _ _ _ _ _ _ _ _ _ _ _ k) (ev_neg (by simp at hn; omega) (ev_pos (by omega) (ev_pos (by omega) hE)))
 | cons x s ih =>
  intro p n hn hs
  have hl := hs.1
  simp at hl hn
  have hu : shortU x.f2 := hs.2 x (by simp)
  refine ev_step (fun k => impl_UnitsOf.l1.eq_2 _ _ _ _ _ _ _ _ _ _ _ _ k) (ev_pos (by omega) (ev_pos (by omega) (ev_pos (by simp; omega) ?_)))
  have e : wrap64 ((p.length : Int) + 1) = (p.length : Int) + 1 := wrap_in (by omega) (by omega)
  simp only [rd35, e]
  refine ev_bind (impl_GetUnit_ev x.f0 x.f1 x.f2 g i hu) ?_
  by_cases c : (getUnit x.f1 x.f2 g i).2 = true
  ·refine ev_pos c (ev_pos (by omega) (ev_pos (by omega) ?_))
   rw [firstU, if_pos c] at hE
   exact hE
  ·have hf : (getUnit x.f1 x.f2 g i).2 = false := by simpa using c
   refine ev_neg c ?_
   rw [getUnit_no hf, hf]
   rw [firstU, if_neg c] at hE
   have h := ih hE (p ++ [x]) n (by simp; omega) (by simpa using hs)
   simpa using h
theorem impl_UnitsOf_l0 (hs : List ImHost) (hh : shortH hs) (g a b : Int) (m : Nat) (hm : wrap64 (a + b) = (m : Int)) (hm6 : m ≤ 6) (d : Nat) : ∀ (i : Nat) (xs : List ByteArray) (ys : List Bool), i + d = m → xs.length + d ≤ 100 → ys.length + d ≤ 100 →
  Ev (fun k => impl_UnitsOf.l0 k hs g a b xs ys (i : Int)) (xs ++ (fromU hs g i d).map (·.1), ys ++ (fromU hs g i d).map (·.2)) := by
 induction d with
 | zero => intro i xs ys hi hx hy; exact ev_step (fun k => impl_UnitsOf.l0.eq_2 _ _ _ _ _ _ _ k) (ev_neg (by rw [hm]; omega) (ev_eq (ev_some _) (by simp [fromU])))
 | succ d ih =>
  intro i xs ys hi hx hy
  refine ev_step (fun k => impl_UnitsOf.l0.eq_2 _ _ _ _ _ _ _ k) (ev_pos (by rw [hm]; omega) ?_)
  have h := ih (i + 1) (xs ++ [(firstU hs g (i : Int)).1]) (ys ++ [(firstU hs g (i : Int)).2]) (by omega) (by simp; omega) (by simp; omega)
  have e : wrap64 ((i : Int) + 1) = ((i + 1 : Nat) : Int) := by rw [wrap_in (by omega) (by omega)]; omega
  have h2 := impl_UnitsOf_l1 hs g a b (i : Int) xs ys _ (by omega) (by omega) hs (by rw [e]; exact h) [] (hs.length : Int) (by simp) (by simpa using hh)
  refine ev_eq (by simpa using h2) ?_
  simp [fromU]
theorem impl_UnitsOf_ev (hs : List ImHost) (hh : shortH hs) (s g : Int) : Ev (fun k => impl_UnitsOf.f k hs s g) (unitsOf hs s g) := by
 unfold impl_UnitsOf.f
 refine ev_call (impl_SchemaOf_eq s) ?_
 have := many_le s
 have h := impl_UnitsOf_l0 hs hh g _ _ (many s) (many_wrap s) (many_le s) (many s) 0 [] [] (by omega) (by simp; omega) (by simp; omega)
 simpa [unitsOf] using h
theorem rdOf_mid (xs zs : List Bool) (z : Bool) (i : Int) (hi : i = (xs.length : Int)) : rdOf false (xs ++ z :: zs) i = z := by unfold rdOf; exact getD_mid' _ _ _ _ _ hi
theorem spec_UnitsOf_l1 (hs : List ImHost) (g a b : Int) (i : Int) (xs : List ByteArray) (ys : List Bool) (xt : List ByteArray) (yt : List Bool) (r : List ByteArray × List Bool) (hxi : i = (xs.length : Int)) (hyi : i = (ys.length : Int)) (s : List ImHost)
  (hE : Ev (fun k => spec_UnitsOf.l0 k hs g a b (xs ++ (firstU s g i).1 :: xt) (ys ++ (firstU s g i).2 :: yt) (wrap64 (i + 1))) r) : ∀ (p : List ImHost), hs = p ++ s → shortH (p ++ s) →
  Ev (fun k => spec_UnitsOf.l1 k hs g a b (xs ++ ⟨#[]⟩ :: xt) (ys ++ false :: yt) i (p.length : Int)) r := by
 induction s with
 | nil =>
  intro p hp hs'
  subst hp
  exact ev_step (fun k => spec_UnitsOf.l1.eq_2 _ _ _ _ _ _ _ _ k) (ev_neg (by simp) (ev_step (fun k => spec_UnitsOf.j2.eq_2 _ _ _ _ _ _ _ _ _ k) (ev_neg (by simp) hE)))
 | cons x s ih =>
  intro p hp hs'
  have hl := hs'.1
  simp at hl
  have hu : shortU x.f2 := hs'.2 x (by simp)
  have e : wrap64 ((p.length : Int) + 1) = (p.length : Int) + 1 := wrap_in (by omega) (by omega)
  have hrd : rd_T35 hs (p.length : Int) = x := by rw [hp]; exact rd35 p s x
  refine ev_step (fun k => spec_UnitsOf.l1.eq_2 _ _ _ _ _ _ _ _ k) (ev_pos (by rw [hp]; simp; omega) (ev_pos (by omega) (ev_pos (by simp; omega) ?_)))
  rw [rdOf_mid _ _ _ _ hyi]
  refine ev_step (fun k => spec_UnitsOf.j2.eq_2 _ _ _ _ _ _ _ _ _ k) (ev_pos (by simp) (ev_pos (by omega) (ev_pos (by rw [hp]; simp; omega) ?_)))
  simp only [hrd, e]
  refine ev_bind (spec_GetUnit_ev x.f0 x.f1 x.f2 g i hu) ?_
  by_cases c : (getUnit x.f1 x.f2 g i).2 = true
  ·refine ev_pos c (ev_pos (by omega) (ev_pos (by simp; omega) (ev_pos (by simp; omega) ?_)))
   rw [firstU, if_pos c, c] at hE
   simp only [set_mid _ _ _ _ _ hxi, set_mid _ _ _ _ _ hyi]
   -- the rest of the hosts is not asked
   have hstop : ∀ q : Int, 0 ≤ q → Ev (fun k => spec_UnitsOf.l1 k hs g a b (xs ++ (getUnit x.f1 x.f2 g i).1 :: xt) (ys ++ true :: yt) i q) r := by
    intro q hq
    refine ev_step (fun k => spec_UnitsOf.l1.eq_2 _ _ _ _ _ _ _ _ k) ?_
    by_cases c2 : q < (hs.length : Int)
    ·refine ev_pos c2 (ev_pos (by omega) (ev_pos (by simp; omega) ?_))
     rw [rdOf_mid _ _ _ _ hyi]
     exact ev_step (fun k => spec_UnitsOf.j2.eq_2 _ _ _ _ _ _ _ _ _ k) (ev_neg (by simp) hE)
    ·exact ev_neg c2 (ev_step (fun k => spec_UnitsOf.j2.eq_2 _ _ _ _ _ _ _ _ _ k) (ev_neg (by simp) hE))
   exact hstop _ (by omega)
  ·refine ev_neg c ?_
   rw [firstU, if_neg c] at hE
   have h := ih hE (p ++ [x]) (by simpa using hp) (by simpa using hs')
   simpa using h
theorem spec_UnitsOf_l0 (hs : List ImHost) (hh : shortH hs) (g a b : Int) (m : Nat) (hm : wrap64 (a + b) = (m : Int)) (hm6 : m ≤ 6) (d : Nat) : ∀ (i : Nat) (xs : List ByteArray) (ys : List Bool), i + d = m → xs.length = i → ys.length = i →
  Ev (fun k => spec_UnitsOf.l0 k hs g a b (xs ++ List.replicate d ⟨#[]⟩) (ys ++ List.replicate d false) (i : Int)) (xs ++ (fromU hs g i d).map (·.1), ys ++ (fromU hs g i d).map (·.2)) := by
 induction d with
 | zero => intro i xs ys hi hx hy; exact ev_step (fun k => spec_UnitsOf.l0.eq_2 _ _ _ _ _ _ _ k) (ev_neg (by rw [hm]; omega) (ev_eq (ev_some _) (by simp [fromU])))
 | succ d ih =>
  intro i xs ys hi hx hy
  refine ev_step (fun k => spec_UnitsOf.l0.eq_2 _ _ _ _ _ _ _ k) (ev_pos (by rw [hm]; omega) ?_)
  have h := ih (i + 1) (xs ++ [(firstU hs g (i : Int)).1]) (ys ++ [(firstU hs g (i : Int)).2]) (by omega) (by simp; omega) (by simp; omega)
  have e : wrap64 ((i : Int) + 1) = ((i + 1 : Nat) : Int) := by rw [wrap_in (by omega) (by omega)]; omega
  have h2 := spec_UnitsOf_l1 hs g a b (i : Int) xs ys (List.replicate d ⟨#[]⟩) (List.replicate d false) _ (by omega) (by omega) hs (by rw [e]; simpa using h) [] (by simp) (by simpa using hh)
  refine ev_eq (by simpa [List.replicate_succ] using h2) ?_
  simp [fromU]
theorem spec_UnitsOf_ev (hs : List ImHost) (hh : shortH hs) (s g : Int) : Ev (fun k => spec_UnitsOf.f k hs s g) (unitsOf hs s g) := by
 unfold spec_UnitsOf.f
 refine ev_call (spec_SchemaOf_eq s) ?_
 have := many_le s
 simp only [many_wrap]
 refine ev_pos (by omega) (ev_pos (by omega) (ev_pos (by omega) ?_))
 have h := spec_UnitsOf_l0 hs hh g _ _ (many s) (many_wrap s) (many_le s) (many s) 0 [] [] (by omega) rfl rfl
 simpa [unitsOf] using h
def idsN (n : Nat) : List Int := (List.range n).map fun j => ((j + 1 : Nat) : Int)
theorem idsN_succ (n : Nat) : idsN (n + 1) = idsN n ++ [((n + 1 : Nat) : Int)] := by simp [idsN, List.range_succ]
theorem idsN_len (n : Nat) : (idsN n).length = n := by simp [idsN]
def hosted (n B : Nat) (hs : List ImHost) : Prop := hs.map (·.f0) = idsN n ∧ tame B hs
theorem hosted_len {n B : Nat} {hs : List ImHost} (h : hosted n B hs) : hs.length = n := by
 have := congrArg List.length h.1
 rw [List.length_map, idsN_len] at this
 exact this
theorem hosted_mono {n B C : Nat} {hs : List ImHost} (h : hosted n B hs) (hB : B ≤ C) : hosted n C hs := ⟨h.1, tame_mono h.2 hB⟩
theorem tame_short {B : Nat} {hs : List ImHost} (h : tame B hs) (hB : B ≤ 1000000) : shortH hs := ⟨by have := h.1; omega, fun x hx => ⟨by have := (h.2 x hx).1; omega, fun u hu => by have := (h.2 x hx).2 u hu; omega⟩⟩
theorem hosted_set {n B : Nat} {hs : List ImHost} (h : hosted n B hs) (k : Int) (h0 : 0 ≤ k) (h1 : k < (hs.length : Int)) (up : Bool) (us : List ImUnit) (hu : us.length ≤ B ∧ ∀ u ∈ us, u.f2.size ≤ 1048576) : hosted n B (hs.set k.toNat ⟨(rd_T35 hs k).f0, up, us⟩) := by
 refine ⟨by rw [set_ids hs k h0 h1]; exact h.1, by rw [List.length_set]; exact h.2.1, ?_⟩
 intro x hx
 rcases List.mem_or_eq_of_mem_set hx with hx | rfl
 ·exact h.2.2 x hx
 ·exact hu
theorem writeGo_hosted (n B : Nat) (hs : List ImHost) (g : Int) : ∀ (r : List (Int × ByteArray)) (i : Nat) (out : List ImHost), hosted n (B + r.length) hs → hosted n B out → (∀ p ∈ r, p.2.size ≤ 1048576) → (∀ p ∈ r, ∃ h ∈ out, h.f0 = p.1) → hosted n (B + r.length) (writeGo hs g r i out).1 := by
 intro r
 induction r generalizing B with
 | nil => intro i out h1 h2 h3 h4; exact h2
 | cons p r ih =>
  intro i out h1 h2 h3 h4
  obtain ⟨id, t⟩ := p
  rw [writeGo]
  have hfound : ∃ x ∈ out, hasId id x = true := by
   obtain ⟨x, hx, e⟩ := h4 (id, t) List.mem_cons_self
   exact ⟨x, hx, by simp only [hasId]; exact decide_eq_true e⟩
  have hk := idxF_in (hasId id) out 0 hfound
  have hk2 : idxF (hasId id) out 0 < (out.length : Int) := by have := hk.2; rw [Nat.zero_add] at this; exact this
  have hm := h2.2.2 _ (rdH_mem out _ hk.1 hk2)
  have hp := put_tame (B := B) (rd_T35 out (idxF (hasId id) out 0)).f0 (rd_T35 out (idxF (hasId id) out 0)).f1 g (i : Int) t (h3 _ List.mem_cons_self) hm
  have hlen : B + (r.length + 1) = B + 1 + r.length := by omega
  split
  ·have h5 := hosted_set (hosted_mono h2 (Nat.le_succ B)) _ hk.1 hk2 (rd_T35 out (idxF (hasId id) out 0)).f1 _ hp
   have h6 := ih (B + 1) (i + 1) _ (by rw [← hlen]; exact h1) h5 (fun q hq => h3 q (List.mem_cons_of_mem _ hq)) ?_
   ·rw [List.length_cons, hlen]; exact h6
   ·intro q hq
    obtain ⟨x, hx, e⟩ := h4 q (List.mem_cons_of_mem _ hq)
    have h7 : q.1 ∈ out.map (·.f0) := List.mem_map.mpr ⟨x, hx, e⟩
    rw [← set_ids out _ hk.1 hk2 (rd_T35 out (idxF (hasId id) out 0)).f1 _] at h7
    obtain ⟨y, hy, e2⟩ := List.mem_map.mp h7
    exact ⟨y, hy, e2⟩
  ·exact h1
theorem writeT_hosted (n B : Nat) (hs : List ImHost) (s g : Int) (t : ByteArray) (h : hosted n B hs) : hosted n (B + 6) (writeT hs s g t).1 := by
 unfold writeT
 split
 ·have hl : ((placeH hs ((encT s (cutT s t).1).1.length : Int)).1.zip (encT s (cutT s t).1).1).length ≤ 6 := by
   rw [List.length_zip]
   have := enc_len s (cutT s t).1
   omega
  refine hosted_mono (writeGo_hosted n B hs g _ 0 hs (hosted_mono h (Nat.le_add_right _ _)) h ?_ ?_) (by omega)
  ·intro p hp
   have := enc_small s (cutT s t).1 p.2 (List.of_mem_zip hp).2
   omega
  ·intro p hp
   exact place_mem hs _ p.1 (List.of_mem_zip hp).1
 ·exact hosted_mono h (Nat.le_add_right _ _)
theorem hosts_l2 (b : List Int) (hb : b.length ≤ 1048576) (s : Int) (t : ByteArray) (d : Nat) : ∀ (j : Nat) (hs : List ImHost) (ci ch : Int), j + d = 3 → hosted 7 18 hs → inB b ci →
  ∃ r ci' ch', Ev (fun k => spec_l15Hosts.l2 k hs s t (j : Int) b ci ch) (r, s, 1, t, ci', ch') ∧ hosted 7 18 r := by
 induction d with
 | zero =>
  intro j hs ci ch hj hh hi
  obtain ⟨x, i1, h1, e, hx, hi1⟩ := cur_below b hb ci ch 4 hi (by decide) (by decide)
  exact ⟨hs, i1, h1, ev_step (fun k => spec_l15Hosts.l2.eq_2 _ _ _ _ _ _ _ k) (ev_call e (ev_neg (by show ¬ (j : Int) < x; omega) (ev_some _))), hh⟩
 | succ d ih =>
  intro j hs ci ch hj hh hi
  obtain ⟨x, i1, h1, e, hx, hi1⟩ := cur_below b hb ci ch 4 hi (by decide) (by decide)
  by_cases c : (j : Int) < x
  ·have hl := hosted_len hh
   obtain ⟨m, i2, h2, e2, hm, hi2⟩ := cur_below b hb i1 h1 (hs.length : Int) hi1 (by omega) (by omega)
   obtain ⟨y, i3, h3, e3, hy, hi3⟩ := cur_below b hb i2 h2 4 hi2 (by decide) (by decide)
   have hw : wrap64 ((j : Int) + 1) = ((j + 1 : Nat) : Int) := by rw [wrap_in (by omega) (by omega)]; rfl
   have hmem := hh.2.2 _ (rdH_mem hs m hm.1 hm.2)
   have fin : ∀ (r1 : List ImHost) (ci1 ch1 : Int), hosted 7 18 r1 → inB b ci1 → ∃ r ci' ch', Ev (fun k => spec_l15Hosts.l2 k r1 s t (wrap64 ((j : Int) + 1)) b ci1 ch1) (r, s, 1, t, ci', ch') ∧ hosted 7 18 r := fun r1 ci1 ch1 hr1 hi9 => by
    rw [hw]
    exact ih (j + 1) r1 ci1 ch1 (by omega) hr1 hi9
   by_cases c0 : y = 0
   ·obtain ⟨r, ci', ch', hE, hr⟩ := fin _ i3 h3 (hosted_set hh m hm.1 hm.2 false _ hmem) hi3
    exact ⟨r, ci', ch', ev_step (fun k => spec_l15Hosts.l2.eq_2 _ _ _ _ _ _ _ k) (ev_call e (ev_pos c (ev_call e2 (ev_call e3 (ev_pos c0 (ev_pos hm.1 (ev_pos hm.2 hE))))))), hr⟩
   ·by_cases c1 : y = 1
    ·obtain ⟨r, ci', ch', hE, hr⟩ := fin _ i3 h3 (hosted_set hh m hm.1 hm.2 (rd_T35 hs m).f1 [] ⟨Nat.zero_le _, fun u hu => by cases hu⟩) hi3
     exact ⟨r, ci', ch', ev_step (fun k => spec_l15Hosts.l2.eq_2 _ _ _ _ _ _ _ k) (ev_call e (ev_pos c (ev_call e2 (ev_call e3 (ev_neg c0 (ev_pos c1 (ev_pos hm.1 (ev_pos hm.2 hE)))))))), hr⟩
    ·by_cases c2 : y = 2
     ·by_cases c3 : ((rd_T35 hs m).f2.length : Int) > 0
      ·obtain ⟨z, i4, h4, e4, hz, hi4⟩ := cur_below b hb i3 h3 9 hi3 (by decide) (by decide)
       have hsh := (tame_short hh.2 (by decide)).2 _ (rdH_mem hs m hm.1 hm.2)
       have hS := spec_Spoil_ev (rd_T35 hs m).f0 (rd_T35 hs m).f1 (rd_T35 hs m).f2 hsh (by omega) (rd_T60 (rd_T35 hs m).f2 0).f0 (rd_T60 (rd_T35 hs m).f2 0).f1 z
       have hst := spoil_tame (B := 18) (rd_T60 (rd_T35 hs m).f2 0).f0 (rd_T60 (rd_T35 hs m).f2 0).f1 z hmem
       obtain ⟨r, ci', ch', hE, hr⟩ := fin _ i4 h4 (hosted_set hh m hm.1 hm.2 (rd_T35 hs m).f1 _ hst) hi4
       exact ⟨r, ci', ch', ev_step (fun k => spec_l15Hosts.l2.eq_2 _ _ _ _ _ _ _ k) (ev_call e (ev_pos c (ev_call e2 (ev_call e3 (ev_neg c0 (ev_neg c1 (ev_pos c2 (ev_pos hm.1 (ev_pos hm.2 (ev_pos c3 (ev_pos c3 (ev_call e4 (ev_bind hS hE))))))))))))), hr⟩
      ·obtain ⟨r, ci', ch', hE, hr⟩ := fin hs i3 h3 hh hi3
       exact ⟨r, ci', ch', ev_step (fun k => spec_l15Hosts.l2.eq_2 _ _ _ _ _ _ _ k) (ev_call e (ev_pos c (ev_call e2 (ev_call e3 (ev_neg c0 (ev_neg c1 (ev_pos c2 (ev_pos hm.1 (ev_pos hm.2 (ev_neg c3 hE)))))))))), hr⟩
     ·obtain ⟨r, ci', ch', hE, hr⟩ := fin _ i3 h3 (hosted_set hh m hm.1 hm.2 true _ hmem) hi3
      exact ⟨r, ci', ch', ev_step (fun k => spec_l15Hosts.l2.eq_2 _ _ _ _ _ _ _ k) (ev_call e (ev_pos c (ev_call e2 (ev_call e3 (ev_neg c0 (ev_neg c1 (ev_neg c2 (ev_pos hm.1 (ev_pos hm.2 hE))))))))), hr⟩
  ·exact ⟨hs, i1, h1, ev_step (fun k => spec_l15Hosts.l2.eq_2 _ _ _ _ _ _ _ k) (ev_call e (ev_neg (by show ¬ (j : Int) < x; exact c) (ev_some _))), hh⟩
theorem hosts_l1 (b : List Int) (hb : b.length ≤ 1048576) {s : Int} (h3 : s = 1 ∨ s = 2 ∨ s = 3) (d : Nat) : ∀ (j : Nat) (hs : List ImHost) (t : ByteArray) (ci ch : Int), j + d = 3 → hosted 7 (6 * j) hs → inB b ci →
  ∃ r t' ci' ch', Ev (fun k => spec_l15Hosts.l1 k hs s t ((j + 1 : Nat) : Int) b ci ch) (r, s, 1, t', ci', ch') ∧ hosted 7 18 r := by
 have hm := mOf_le s
 have hm0 := (code_rows h3).2.2.2.2.1
 induction d with
 | zero =>
  intro j hs t ci ch hj hh hi
  obtain ⟨x, i1, h1, e, hx, hi1⟩ := cur_below b hb ci ch 3 hi (by decide) (by decide)
  have hw : wrap64 (1 + x) = 1 + x := wrap_in (by omega) (by omega)
  obtain ⟨r, ci', ch', hE, hr⟩ := hosts_l2 b hb s t 3 0 hs i1 h1 rfl (hosted_mono hh (by omega)) hi1
  exact ⟨r, t, ci', ch', ev_step (fun k => spec_l15Hosts.l1.eq_2 _ _ _ _ _ _ _ k) (ev_call e (ev_neg (by show ¬ ((j + 1 : Nat) : Int) ≤ wrap64 (1 + x); rw [hw]; omega) hE)), hr⟩
 | succ d ih =>
  intro j hs t ci ch hj hh hi
  obtain ⟨x, i1, h1, e, hx, hi1⟩ := cur_below b hb ci ch 3 hi (by decide) (by decide)
  have hw : wrap64 (1 + x) = 1 + x := wrap_in (by omega) (by omega)
  by_cases c : ((j + 1 : Nat) : Int) ≤ 1 + x
  ·obtain ⟨y, i2, h2, e2, hy, hi2⟩ := cur_below b hb i1 h1 ((8 * mOf s : Nat) : Int) hi1 (by omega) (by omega)
   have hw2 : wrap64 (1 + y) = ((y.toNat + 1 : Nat) : Int) := by rw [wrap_in (by omega) (by omega)]; omega
   obtain ⟨u, i4, h4, e4, hu, hi4⟩ := cur_text b hb i2 h2 (y.toNat + 1) (by omega) hi2
   have hW := spec_WriteGroup_ev hs (tame_mono hh.2 (by omega)) s ((j + 1 : Nat) : Int) u
   have hh2 := writeT_hosted 7 (6 * j) hs s ((j + 1 : Nat) : Int) u hh
   have hw3 : wrap64 (((j + 1 : Nat) : Int) + 1) = ((j + 1 + 1 : Nat) : Int) := by rw [wrap_in (by omega) (by omega)]; rfl
   have fin : ∀ t2 : ByteArray, ∃ r t' ci' ch', Ev (fun k => spec_l15Hosts.l1 k (writeT hs s ((j + 1 : Nat) : Int) u).1 s t2 (wrap64 (((j + 1 : Nat) : Int) + 1)) b i4 h4) (r, s, 1, t', ci', ch') ∧ hosted 7 18 r := fun t2 => by
    rw [hw3]
    exact ih (j + 1) _ t2 i4 h4 (by omega) (hosted_mono hh2 (by omega)) hi4
   have top : ∀ {r : List ImHost × Int × Int × ByteArray × Int × Int}, Ev (fun k => if (writeT hs s ((j + 1 : Nat) : Int) u).2 = true then (if ((j + 1 : Nat) : Int) = 1 then (spec_l15Hosts.l1 k (writeT hs s ((j + 1 : Nat) : Int) u).1 s u (wrap64 (((j + 1 : Nat) : Int) + 1)) b i4 h4) else (spec_l15Hosts.l1 k (writeT hs s ((j + 1 : Nat) : Int) u).1 s t (wrap64 (((j + 1 : Nat) : Int) + 1)) b i4 h4)) else (spec_l15Hosts.l1 k (writeT hs s ((j + 1 : Nat) : Int) u).1 s t (wrap64 (((j + 1 : Nat) : Int) + 1)) b i4 h4)) r → Ev (fun k => spec_l15Hosts.l1 k hs s t ((j + 1 : Nat) : Int) b ci ch) r := fun hk => by
    refine ev_step (fun k => spec_l15Hosts.l1.eq_2 _ _ _ _ _ _ _ k) (ev_call e (ev_pos (by show ((j + 1 : Nat) : Int) ≤ wrap64 (1 + x); rw [hw]; exact c) (ev_call (groupSize h3).2 (ev_call e2 ?_))))
    simp only [hw2]
    exact ev_bind e4 (ev_bind hW hk)
   by_cases c4 : (writeT hs s ((j + 1 : Nat) : Int) u).2 = true
   ·by_cases c5 : ((j + 1 : Nat) : Int) = 1
    ·obtain ⟨r, t', ci', ch', hE, hr⟩ := fin u
     exact ⟨r, t', ci', ch', top (ev_pos c4 (ev_pos c5 hE)), hr⟩
    ·obtain ⟨r, t', ci', ch', hE, hr⟩ := fin t
     exact ⟨r, t', ci', ch', top (ev_pos c4 (ev_neg c5 hE)), hr⟩
   ·obtain ⟨r, t', ci', ch', hE, hr⟩ := fin t
    exact ⟨r, t', ci', ch', top (ev_neg c4 hE), hr⟩
  ·obtain ⟨r, ci', ch', hE, hr⟩ := hosts_l2 b hb s t 3 0 hs i1 h1 rfl (hosted_mono hh (by omega)) hi1
   exact ⟨r, t, ci', ch', ev_step (fun k => spec_l15Hosts.l1.eq_2 _ _ _ _ _ _ _ k) (ev_call e (ev_neg (by show ¬ ((j + 1 : Nat) : Int) ≤ wrap64 (1 + x); rw [hw]; exact c) hE)), hr⟩
theorem hosts_l0 (b : List Int) (hb : b.length ≤ 1048576) (d : Nat) : ∀ (j : Nat) (hs : List ImHost) (ci ch : Int), j + d = 7 → hosted j 0 hs → inB b ci →
  ∃ r s t ci' ch', Ev (fun k => spec_l15Hosts.l0 k hs ((j + 1 : Nat) : Int) b ci ch) (r, s, 1, t, ci', ch') ∧ (s = 1 ∨ s = 2 ∨ s = 3) ∧ hosted 7 18 r := by
 induction d with
 | zero =>
  intro j hs ci ch hj hh hi
  obtain rfl : j = 7 := by omega
  obtain ⟨x, i1, h1, e, hx, hi1⟩ := cur_below b hb ci ch 3 hi (by decide) (by decide)
  have hw : wrap64 (1 + x) = 1 + x := wrap_in (by omega) (by omega)
  have hs3 : 1 + x = 1 ∨ 1 + x = 2 ∨ 1 + x = 3 := by omega
  obtain ⟨r, t', ci', ch', hE, hr⟩ := hosts_l1 b hb hs3 3 0 hs ⟨#[]⟩ i1 h1 rfl hh hi1
  refine ⟨r, 1 + x, t', ci', ch', ev_step (fun k => spec_l15Hosts.l0.eq_2 _ _ _ _ _ k) (ev_neg (by omega) (ev_call e ?_)), hs3, hr⟩
  simp only [hw]
  exact hE
 | succ d ih =>
  intro j hs ci ch hj hh hi
  obtain ⟨x, i1, h1, e, hi1⟩ := cur_once b hb ci ch 12 hi (by decide) (by decide)
  have hl := hosted_len hh
  have hw : wrap64 (((j + 1 : Nat) : Int) + 1) = ((j + 1 + 1 : Nat) : Int) := by rw [wrap_in (by omega) (by omega)]; rfl
  obtain ⟨r, s, t, ci', ch', hE, h9⟩ := ih (j + 1) (hs ++ [⟨((j + 1 : Nat) : Int), !x, []⟩]) i1 h1 (by omega) ⟨by rw [List.map_append, hh.1, idsN_succ]; rfl, by simp; omega, fun y hy => by
   rcases List.mem_append.mp hy with hy | hy
   ·exact hh.2.2 y hy
   ·obtain rfl := List.mem_singleton.mp hy
    exact ⟨Nat.le_refl _, fun u hu => by cases hu⟩⟩ hi1
  refine ⟨r, s, t, ci', ch', ev_step (fun k => spec_l15Hosts.l0.eq_2 _ _ _ _ _ k) (ev_pos (by omega) (ev_call e (ev_pos (by omega) ?_))), h9⟩
  simp only [hw]
  exact hE
theorem draw_hosts (b : List Int) (hb : b.length ≤ 1048576) : ∃ r s t, Ev (fun k => spec_DrawHosts.f k b) (r, s, 1, t) ∧ (s = 1 ∨ s = 2 ∨ s = 3) ∧ hosted 7 18 r := by
 obtain ⟨h', eN⟩ := cur_new b hb
 obtain ⟨r, s, t, ci', ch', hE, h⟩ := hosts_l0 b hb 7 0 [] 0 h' rfl ⟨rfl, by decide, fun x hx => by cases hx⟩ ⟨Int.le_refl _, by omega⟩
 exact ⟨r, s, t, ev_bind eN (ev_bind hE (ev_some _)), h⟩
theorem few_short {B : Nat} {us : List ImUnit} (h : us.length ≤ B ∧ ∀ u ∈ us, u.f2.size ≤ 1048576) (hB : B ≤ 1000000) : shortU us := ⟨by have := h.1; omega, fun u hu => by have := h.2 u hu; omega⟩
theorem host_loop (b : List Int) (hb : b.length ≤ 1048576) (id : Int) (up : Bool) (d : Nat) : ∀ (j : Nat) (us : List ImUnit) (ci ch : Int), j + d = 6 → (us.length ≤ j ∧ ∀ u ∈ us, u.f2.size ≤ 1048576) → inB b ci →
  ∃ up' r ci' ch', Ev (fun k => spec_l14Host.l0 k (j : Int) b ci ch id up us) (id, up', r, ci', ch') := by
 have out : ∀ (j : Nat) (us : List ImUnit) (ci ch x i1 h1 : Int), (us.length ≤ 6 ∧ ∀ u ∈ us, u.f2.size ≤ 1048576) → spec_l01Below.f b ci ch 7 = some (x, i1, h1) → ¬ (j : Int) < x → inB b i1 → ∃ up' r ci' ch', Ev (fun k => spec_l14Host.l0 k (j : Int) b ci ch id up us) (id, up', r, ci', ch') := by
  intro j us ci ch x i1 h1 hu e c hi1
  obtain ⟨y, i2, h2, e2, hi2⟩ := cur_once b hb i1 h1 3 hi1 (by decide) (by decide)
  cases y with
  | true =>
   obtain ⟨p, i3, h3, e3, hp, hi3⟩ := cur_below b hb i2 h2 3 hi2 (by decide) (by decide)
   obtain ⟨q, i4, h4, e4, hq, hi4⟩ := cur_below b hb i3 h3 4 hi3 (by decide) (by decide)
   obtain ⟨a, i5, h5, e5, ha, hi5⟩ := cur_below b hb i4 h4 9 hi4 (by decide) (by decide)
   obtain ⟨z, i6, h6, e6, hi6⟩ := cur_once b hb i5 h5 6 hi5 (by decide) (by decide)
   exact ⟨_, _, _, _, ev_step (fun k => spec_l14Host.l0.eq_2 _ _ _ _ _ _ _ k) (ev_call e (ev_neg c (ev_call e2 (ev_pos rfl (ev_call e3 (ev_call e4 (ev_call e5 (ev_bind (spec_Spoil_ev id up us (few_short hu (by decide)) (by omega) (wrap64 (1 + p)) q a) (ev_call e6 (ev_some _))))))))))⟩
  | false =>
   obtain ⟨z, i6, h6, e6, hi6⟩ := cur_once b hb i2 h2 6 hi2 (by decide) (by decide)
   exact ⟨_, _, _, _, ev_step (fun k => spec_l14Host.l0.eq_2 _ _ _ _ _ _ _ k) (ev_call e (ev_neg c (ev_call e2 (ev_neg Bool.false_ne_true (ev_call e6 (ev_some _))))))⟩
 induction d with
 | zero =>
  intro j us ci ch hj hu hi
  obtain ⟨x, i1, h1, e, hx, hi1⟩ := cur_below b hb ci ch 7 hi (by decide) (by decide)
  exact out j us ci ch x i1 h1 ⟨by have := hu.1; omega, hu.2⟩ e (by omega) hi1
 | succ d ih =>
  intro j us ci ch hj hu hi
  obtain ⟨x, i1, h1, e, hx, hi1⟩ := cur_below b hb ci ch 7 hi (by decide) (by decide)
  by_cases c : (j : Int) < x
  ·obtain ⟨p, i2, h2, e2, hp, hi2⟩ := cur_below b hb i1 h1 3 hi1 (by decide) (by decide)
   obtain ⟨q, i3, h3, e3, hq, hi3⟩ := cur_below b hb i2 h2 4 hi2 (by decide) (by decide)
   obtain ⟨a, i4, h4, e4, ha, hi4⟩ := cur_below b hb i3 h3 5 hi3 (by decide) (by decide)
   obtain ⟨t, i5, h5, e5, ht, hi5⟩ := cur_text b hb i4 h4 a.toNat (by omega) hi4
   rw [show ((a.toNat : Nat) : Int) = a by omega] at e5
   have b1 : us.length < 1000000000000 := Nat.lt_of_le_of_lt hu.1 (Nat.lt_of_le_of_lt (show j ≤ 6 by omega) (by decide))
   have b3 : a.toNat ≤ 5 := by omega
   have b2 : t.size < 9223372036854775807 := Nat.lt_of_le_of_lt (ht ▸ b3) (by decide)
   have b4 : t.size ≤ 1048576 := Nat.le_trans (ht ▸ b3) (by decide)
   have hp2 := put_tame (B := j) id up (wrap64 (1 + p)) q t b4 hu
   obtain ⟨up', r, ci', ch', hE⟩ := ih (j + 1) (putT id up us (wrap64 (1 + p)) q t).1 i5 h5 (by omega) hp2 hi5
   have hw : wrap64 ((j : Int) + 1) = ((j + 1 : Nat) : Int) := (wrap_in (by omega) (by omega)).trans rfl
   refine ⟨up', r, ci', ch', ev_step (fun k => spec_l14Host.l0.eq_2 _ _ _ _ _ _ _ k) (ev_call e (ev_pos c (ev_call e2 (ev_call e3 (ev_call e4 (ev_bind e5 (ev_bind (spec_PutUnit_ev id up us b1 (wrap64 (1 + p)) q t 0 b2) ?_)))))))⟩
   rw [hw]
   exact hE
  ·exact out j us ci ch x i1 h1 ⟨by have := hu.1; omega, hu.2⟩ e c hi1
theorem draw_host (b : List Int) (hb : b.length ≤ 1048576) : ∃ r, Ev (fun k => spec_DrawHost.f k b) r := by
 obtain ⟨h', eN⟩ := cur_new b hb
 obtain ⟨x, i1, h1, e, hx, hi1⟩ := cur_below b hb 0 h' 7 ⟨Int.le_refl _, by omega⟩ (by decide) (by decide)
 obtain ⟨up', r, ci', ch', hE⟩ := host_loop b hb (wrap64 (1 + x)) true 6 0 [] i1 h1 rfl ⟨Nat.le_refl _, fun u hu => by cases hu⟩ hi1
 exact ⟨_, ev_bind eN (ev_bind (ev_call e hE) (ev_some _))⟩
def trues : List Bool → Nat
 | [] => 0
 | b :: s => (if b = true then 1 else 0) + trues s
theorem trues_le (s : List Bool) : trues s ≤ s.length := by
 induction s with
 | nil => simp [trues]
 | cons b s ih => simp [trues]; split <;> omega
theorem impl_LeftOf_loop (m : Int) (s : List Bool) : ∀ (p : List Bool) (n : Int), m = ((p ++ s).length : Int) → 0 ≤ n → n + s.length < 9223372036854775807 → p.length + s.length < 9223372036854775807 → Ev (fun k => impl_LeftOf.l0 k n (p ++ s) m (p.length : Int)) (n + (trues s : Int)) := by
 induction s with
 | nil => intro p n hm h0 h1 hl; exact ev_step (fun k => impl_LeftOf.l0.eq_2 _ _ _ _ k) (ev_neg (by simp at hm; omega) (ev_eq (ev_some _) (by simp [trues])))
 | cons x s ih =>
  intro p n hm h0 h1 hl
  simp at hl h1 hm
  refine ev_step (fun k => impl_LeftOf.l0.eq_2 _ _ _ _ k) (ev_pos (by omega) (ev_pos (by omega) (ev_pos (by simp; omega) ?_)))
  have e : wrap64 ((p.length : Int) + 1) = (p.length : Int) + 1 := wrap_in (by omega) (by omega)
  have e1 : wrap64 (n + 1) = n + 1 := wrap_in (by omega) (by omega)
  have er : rdOf false (p ++ x :: s) (p.length : Int) = x := by unfold rdOf; exact getD_mid' _ _ _ _ _ rfl
  simp only [er, e, e1]
  by_cases c : x = true
  ·refine ev_pos c (ev_eq (by simpa using ih (p ++ [x]) (n + 1) (by simp; omega) (by omega) (by omega) (by simp; omega)) ?_)
   simp [trues, c]; omega
  ·refine ev_neg c (ev_eq (by simpa using ih (p ++ [x]) n (by simp; omega) (by omega) (by omega) (by simp; omega)) ?_)
   simp [trues, c]
def leftOf (hs : List ImHost) (s g : Int) : Int := (trues (unitsOf hs s g).2 : Int)
theorem unitsOf_len (hs : List ImHost) (s g : Int) : (unitsOf hs s g).2.length ≤ 6 := by
 have := many_le s
 simp [unitsOf, fromU_length]
 omega
theorem impl_LeftOf_ev (hs : List ImHost) (hh : shortH hs) (s g : Int) : Ev (fun k => impl_LeftOf.f k hs s g) (leftOf hs s g) := by
 unfold impl_LeftOf.f
 refine ev_bind (impl_UnitsOf_ev hs hh s g) ?_
 have := unitsOf_len hs s g
 have h := impl_LeftOf_loop _ (unitsOf hs s g).2 [] 0 rfl (by omega) (by omega) (by simp; omega)
 simpa [leftOf] using h
end Go.Proofs.Ytaejgompckpmfaa.Pu
namespace Go.Proofs.Ytaejgompckpmfaa.Pu
open Go.RowKit Go.Proofs.YtaejgompckpmfaaW.PrintWords Go.Proofs.Ytaejgompckpmfaa.Pr Go.Proofs.Ytaejgompckpmfaa.Evs
theorem sameTexts_loop (l : List ByteArray) (hl : l.length < 1000000) : ∀ (d i : Nat), i + d = l.length → Ev (fun k => laws_sameTexts.l0 k l l (i : Int)) true := by
 intro d
 induction d with
 | zero => intro i hi; exact ev_step (fun k => laws_sameTexts.l0.eq_2 _ _ _ k) (ev_neg (by omega) (ev_some _))
 | succ d ih =>
  intro i hi
  have e : wrap64 ((i : Int) + 1) = ((i + 1 : Nat) : Int) := by rw [wrap_in (by omega) (by omega)]; rfl
  refine ev_step (fun k => laws_sameTexts.l0.eq_2 _ _ _ k) (ev_pos (by omega) (ev_pos (by omega) (ev_pos (by omega) (ev_pos rfl ?_))))
  rw [e]
  exact ih (i + 1) (by omega)
theorem sameTexts_ev (l : List ByteArray) (hl : l.length < 1000000) : Ev (fun k => laws_sameTexts.f k l l) true := by
 unfold laws_sameTexts.f
 exact ev_pos rfl (sameTexts_loop l hl l.length 0 (by omega))
theorem sameBools_loop (l : List Bool) (hl : l.length < 1000000) : ∀ (d i : Nat), i + d = l.length → Ev (fun k => laws_sameBools.l0 k l l (i : Int)) true := by
 intro d
 induction d with
 | zero => intro i hi; exact ev_step (fun k => laws_sameBools.l0.eq_2 _ _ _ k) (ev_neg (by omega) (ev_some _))
 | succ d ih =>
  intro i hi
  have e : wrap64 ((i : Int) + 1) = ((i + 1 : Nat) : Int) := by rw [wrap_in (by omega) (by omega)]; rfl
  refine ev_step (fun k => laws_sameBools.l0.eq_2 _ _ _ k) (ev_pos (by omega) (ev_pos (by omega) (ev_pos (by omega) (ev_neg (by simp) ?_))))
  rw [e]
  exact ih (i + 1) (by omega)
theorem sameBools_ev (l : List Bool) (hl : l.length < 1000000) : Ev (fun k => laws_sameBools.f k l l) true := by
 unfold laws_sameBools.f
 exact ev_pos rfl (sameBools_loop l hl l.length 0 (by omega))
end Go.Proofs.Ytaejgompckpmfaa.Pu
namespace Go.Proofs.Ytaejgompckpmfaa.Pure
open Go.RowKit Go.Proofs.YtaejgompckpmfaaW.PrintWords Go.Proofs.Ytaejgompckpmfaa.Pr Go.Proofs.Ytaejgompckpmfaa.Evs Go.Proofs.Ytaejgompckpmfaa.Lw Go.Proofs.Ytaejgompckpmfaa.Pu Go.Proofs.Ytaejgompckpmfaa.SFnUnitsOf
theorem fromU_get (hs : List ImHost) (g : Int) (d : Nat) : ∀ (i j : Nat) (h : j < (fromU hs g i d).length), (fromU hs g i d)[j] = firstU hs g ((i + j : Nat) : Int) := by
 induction d with
 | zero => intro i j h; cases h
 | succ d ih =>
  intro i j h
  cases j with
  | zero => rfl
  | succ j =>
   have := ih (i + 1) j (by simpa [fromU] using h)
   rw [show i + (j + 1) = i + 1 + j by omega, ← this]
   rfl
theorem trues_app (a b : List Bool) : trues (a ++ b) = trues a + trues b := by
 induction a with
 | nil => simp [trues]
 | cons x s ih => simp only [List.cons_append, trues, ih]; omega
theorem law_l1 (b : List Int) (hs : List ImHost) (hh : shortH hs) (s g : Int) (L W : List ByteArray) (V M : List Bool) (n : Int) (i : Nat) (hiL : i < L.length) (hiV : i < V.length)
  (hT : Ev (fun k => laws_FnUnitsOf.l0 k b hs s g L V W M (if V[i] = true then wrap64 (n + 1) else n) (wrap64 ((i : Int) + 1))) true) (z : List ImHost) : ∀ (p : List ImHost) (fl : Bool), p ++ z = hs → (V[i] = true → fl = true ∨ firstU z g (i : Int) = (L[i], true)) →
  Ev (fun k => laws_FnUnitsOf.l1 k b hs s g L V W M n (i : Int) fl (p.length : Int)) true := by
 have e3 : rdOf false V (i : Int) = V[i] := by show V.getD i _ = _; rw [List.getD_eq_getElem?_getD, List.getElem?_eq_getElem hiV]; rfl
 have e4 : rdOf ByteArray.empty L (i : Int) = L[i] := by show L.getD i _ = _; rw [List.getD_eq_getElem?_getD, List.getElem?_eq_getElem hiL]; rfl
 have hl := hh.1
 induction z with
 | nil =>
  intro p fl hp hf
  rw [List.append_nil] at hp
  subst hp
  refine ev_step (fun k => laws_FnUnitsOf.l1.eq_2 _ _ _ _ _ _ _ _ _ _ _ _ k) (ev_neg (by omega) (ev_pos (by omega) (ev_pos (by omega) ?_)))
  rw [e3]
  by_cases c : V[i] = true
  ·rw [if_pos c] at hT
   have hfl : fl = true := (hf c).resolve_right (fun h => by rw [firstU] at h; exact Bool.noConfusion (congrArg Prod.snd h))
   exact ev_pos c (ev_pos hfl hT)
  ·rw [if_neg c] at hT
   exact ev_neg c hT
 | cons x z ih =>
  intro p fl hp hf
  have hlp : p.length < hs.length := by rw [← hp]; simp
  have hx : rd_T35 hs (p.length : Int) = x := by rw [← hp]; exact rd35 p z x
  have hxs : shortU x.f2 := hh.2 x (by rw [← hp]; simp)
  have e : wrap64 ((p.length : Int) + 1) = ((p ++ [x]).length : Int) := by rw [wrap_in (by omega) (by omega), List.length_append]; rfl
  refine ev_step (fun k => laws_FnUnitsOf.l1.eq_2 _ _ _ _ _ _ _ _ _ _ _ _ k) (ev_pos (by omega) (ev_pos (by omega) ?_))
  simp only [hx, e]
  refine ev_bind (spec_GetUnit_ev x.f0 x.f1 x.f2 g (i : Int) hxs) ?_
  have hp2 : (p ++ [x]) ++ z = hs := by rw [List.append_assoc]; exact hp
  by_cases c1 : fl = true
  ·exact ev_pos c1 (ih (p ++ [x]) true hp2 (fun _ => .inl rfl))
  ·refine ev_neg c1 ?_
   by_cases c2 : (getUnit x.f1 x.f2 g (i : Int)).2 = true
   ·refine ev_pos c2 (ev_pos (by omega) (ev_pos (by omega) (ih (p ++ [x]) _ hp2 (fun hv => .inl ?_))))
    have h := (hf hv).resolve_left c1
    rw [firstU, if_pos c2] at h
    rw [e4, h]
    exact beq_self_eq_true _
   ·refine ev_neg c2 (ih (p ++ [x]) false hp2 (fun hv => .inr ?_))
    have h := (hf hv).resolve_left c1
    rw [firstU, if_neg c2] at h
    exact h
theorem law_l0 (b : List Int) (hb : b.length ≤ 1048576) (hs : List ImHost) (hh : shortH hs) (s g : Int) (h3 : 0 < many s) : ∀ (d i : Nat), i + d = many s →
  Ev (fun k => laws_FnUnitsOf.l0 k b hs s g (unitsOf hs s g).1 (unitsOf hs s g).2 (unitsOf hs s g).1 (unitsOf hs s g).2 (trues ((unitsOf hs s g).2.take i) : Int) (i : Int)) true := by
 have hm := many_le s
 have hl1 : (unitsOf hs s g).1.length = many s := by simp [unitsOf, fromU_length]
 have hl2 : (unitsOf hs s g).2.length = many s := by simp [unitsOf, fromU_length]
 intro d
 induction d with
 | zero =>
  intro i hi
  obtain ⟨⟨a0, a1, a2⟩, hD⟩ := draw_host b hb
  refine ev_step (fun k => laws_FnUnitsOf.l0.eq_2 _ _ _ _ _ _ _ _ _ _ k) (ev_neg (by omega) (ev_bind hD (ev_bind (sameTexts_ev _ (by omega)) (ev_pos rfl (ev_bind (sameBools_ev _ (by omega)) (ev_pos rfl (ev_bind (impl_LeftOf_ev hs hh s g) (ev_pos ?_ (ev_call rfl (ev_pos rfl (ev_eq (ev_some _) ?_)))))))))))
  ·rw [List.take_of_length_le (by omega)]
   rfl
  ·exact decide_eq_true (by omega)
 | succ d ih =>
  intro i hi
  have hiV : i < (unitsOf hs s g).2.length := by omega
  have hiL : i < (unitsOf hs s g).1.length := by omega
  have hih := ih (i + 1) (by omega)
  have e : wrap64 ((i : Int) + 1) = ((i + 1 : Nat) : Int) := by rw [wrap_in (by omega) (by omega)]; rfl
  have ht := trues_le ((unitsOf hs s g).2.take i)
  have ht2 := List.length_take_le i (unitsOf hs s g).2
  rw [List.take_succ_eq_append_getElem hiV, trues_app] at hih
  have hf : firstU hs g (i : Int) = ((unitsOf hs s g).1[i], (unitsOf hs s g).2[i]) := by
   have := fromU_get hs g (many s) 0 i (by rw [fromU_length]; omega)
   rw [Nat.zero_add] at this
   simp only [unitsOf, List.getElem_map, this]
  refine ev_step (fun k => laws_FnUnitsOf.l0.eq_2 _ _ _ _ _ _ _ _ _ _ k) (ev_pos (by omega) ?_)
  have := law_l1 b hs hh s g (unitsOf hs s g).1 (unitsOf hs s g).1 (unitsOf hs s g).2 (unitsOf hs s g).2 (trues ((unitsOf hs s g).2.take i) : Int) i hiL hiV ?_ hs [] false rfl (fun hv => .inr (by rw [hf, hv]))
  ·exact this
  ·rw [e]
   by_cases c : (unitsOf hs s g).2[i] = true
   ·rw [if_pos c, wrap_in (by omega) (by omega)]
    rw [show ((trues (List.take i (unitsOf hs s g).2) + trues [(unitsOf hs s g).2[i]] : Nat) : Int) = (trues (List.take i (unitsOf hs s g).2) : Int) + 1 by simp [trues, c]] at hih
    exact hih
   ·rw [if_neg c]
    rw [show ((trues (List.take i (unitsOf hs s g).2) + trues [(unitsOf hs s g).2[i]] : Nat) : Int) = (trues (List.take i (unitsOf hs s g).2) : Int) by simp [trues, c]] at hih
    exact hih
theorem FnUnitsOf : SFnUnitsOf.Pure := by
 intro b hl
 apply ev_rounds
 unfold laws_FnUnitsOf.f
 by_cases c : (b.length : Int) > 1048576
 ·exact ev_call rfl (ev_pos (decide_eq_true c) (ev_some _))
 ·refine ev_call rfl (ev_neg (by simpa using c) ?_)
  have hb2 : b.length ≤ 1048576 := by omega
  obtain ⟨hs, s, t, hD, h3, hh⟩ := draw_hosts b hb2
  have hsh := tame_short hh.2 (by decide)
  have h0 : 0 < many s := by rcases h3 with rfl | rfl | rfl <;> decide
  refine ev_bind hD (ev_bind (impl_UnitsOf_ev hs hsh s 1) (ev_bind (spec_UnitsOf_ev hs hsh s 1) ?_))
  exact law_l0 b hb2 hs hsh s 1 h0 (many s) 0 (by omega)
end Go.Proofs.Ytaejgompckpmfaa.Pure
