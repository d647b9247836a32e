/- A part of the proof of the law FnExactReadGroup: its texts, one behind the other. -/
import Derived.ChangeArms
import Derived.Deep.Slices
import Derived.Laws.BitsLemmas
import Derived.WideShapes
import Derived.Test.YtahimindlnkmoaaBFnExactReadGroup1
import Derived.Test.YtahimindlnkmoaaBFnExactReadGroup2
import Derived.Test.YtahimindlnkmoaaBFnExactReadGroup3
import Derived.Test.YtahimindlnkmoaaBFnExactReadGroup4
import Derived.Test.YtahimindlnkmoaaBFnExactReadGroup5
namespace Go.Proofs.Ytahimindlnkmoaa.Pr
open Go.RowKit Go.Proofs.YtahimindlnkmoaaW.PrintWords Go.Proofs.YtahimindlnkmoaaW.PrintLast Go.Proofs.YtahimindlnkmoaaW.PrintMore
attribute [local go_sem] max2_int min2_int max_two min_two max_three min_three max_four min_four
set_option linter.unusedVariables false
set_option linter.unusedSimpArgs false
mutual
def impl_Decode.j0 : Nat → Int → List ByteArray → List Bool → Int → Bool → Option (List ByteArray × Bool)
 | 0, _, _, _, _, _ => none
 | k + 1, x0, x1, x2, x8, x40 => if x40 = true then (some (([] : List ByteArray), false)) else ((impl_CodeOf.f k x0).bind fun t456 => (impl_Decode.l0 k x1 x8 t456 ([] : List (List Int)) ([] : List ByteArray) x2 (x2.length : Int) 0))
def impl_Decode.l0 : Nat → List ByteArray → Int → List (List Int) → List (List Int) → List ByteArray → List Bool → Int → Int → Option (List ByteArray × Bool)
 | 0, _, _, _, _, _, _, _, _ => none
 | k + 1, x1, x8, x11, x12, x13, x43, x44, x45 => if x45 < x44 then (if 0 ≤ x45 then (if x45 < (x43.length : Int) then (if rdOf false x43 x45 = true then (if (x13.length : Int) > 0 then (if x45 < (x1.length : Int) then (if 0 < (x13.length : Int) then (if ((rdOf ByteArray.empty x1 x45).size : Int) = ((rdOf ByteArray.empty x13 0).size : Int) then (if x45 < (x11.length : Int) then ((some (([rd_L9 x11 x45] : List (List Int)) : List (List Int))).bind fun y463 => (if x12.length + y463.length < 5864062014805 then ((some (([rdOf ByteArray.empty x1 x45] : List ByteArray) : List ByteArray)).bind fun y470 => (if x13.length + y470.length < 8796093022208 then (impl_Decode.l0 k x1 x8 x11 (x12 ++ y463) (x13 ++ y470) x43 x44 (wrap64 (x45 + 1))) else (none))) else (none))) else (none)) else (some (([] : List ByteArray), false))) else (none)) else (none)) else (if x45 < (x11.length : Int) then ((some (([rd_L9 x11 x45] : List (List Int)) : List (List Int))).bind fun y477 => (if x12.length + y477.length < 5864062014805 then (if x45 < (x1.length : Int) then ((some (([rdOf ByteArray.empty x1 x45] : List ByteArray) : List ByteArray)).bind fun y484 => (if x13.length + y484.length < 8796093022208 then (impl_Decode.l0 k x1 x8 x11 (x12 ++ y477) (x13 ++ y484) x43 x44 (wrap64 (x45 + 1))) else (none))) else (none)) else (none))) else (none))) else (impl_Decode.l0 k x1 x8 x11 x12 x13 x43 x44 (wrap64 (x45 + 1)))) else (none)) else (none)) else (if (x13.length : Int) < x8 then (some (([] : List ByteArray), false)) else (if 0 ≤ x8 then (if x8 ≤ (x12.length : Int) then ((impl_InvM.f k (x12.take (x8 : Int).toNat)).bind fun bt495 => (if bt495.2 = true then (if x8 ≤ (x13.length : Int) then ((impl_ApplyM.f k bt495.1 (x13.take (x8 : Int).toNat)).bind fun t504 => (some (t504, true))) else (none)) else (some (([] : List ByteArray), false)))) else (none)) else (none)))
end
def impl_Decode.f (k : Nat) (a0 : Int) (l1 : List ByteArray) (l2 : List Bool) : Option (List ByteArray × Bool) := (impl_SchemaOf.f a0).bind fun bt453 => (if bt453.2.2 = true then (if (l1.length : Int) = (wrap64 (bt453.1 + bt453.2.1)) then (impl_Decode.j0 k a0 l1 l2 bt453.1 ((l2.length : Int) != (wrap64 (bt453.1 + bt453.2.1)))) else (impl_Decode.j0 k a0 l1 l2 bt453.1 true)) else (impl_Decode.j0 k a0 l1 l2 bt453.1 true))
def impl_Decode.T11 : Bool × List (List Nat × List Nat) := (true, [([], []), ([0], [0]), ([1], [1]), ([2], [2]), ([3], [3]), ([3], [3]), ([4, 5, 3], [3, 4, 5]), ([6, 3], [3, 6]), ([7, 3], [3, 7]), ([3], [3]), ([9, 3], [3, 9]), ([10, 3], [3, 10]), ([11, 3], [3, 11]), ([8, 12, 3], [3, 8, 12]), ([3, 13], [3, 13])])
def impl_Decode.B11 : List Nat := [0, 1, 3, 7, 15, 15, 63, 127, 255, 15, 527, 1551, 3599, 8191, 16383]
theorem impl_Decode.tab11 : rtab .any (opsOf Try.f15 11) = impl_Decode.T11 := by kernel_rfl
theorem impl_Decode.bits11 : waitsOk impl_Decode.T11.2 impl_Decode.B11 = true := by kernel_rfl
def impl_Decode.T13 : Bool × List (List Nat × List Nat) := (true, [([], []), ([], []), ([], []), ([1, 2], [1, 2]), ([3], [3]), ([4], [4]), ([0, 5], [0, 5]), ([], []), ([], []), ([], []), ([8, 9], [8, 9]), ([10], [10]), ([11], [11]), ([7, 12, 6], [7, 12]), ([6, 13, 0, 1, 2, 3, 4, 5, 6], [0, 6]), ([13, 14, 0, 1, 2, 3, 4, 5, 6, 7, 8, 9, 10, 11, 12, 13, 14], [7, 13])])
def impl_Decode.B13 : List Nat := [0, 0, 0, 6, 14, 30, 63, 0, 0, 0, 768, 1792, 3840, 8191, 16383, 32767]
theorem impl_Decode.tab13 : rtab .any (opsOf Try.f15 13) = impl_Decode.T13 := by kernel_rfl
theorem impl_Decode.bits13 : waitsOk impl_Decode.T13.2 impl_Decode.B13 = true := by kernel_rfl
set_option maxHeartbeats 8000000 in
set_option maxRecDepth 100000 in
theorem impl_Decode.calls (k : Nat) (a0 : Int) (A1 : Option Addr) (c1 : Nat) (l1 : List ByteArray) (A2 : Option Addr) (c2 : Nat) (l2 : List Bool) (r1 : List ByteArray) (r2 : Bool) (w : World) (hr1 : Kd.C Kd.string w A1 l1.length l1) (hc1 : l1.length ≤ c1) (hr2 : Kd.C Kd.bool w A2 l2.length l2) (hc2 : l2.length ≤ c2) (h : impl_Decode.f k a0 l1 l2 = some (r1, r2)) :
  Calls Try.prog 15 #[.int .i64 a0, .slice A1 l1.length c1, .slice A2 l2.length c2] w fun e w' => ∃ v0_ : Value, e = .returned (.tuple #[v0_, .bool r2]) ∧ Kd.R Kd.string 9 w' w.heap.size (fun _ => True) v0_ r1 ∧ Below w.heap.size w w' := by
 have HR1 := Aside0.mk hr1
 have HC1 := Aside0.mk hc1
 clear hr1 hc1
 have HR2 := Aside0.mk hr2
 have HC2 := Aside0.mk hc2
 clear hr2 hc2
 have HB := Aside0.mk (Below.refl w.heap.size w)
 have H : ((impl_SchemaOf.f a0).bind fun bt453 => (if bt453.2.2 = true then (if (l1.length : Int) = (wrap64 (bt453.1 + bt453.2.1)) then (impl_Decode.j0 k a0 l1 l2 bt453.1 ((l2.length : Int) != (wrap64 (bt453.1 + bt453.2.1)))) else (impl_Decode.j0 k a0 l1 l2 bt453.1 true)) else (impl_Decode.j0 k a0 l1 l2 bt453.1 true))) = some (r1, r2) := h
 clear h
 replace H := Option.bind_eq_some_iff.mp H
 obtain ⟨⟨t453, t454, t455⟩, A40, H⟩ := H
 replace H : (if t455 = true then (if (l1.length : Int) = (wrap64 (t453 + t454)) then (impl_Decode.j0 k a0 l1 l2 t453 ((l2.length : Int) != (wrap64 (t453 + t454)))) else (impl_Decode.j0 k a0 l1 l2 t453 true)) else (impl_Decode.j0 k a0 l1 l2 t453 true)) = some (r1, r2) := H
 have A4 := Aside0.mk A40
 clear A40
 have HC5 := Aside0.mk H
 clear H
 go_enter Try.func15, Try.ntmps15
 go_upto_region 2 with (first | ((with_reducible refine gate_callee (f := 28) rfl ?_); refine GL (some 19) rfl rfl Try.func28 #[.int .i64 a0] rfl ?_; (with_reducible refine (impl_SchemaOf.calls a0 t453 t454 t455 _ A4.out).mono ?_); rintro e w' ⟨rfl, ⟨nd, rfl⟩⟩; refine ⟨_, rfl, ?_⟩))
 (try simp only [Act.put, List.setIfInBounds_toArray, List.set_cons_zero, List.set_cons_succ])
 go_cut [40] (fun v40 wc => ∃ (kq : Nat) (x40_4 : Bool), v40 = .bool x40_4 ∧ Aside0 (impl_Decode.j0 kq a0 l1 l2 t453 x40_4 = some (r1, r2)) ∧ Aside0 (kq ≤ k) ∧ Aside0 (Below w.heap.size w wc))
 case first =>
  have H := HC5.out
  clear HC5
  by_cases c6 : t455 = true
  ·subst c6
   have H1 : (if (l1.length : Int) = (wrap64 (t453 + t454)) then (impl_Decode.j0 k a0 l1 l2 t453 ((l2.length : Int) != (wrap64 (t453 + t454)))) else (impl_Decode.j0 k a0 l1 l2 t453 true)) = some (r1, r2) := by rw [if_pos rfl] at H; exact H
   clear H
   have H := H1
   clear H1
   by_cases c7 : (l1.length : Int) = (wrap64 (t453 + t454))
   ·rw [if_pos c7] at H
    have c7b0 : ((l1.length : Int) == (wrap64 (t453 + t454))) = true := beq_iff_eq.mpr c7
    have c7b1 : ((l1.length : Int) != (wrap64 (t453 + t454))) = false := bne_eq_false_iff_eq.mpr c7
    clear c7
    (first | rw [c7b0] | (simp only [i64_w, i32_w]; rw [c7b0]) | skip)
    have H' := Aside0.mk H
    clear H
    go_wp2
    go_meet
    case rel => exact ⟨_, (((l2.length : Int) != (wrap64 (t453 + t454)))), FR, H', ⟨by first | omega | exact Nat.le_refl _⟩, ⟨(BB HB.out)⟩⟩
   ·rw [if_neg c7] at H
    have c7b0 : ((l1.length : Int) == (wrap64 (t453 + t454))) = false := beq_eq_false_iff_ne.mpr c7
    have c7b1 : ((l1.length : Int) != (wrap64 (t453 + t454))) = true := bne_iff_ne.mpr c7
    (first | rw [c7b0] | (simp only [i64_w, i32_w]; rw [c7b0]) | skip)
    have H' := Aside0.mk H
    clear H
    go_wp2
    go_meet
    case rel => exact ⟨_, (true), FR, H', ⟨by first | omega | exact Nat.le_refl _⟩, ⟨(BB HB.out)⟩⟩
  ·replace c6 := Bool.eq_false_iff.mpr c6
   subst c6
   have H1 : (impl_Decode.j0 k a0 l1 l2 t453 true) = some (r1, r2) := by rw [if_neg (show ¬ (false = true) by decide)] at H; exact H
   clear H
   have H := H1
   clear H1
   have H' := Aside0.mk H
   clear H
   go_wp2
   go_meet
   case rel => exact ⟨_, (true), FR, H', ⟨by first | omega | exact Nat.le_refl _⟩, ⟨(BB HB.out)⟩⟩
 case rest =>
  clear HC5
  try clear c1
  try clear c2
  try clear p2
  try clear c6
  try clear p6
  try clear c7
  try clear c7b0
  try clear c7b1
  obtain ⟨kq, x40_4, rfl, HA, HJ4, HB⟩ := hcut
  cases kq with
  | zero => exact absurd HA.out (by simp [impl_Decode.j0])
  | succ kj4 =>
   have H := HA.out
   clear HA
   simp only [impl_Decode.j0] at H
   by_cases c8 : x40_4 = true
   ·subst c8
    have H1 : (some (([] : List ByteArray), false)) = some (r1, r2) := by rw [if_pos rfl] at H; exact H
    clear H
    have H := H1
    clear H1
    simp only [Option.some.injEq, Prod.mk.injEq] at H
    obtain ⟨rfl, rfl⟩ := H
    go_wp2
    go_ret2
    exact ⟨_, ER, by first | exact Kd.R_nil _ _ _ _ _ | exact Kd.N_nil _ _ _ _ _ | exact Kd.V_nil _ _ _ _ _ | exact Kd.Q_nil _ _ _ _ _ | exact Kd.S_nil _ _ _ _ _, (BB HB.out)⟩
   ·replace c8 := Bool.eq_false_iff.mpr c8
    subst c8
    have H1 : ((impl_CodeOf.f kj4 a0).bind fun t456 => (impl_Decode.l0 kj4 l1 t453 t456 ([] : List (List Int)) ([] : List ByteArray) l2 (l2.length : Int) 0)) = some (r1, r2) := by rw [if_neg (show ¬ (false = true) by decide)] at H; exact H
    clear H
    have H := H1
    clear H1
    replace H := Option.bind_eq_some_iff.mp H
    obtain ⟨t456, A90, H⟩ := H
    replace H : (impl_Decode.l0 kj4 l1 t453 t456 ([] : List (List Int)) ([] : List ByteArray) l2 (l2.length : Int) 0) = some (r1, r2) := H
    have A9 := Aside0.mk A90
    clear A90
    have H' := Aside0.mk H
    clear H
    go_wp2_with (first | ((with_reducible refine gate_callee (f := 30) rfl ?_); refine GL (some 42) rfl rfl Try.func30 #[.int .i64 a0] rfl ?_; (with_reducible refine (impl_CodeOf.calls kj4 a0 t456 _ A9.out).mono ?_); rintro e w10 ⟨v457, rfl, ho0, hb⟩; refine ⟨_, rfl, ?_⟩; have HO458 := Aside0.mk (Kd.N_lower (Kd.N_mono (ok' := fun k_ => True) (Kd.S_N (Kd.S_bound ho0)) (fun k_ hk_ => trivial)) (below_size (BB HB.out))); replace HB := Aside0.mk (below_step (BB HB.out) hb); (try clear hb); (try clear ho0)))
    go_loopg [12, 13, 45] kj4 (fun kq v12 v13 v45 w' => ∃ (x12_2 : List (List Int)) (x13_2 : List ByteArray) (x45_2 : Int), v45 = .int .i64 x45_2 ∧ Aside0 (impl_Decode.l0 kq l1 t453 t456 x12_2 x13_2 l2 (l2.length : Int) x45_2 = some (r1, r2)) ∧ Aside0 (kq ≤ kj4) ∧ Aside0 (Kd.N (Kd.slice 3 (Kd.int .i64)) 52 w' w.heap.size (fun k_ => some k_ ≠ (v12 : Value).ownBlock ∧ some k_ ≠ (v13 : Value).ownBlock) v457 t456) ∧ Aside0 (Kd.N (Kd.slice 3 (Kd.int .i64)) 52 w' w.heap.size (fun k_ => some k_ ≠ (v457 : Value).ownBlock ∧ some k_ ≠ (v13 : Value).ownBlock) v12 x12_2) ∧ Aside0 (Kd.R Kd.string 9 w' w.heap.size (fun _ => True) v13 x13_2) ∧ Aside0 (Below w.heap.size w w'))
    case atStart => exact ⟨(([] : List (List Int))), (([] : List ByteArray)), (0), FR, H', ⟨Nat.le_refl _⟩, ⟨by (with_reducible repeat (first | apply Kd.N_alloc | apply Kd.N_drewN | apply Kd.N_drew)); exact Kd.N_mono HO458.out (fun _ hk => ⟨(by simp [Value.ownBlock]), (by simp [Value.ownBlock])⟩)⟩, ⟨by first | exact Kd.S_nil _ _ _ _ _ | exact Kd.N_nil _ _ _ _ _ | exact Kd.V_nil _ _ _ _ _ | exact Kd.Q_nil _ _ _ _ _ | exact Kd.R_nil _ _ _ _ _⟩, ⟨by first | exact Kd.R_nil _ _ _ _ _ | exact Kd.N_nil _ _ _ _ _ | exact Kd.V_nil _ _ _ _ _ | exact Kd.Q_nil _ _ _ _ _ | exact Kd.S_nil _ _ _ _ _⟩, ⟨(BB HB.out)⟩⟩
    case round =>
     clear H'
     try clear c1
     try clear c2
     try clear p2
     try clear c3
     try clear c6
     try clear p6
     try clear c7
     try clear c7b0
     try clear c7b1
     try clear c8
     try clear p2
     try clear p6
     obtain ⟨x12_2, x13_2, x45_2, rfl, HA, HK2, HO_11, HO_12, HO_13, HB⟩ := hrel
     cases gk with
     | zero => exact absurd HA.out (by simp [impl_Decode.l0])
     | succ k2 =>
      have H := HA.out
      clear HA
      simp only [impl_Decode.l0] at H
      by_cases c11 : x45_2 < (l2.length : Int)
      ·rw [if_pos c11] at H
       have c11b0 : decide (x45_2 < (l2.length : Int)) = true := decide_eq_true c11
       clear c11
       by_cases c12 : 0 ≤ x45_2
       ·rw [if_pos c12] at H
        have c12b0 : decide (0 ≤ x45_2) = true := decide_eq_true c12
        clear c12
        by_cases c13 : x45_2 < (l2.length : Int)
        ·rw [if_pos c13] at H
         have c13b0 : decide (x45_2 < (l2.length : Int)) = true := decide_eq_true c13
         clear c13
         obtain ⟨bq14, hbq14⟩ : ∃ b_ : Bool, b_ = (rdOf false l2 x45_2) := ⟨_, rfl⟩
         replace H : (if bq14 = true then (if (x13_2.length : Int) > 0 then (if x45_2 < (l1.length : Int) then (if 0 < (x13_2.length : Int) then (if ((rdOf ByteArray.empty l1 x45_2).size : Int) = ((rdOf ByteArray.empty x13_2 0).size : Int) then (if x45_2 < (t456.length : Int) then ((some (([rd_L9 t456 x45_2] : List (List Int)) : List (List Int))).bind fun y463 => (if x12_2.length + y463.length < 5864062014805 then ((some (([rdOf ByteArray.empty l1 x45_2] : List ByteArray) : List ByteArray)).bind fun y470 => (if x13_2.length + y470.length < 8796093022208 then (impl_Decode.l0 k2 l1 t453 t456 (x12_2 ++ y463) (x13_2 ++ y470) l2 (l2.length : Int) (wrap64 (x45_2 + 1))) else (none))) else (none))) else (none)) else (some (([] : List ByteArray), false))) else (none)) else (none)) else (if x45_2 < (t456.length : Int) then ((some (([rd_L9 t456 x45_2] : List (List Int)) : List (List Int))).bind fun y477 => (if x12_2.length + y477.length < 5864062014805 then (if x45_2 < (l1.length : Int) then ((some (([rdOf ByteArray.empty l1 x45_2] : List ByteArray) : List ByteArray)).bind fun y484 => (if x13_2.length + y484.length < 8796093022208 then (impl_Decode.l0 k2 l1 t453 t456 (x12_2 ++ y477) (x13_2 ++ y484) l2 (l2.length : Int) (wrap64 (x45_2 + 1))) else (none))) else (none)) else (none))) else (none))) else (impl_Decode.l0 k2 l1 t453 t456 x12_2 x13_2 l2 (l2.length : Int) (wrap64 (x45_2 + 1)))) = some (r1, r2) := by rw [← hbq14] at H; exact H
         have Nbq14 := Aside0.mk hbq14
         clear hbq14
         by_cases c15 : bq14 = true
         ·subst c15
          have H1 : (if (x13_2.length : Int) > 0 then (if x45_2 < (l1.length : Int) then (if 0 < (x13_2.length : Int) then (if ((rdOf ByteArray.empty l1 x45_2).size : Int) = ((rdOf ByteArray.empty x13_2 0).size : Int) then (if x45_2 < (t456.length : Int) then ((some (([rd_L9 t456 x45_2] : List (List Int)) : List (List Int))).bind fun y463 => (if x12_2.length + y463.length < 5864062014805 then ((some (([rdOf ByteArray.empty l1 x45_2] : List ByteArray) : List ByteArray)).bind fun y470 => (if x13_2.length + y470.length < 8796093022208 then (impl_Decode.l0 k2 l1 t453 t456 (x12_2 ++ y463) (x13_2 ++ y470) l2 (l2.length : Int) (wrap64 (x45_2 + 1))) else (none))) else (none))) else (none)) else (some (([] : List ByteArray), false))) else (none)) else (none)) else (if x45_2 < (t456.length : Int) then ((some (([rd_L9 t456 x45_2] : List (List Int)) : List (List Int))).bind fun y477 => (if x12_2.length + y477.length < 5864062014805 then (if x45_2 < (l1.length : Int) then ((some (([rdOf ByteArray.empty l1 x45_2] : List ByteArray) : List ByteArray)).bind fun y484 => (if x13_2.length + y484.length < 8796093022208 then (impl_Decode.l0 k2 l1 t453 t456 (x12_2 ++ y477) (x13_2 ++ y484) l2 (l2.length : Int) (wrap64 (x45_2 + 1))) else (none))) else (none)) else (none))) else (none))) = some (r1, r2) := by rw [if_pos rfl] at H; exact H
          clear H
          have H := H1
          clear H1
          by_cases c16 : (x13_2.length : Int) > 0
          ·rw [if_pos c16] at H
           have c16b0 : decide (0 < (x13_2.length : Int)) = true := decide_eq_true c16
           have c16b1 : decide (0 < x13_2.length) = true := decide_eq_true (by omega)
           clear c16
           by_cases c17 : x45_2 < (l1.length : Int)
           ·rw [if_pos c17] at H
            have c17b0 : decide (x45_2 < (l1.length : Int)) = true := decide_eq_true c17
            clear c17
            by_cases c18 : 0 < (x13_2.length : Int)
            ·rw [if_pos c18] at H
             have c18b0 : decide (0 < (x13_2.length : Int)) = true := decide_eq_true c18
             have c18b1 : decide (0 < x13_2.length) = true := decide_eq_true (by omega)
             clear c18
             by_cases c19 : ((rdOf ByteArray.empty l1 x45_2).size : Int) = ((rdOf ByteArray.empty x13_2 0).size : Int)
             ·rw [if_pos c19] at H
              have c19b0 : (((rdOf ByteArray.empty l1 x45_2).size : Int) == ((rdOf ByteArray.empty x13_2 0).size : Int)) = true := beq_iff_eq.mpr c19
              have c19b1 : (((rdOf ByteArray.empty l1 x45_2).size : Int) != ((rdOf ByteArray.empty x13_2 0).size : Int)) = false := bne_eq_false_iff_eq.mpr c19
              have c19b2 : ((rdOf ByteArray.empty l1 x45_2).size == (rdOf ByteArray.empty x13_2 0).size) = true := by first | simpa using c19 | (simp at c19 ⊢; omega)
              clear c19
              by_cases c20 : x45_2 < (t456.length : Int)
              ·rw [if_pos c20] at H
               have c20b0 : decide (x45_2 < (t456.length : Int)) = true := decide_eq_true c20
               clear c20
               obtain ⟨y463, hy463⟩ : ∃ y_ : List (List Int), y_ = (([rd_L9 t456 x45_2] : List (List Int))) := ⟨_, rfl⟩
               replace H : (if x12_2.length + y463.length < 5864062014805 then ((some (([rdOf ByteArray.empty l1 x45_2] : List ByteArray) : List ByteArray)).bind fun y470 => (if x13_2.length + y470.length < 8796093022208 then (impl_Decode.l0 k2 l1 t453 t456 (x12_2 ++ y463) (x13_2 ++ y470) l2 (l2.length : Int) (wrap64 (x45_2 + 1))) else (none))) else (none)) = some (r1, r2) := by first | (rw [hy463]; with_reducible exact H) | (have H2_ := (Option.bind_some _ _).symm.trans H; rw [hy463]; with_reducible exact H2_) | (have H2_ := (Option.bind_some _ _).symm.trans H; with_reducible exact H2_) | with_reducible exact H | (rw [hy463]; exact H) | exact H
               have Ny463 := Aside0.mk hy463
               clear hy463
               by_cases c21 : x12_2.length + y463.length < 5864062014805
               ·rw [if_pos c21] at H
                have LMc21 := Aside0.mk c21
                clear c21
                obtain ⟨y466, hy466⟩ : ∃ y_ : List (List Int), y_ = (x12_2 ++ y463) := ⟨_, rfl⟩
                replace H : ((some (([rdOf ByteArray.empty l1 x45_2] : List ByteArray) : List ByteArray)).bind fun y470 => (if x13_2.length + y470.length < 8796093022208 then (impl_Decode.l0 k2 l1 t453 t456 y466 (x13_2 ++ y470) l2 (l2.length : Int) (wrap64 (x45_2 + 1))) else (none))) = some (r1, r2) := by first | (rw [hy466]; with_reducible exact H) | (have H2_ := (Option.bind_some _ _).symm.trans H; rw [hy466]; with_reducible exact H2_) | (have H2_ := (Option.bind_some _ _).symm.trans H; with_reducible exact H2_) | with_reducible exact H | (rw [hy466]; exact H) | exact H
                have Ny466 := Aside0.mk hy466
                clear hy466
                obtain ⟨y470, hy470⟩ : ∃ y_ : List ByteArray, y_ = (([rdOf ByteArray.empty l1 x45_2] : List ByteArray)) := ⟨_, rfl⟩
                replace H : (if x13_2.length + y470.length < 8796093022208 then (impl_Decode.l0 k2 l1 t453 t456 y466 (x13_2 ++ y470) l2 (l2.length : Int) (wrap64 (x45_2 + 1))) else (none)) = some (r1, r2) := by first | (rw [hy470]; with_reducible exact H) | (have H2_ := (Option.bind_some _ _).symm.trans H; rw [hy470]; with_reducible exact H2_) | (have H2_ := (Option.bind_some _ _).symm.trans H; with_reducible exact H2_) | with_reducible exact H | (rw [hy470]; exact H) | exact H
                have Ny470 := Aside0.mk hy470
                clear hy470
                by_cases c22 : x13_2.length + y470.length < 8796093022208
                ·rw [if_pos c22] at H
                 have LMc22 := Aside0.mk c22
                 clear c22
                 obtain ⟨y473, hy473⟩ : ∃ y_ : List ByteArray, y_ = (x13_2 ++ y470) := ⟨_, rfl⟩
                 replace H : (impl_Decode.l0 k2 l1 t453 t456 y466 y473 l2 (l2.length : Int) (wrap64 (x45_2 + 1))) = some (r1, r2) := by first | (rw [hy473]; with_reducible exact H) | (have H2_ := (Option.bind_some _ _).symm.trans H; rw [hy473]; with_reducible exact H2_) | (have H2_ := (Option.bind_some _ _).symm.trans H; with_reducible exact H2_) | with_reducible exact H | (rw [hy473]; exact H) | exact H
                 have Ny473 := Aside0.mk hy473
                 clear hy473
                 have H' := Aside0.mk H
                 clear H
                 have p459 : 0 ≤ (x45_2 : Int) := DT
                 have q459 : x45_2 < (l2.length : Int) := DT
                 obtain ⟨ad459, e459, hx459_0⟩ := Kd.at_bool HR2.out x45_2 p459 q459
                 (try rw [← Nbq14.out] at hx459_0)
                 cases e459
                 replace hx459_0 := (HB.out.cell (World.block_lt_of_cell? w _ hx459_0)).trans hx459_0
                 replace p459 := eq_true p459
                 replace q459 := eq_true q459
                 try go_wp2
                 have n0_ := Aside0.mk (Kd.N_drew HO_11.out)
                 have n1_ := Aside0.mk (Kd.N_drew HO_12.out)
                 have n2_ := Aside0.mk (Kd.R_drew HO_13.out)
                 have n3_ := Aside0.mk (below_drew1 HB.out)
                 clear HO_11
                 clear HO_12
                 clear HO_13
                 clear HB
                 have HO_11 := n0_
                 have HO_12 := n1_
                 have HO_13 := n2_
                 have HB := n3_
                 clear n0_ n1_ n2_ n3_
                 obtain ⟨Ao24, co24, eo24⟩ := Kd.R_slice HO_13.out
                 (first | subst eo24 | (injection eo24 with f1_ f2_ f3_; have f4_ := f1_.symm; have f5_ := f3_.symm; clear f1_ f2_ f3_; subst f4_; subst f5_))
                 have p460 : 0 ≤ (x45_2 : Int) := DT
                 have q460 : x45_2 < (l1.length : Int) := DT
                 obtain ⟨ad460, e460, hx460_0⟩ := Kd.at_string HR1.out x45_2 p460 q460
                 have hw460_0 := hx460_0
                 cases e460
                 replace hx460_0 := (HB.out.cell (World.block_lt_of_cell? w _ hx460_0)).trans hx460_0
                 replace p460 := eq_true p460
                 replace q460 := eq_true q460
                 have p461 : 0 ≤ (0 : Int) := (by omega)
                 have q461 : 0 < (x13_2.length : Int) := DT
                 obtain ⟨ad461, e461, hx461_0⟩ := Kd.at_string (Kd.R_reads' HO_13.out).2.2 0 p461 q461
                 cases e461
                 have qi461 : (0 < x13_2.length) = True := eq_true (by omega)
                 (try rw [show ((0 : Int)).toNat = 0 from rfl] at hx461_0)
                 (try rw [Addr.add_zero'] at hx461_0)
                 replace p461 := eq_true p461
                 replace q461 := eq_true q461
                 refine start_ (n := 15) (S := fun w' => w'.cell? (ad460.add (x45_2).toNat) = some (.string (rdOf ByteArray.empty l1 x45_2)) ∧ w'.cell? ad461 = some (.string (rdOf ByteArray.empty x13_2 0))) (ds := []) #[false, false, false, false, false, false, false, false, false, false, false, false, false, false, false] (by kernel_rfl) rfl rfl ⟨((HB.out.cell (World.block_lt_of_cell? w _ hw460_0)).trans hw460_0), hx461_0⟩ (fun hHeld => ?_); refine with_tabW impl_Decode.tab11 impl_Decode.bits11 (fun HT_ HW_ => ?_)
                 generalize wr.drew = w23 at HO_11 HO_12 HO_13 HB hx460_0 hx461_0 hHeld ⊢
                 refine pure_ (i := 0) (N := some 52) (v := ?_) (a' := ?_) #[true, false, false, false, false, false, false, false, false, false, false, false, false, false, false] rfl rfl (any_of HT_.out (by kernel_rfl)) (fun _ _ _ h => h) (Or.inl ⟨by rfl, ?_⟩) ?_ ?_
                 rotate_left
                 ·intro w'
                  go_simp
                  with_reducible rfl
                 rotate_left
                 ·simp only [Act.put, List.setIfInBounds_toArray, List.set_cons_zero, List.set_cons_succ, i64_w, i32_w]
                  rfl
                 refine pure_ (i := 1) (N := some 53) (v := ?_) (a' := ?_) #[true, true, false, false, false, false, false, false, false, false, false, false, false, false, false] rfl rfl (any_of HT_.out (by kernel_rfl)) (fun _ _ _ h => h) (Or.inl ⟨by rfl, ?_⟩) ?_ ?_
                 rotate_left
                 ·intro w'
                  go_simp
                  with_reducible rfl
                 rotate_left
                 ·simp only [Act.put, List.setIfInBounds_toArray, List.set_cons_zero, List.set_cons_succ, i64_w, i32_w]
                  rfl
                 refine pure_ (i := 2) (N := some 54) (v := ?_) (a' := ?_) #[true, true, true, false, false, false, false, false, false, false, false, false, false, false, false] rfl rfl (any_of HT_.out (by kernel_rfl)) (fun _ _ _ h => h) (Or.inl ⟨by rfl, ?_⟩) ?_ ?_
                 rotate_left
                 ·intro w'
                  go_simp
                  with_reducible rfl
                 rotate_left
                 ·simp only [Act.put, List.setIfInBounds_toArray, List.set_cons_zero, List.set_cons_succ, i64_w, i32_w]
                  rfl
                 refine pure_ (i := 3) (N := some 55) (v := ?_) (a' := ?_) #[true, true, true, true, false, false, false, false, false, false, false, false, false, false, false] rfl rfl (any_of HT_.out (by kernel_rfl)) (fun _ _ _ h => h) (Or.inl ⟨by rfl, ?_⟩) ?_ ?_
                 rotate_left
                 ·intro w'
                  go_simp
                  with_reducible rfl
                 rotate_left
                 ·simp only [Act.put, List.setIfInBounds_toArray, List.set_cons_zero, List.set_cons_succ, i64_w, i32_w]
                  rfl
                 refine pure_ (i := 4) (N := some 56) (v := ?_) (a' := ?_) #[true, true, true, true, true, false, false, false, false, false, false, false, false, false, false] rfl rfl (any_of HT_.out (by kernel_rfl)) (fun _ _ _ h => h) (Or.inl ⟨by rfl, ?_⟩) ?_ ?_
                 rotate_left
                 ·intro w'
                  go_simp
                  with_reducible rfl
                 rotate_left
                 ·simp only [Act.put, List.setIfInBounds_toArray, List.set_cons_zero, List.set_cons_succ, i64_w, i32_w]
                  rfl
                 refine pure_ (i := 5) (N := some 57) (v := ?_) (a' := ?_) #[true, true, true, true, true, true, false, false, false, false, false, false, false, false, false] rfl rfl (any_of HT_.out (by kernel_rfl)) (fun _ _ _ h => h) (Or.inl ⟨by rfl, ?_⟩) ?_ ?_
                 rotate_left
                 ·intro w'
                  go_simp
                  with_reducible rfl
                 rotate_left
                 ·simp only [Act.put, List.setIfInBounds_toArray, List.set_cons_zero, List.set_cons_succ, i64_w, i32_w]
                  rfl
                 refine pure_ (i := 6) (N := some 58) (v := ?_) (a' := ?_) #[true, true, true, true, true, true, true, false, false, false, false, false, false, false, false] rfl rfl (any_of HT_.out (by kernel_rfl)) (fun _ _ _ h => h) (Or.inl ⟨by rfl, ?_⟩) ?_ ?_
                 rotate_left
                 ·intro w'
                  go_simp
                  with_reducible rfl
                 rotate_left
                 ·simp only [Act.put, List.setIfInBounds_toArray, List.set_cons_zero, List.set_cons_succ, i64_w, i32_w]
                  rfl
                 refine pure_ (i := 9) (N := some 61) (v := ?_) (a' := ?_) #[true, true, true, true, true, true, true, false, false, true, false, false, false, false, false] rfl rfl (any_of HT_.out (by kernel_rfl)) (fun _ _ _ h => h) (Or.inl ⟨by rfl, ?_⟩) ?_ ?_
                 rotate_left
                 ·intro w'
                  go_simp
                  with_reducible rfl
                 rotate_left
                 ·simp only [Act.put, List.setIfInBounds_toArray, List.set_cons_zero, List.set_cons_succ, i64_w, i32_w]
                  rfl
                 refine pure_ (i := 10) (N := some 62) (v := ?_) (a' := ?_) #[true, true, true, true, true, true, true, false, false, true, true, false, false, false, false] rfl rfl (any_of HT_.out (by kernel_rfl)) (fun _ _ _ h => h) (Or.inl ⟨by rfl, ?_⟩) ?_ ?_
                 rotate_left
                 ·intro w'
                  go_simp
                  with_reducible rfl
                 rotate_left
                 ·simp only [Act.put, List.setIfInBounds_toArray, List.set_cons_zero, List.set_cons_succ, i64_w, i32_w]
                  rfl
                 refine take_ (i := 7) (N := some 59) (v := ?_) (a' := ?_) #[true, true, true, true, true, true, true, true, false, true, true, false, false, false, false] rfl rfl (take_ofW HT_.out HW_.out (by kernel_rfl)) (fun _ _ _ h => h) (Or.inl ⟨by rfl, ?_⟩) hHeld ?_ ?_
                 rotate_left
                 ·rintro w' ⟨s0, s1⟩
                  go_simp
                  with_reducible rfl
                 rotate_left
                 ·simp only [Act.put, List.setIfInBounds_toArray, List.set_cons_zero, List.set_cons_succ, i64_w, i32_w]
                  rfl
                 refine pure_ (i := 8) (N := some 60) (v := ?_) (a' := ?_) #[true, true, true, true, true, true, true, true, true, true, true, false, false, false, false] rfl rfl (any_of HT_.out (by kernel_rfl)) (fun _ _ _ h => h) (Or.inl ⟨by rfl, ?_⟩) ?_ ?_
                 rotate_left
                 ·intro w'
                  go_simp
                  with_reducible rfl
                 rotate_left
                 ·simp only [Act.put, List.setIfInBounds_toArray, List.set_cons_zero, List.set_cons_succ, i64_w, i32_w]
                  rfl
                 refine take_ (i := 11) (N := some 63) (v := ?_) (a' := ?_) #[true, true, true, true, true, true, true, true, true, true, true, true, false, false, false] rfl rfl (take_ofW HT_.out HW_.out (by kernel_rfl)) (fun _ _ _ h => h) (Or.inl ⟨by rfl, ?_⟩) hHeld ?_ ?_
                 rotate_left
                 ·rintro w' ⟨s0, s1⟩
                  go_simp
                  with_reducible rfl
                 rotate_left
                 ·simp only [Act.put, List.setIfInBounds_toArray, List.set_cons_zero, List.set_cons_succ, i64_w, i32_w]
                  rfl
                 refine pure_ (i := 12) (N := some 64) (v := ?_) (a' := ?_) #[true, true, true, true, true, true, true, true, true, true, true, true, true, false, false] rfl rfl (any_of HT_.out (by kernel_rfl)) (fun _ _ _ h => h) (Or.inl ⟨by rfl, ?_⟩) ?_ ?_
                 rotate_left
                 ·intro w'
                  go_simp
                  with_reducible rfl
                 rotate_left
                 ·simp only [Act.put, List.setIfInBounds_toArray, List.set_cons_zero, List.set_cons_succ, i64_w, i32_w]
                  rfl
                 refine pure_ (i := 13) (N := some 65) (v := ?_) (a' := ?_) #[true, true, true, true, true, true, true, true, true, true, true, true, true, true, false] rfl rfl (any_of HT_.out (by kernel_rfl)) (fun _ _ _ h => h) (Or.inl ⟨by rfl, ?_⟩) ?_ ?_
                 rotate_left
                 ·intro w'
                  go_simp
                  with_reducible rfl
                 rotate_left
                 ·simp only [Act.put, List.setIfInBounds_toArray, List.set_cons_zero, List.set_cons_succ, i64_w, i32_w]
                  rfl
                 refine pure_ (i := 14) (N := some 66) (v := ?_) (a' := ?_) #[true, true, true, true, true, true, true, true, true, true, true, true, true, true, true] rfl rfl (any_of HT_.out (by kernel_rfl)) (fun _ _ _ h => h) (Or.inl ⟨by rfl, ?_⟩) ?_ ?_
                 rotate_left
                 ·intro w'
                  go_simp
                  with_reducible rfl
                 rotate_left
                 ·simp only [Act.put, List.setIfInBounds_toArray, List.set_cons_zero, List.set_cons_succ, i64_w, i32_w]
                  rfl
                 refine done_ (done_of HT_.out (by kernel_rfl)) ?_
                 obtain ⟨Ao25, co25, eo25⟩ := Kd.N_slice HO_12.out
                 subst eo25
                 try go_wp2
                 have n0_ := Aside0.mk (Kd.N_drew HO_11.out)
                 have n1_ := Aside0.mk (Kd.N_drew HO_12.out)
                 have n2_ := Aside0.mk (Kd.R_drew HO_13.out)
                 have n3_ := Aside0.mk (below_drew1 HB.out)
                 clear HO_11
                 clear HO_12
                 clear HO_13
                 clear HB
                 have HO_11 := n0_
                 have HO_12 := n1_
                 have HO_13 := n2_
                 have HB := n3_
                 clear n0_ n1_ n2_ n3_
                 obtain ⟨Ao27, co27, eo27⟩ := Kd.N_slice HO_11.out
                 (first | subst eo27 | (injection eo27 with f1_ f2_ f3_; have f4_ := f1_.symm; have f5_ := f3_.symm; clear f1_ f2_ f3_; subst f4_; subst f5_))
                 have p462 : 0 ≤ (x45_2 : Int) := DT
                 have q462 : x45_2 < (t456.length : Int) := DT
                 obtain ⟨ad462, A462_0, c462_0, e462, hx462_0, hl462_0, hi462_0⟩ := at_L9 (Kd.N_reads' HO_11.out).2.2 x45_2 p462 q462
                 cases e462
                 obtain ⟨ce462, hce462, hMe462, hcc462⟩ := Kd.N_get HO_11.out [] x45_2 p462 (by first | exact q462 | exact DT | (have e_ := (Kd.N_reads' HO_11.out).1; omega))
                 obtain ⟨ua462_0, uc462_0, rfl, ul462_0, ge462_0⟩ := Kd.FK_slice_open hMe462
                 have hv462_0 := hcc462 0 _ rfl
                 rw [Nat.add_zero, show ((Kd.slice 3 (Kd.int .i64))).sz = 1 from rfl, Nat.mul_one] at hv462_0
                 replace hv462_0 := Option.some.inj (hv462_0.symm.trans hx462_0)
                 injection hv462_0 with hva_ hvn_ hvc_
                 rw [hva_] at ge462_0
                 rw [hvc_] at ul462_0
                 have HL462_0 := Aside0.mk (show Kd.V (Kd.int .i64) 3 _ w.heap.size _ _ (rd_L9 t456 x45_2) from Kd.V_mk ul462_0 ge462_0)
                 clear hva_ hvn_ hvc_ ge462_0 ul462_0
                 clear hcc462 hce462
                 have HR462_0 := Aside0.mk hi462_0
                 have HC462_0 := Aside0.mk hl462_0
                 clear hi462_0 hl462_0
                 replace p462 := eq_true p462
                 replace q462 := eq_true q462
                 have p469 : 0 ≤ (x45_2 : Int) := DT
                 have q469 : x45_2 < (l1.length : Int) := DT
                 obtain ⟨ad469, e469, hx469_0⟩ := Kd.at_string HR1.out x45_2 p469 q469
                 have hw469_0 := hx469_0
                 obtain rfl : ad460 = ad469 := (by injection e469)
                 replace hx469_0 := (HB.out.cell (World.block_lt_of_cell? w _ hx469_0)).trans hx469_0
                 replace p469 := eq_true p469
                 replace q469 := eq_true q469
                 refine start_ (n := 16) (S := fun w' => w'.cell? (ad462.add (x45_2).toNat) = some (.slice A462_0 (rd_L9 t456 x45_2).length c462_0) ∧ w'.cell? (ad460.add (x45_2).toNat) = some (.string (rdOf ByteArray.empty l1 x45_2))) (ds := []) #[false, false, false, false, false, false, false, false, false, false, false, false, false, false, false, false] (by kernel_rfl) rfl rfl ⟨hx462_0, ((HB.out.cell (World.block_lt_of_cell? w _ hw469_0)).trans hw469_0)⟩ (fun hHeld => ?_); refine with_tabW impl_Decode.tab13 impl_Decode.bits13 (fun HT_ HW_ => ?_)
                 generalize w23.drew = w26 at HO_11 HO_12 HO_13 HB HL462_0 HR462_0 hx462_0 hx469_0 hHeld ⊢
                 refine pure_ (i := 0) (N := some 67) (v := ?_) (a' := ?_) #[true, false, false, false, false, false, false, false, false, false, false, false, false, false, false, false] rfl rfl (any_of HT_.out (by kernel_rfl)) (fun _ _ _ h => h) (Or.inl ⟨by rfl, ?_⟩) ?_ ?_
                 rotate_left
                 ·intro w'
                  go_simp
                  with_reducible rfl
                 rotate_left
                 ·simp only [Act.put, List.setIfInBounds_toArray, List.set_cons_zero, List.set_cons_succ, i64_w, i32_w]
                  rfl
                 refine pure_ (i := 1) (N := some 68) (v := ?_) (a' := ?_) #[true, true, false, false, false, false, false, false, false, false, false, false, false, false, false, false] rfl rfl (any_of HT_.out (by kernel_rfl)) (fun _ _ _ h => h) (Or.inl ⟨by rfl, ?_⟩) ?_ ?_
                 rotate_left
                 ·intro w'
                  go_simp
                  with_reducible rfl
                 rotate_left
                 ·simp only [Act.put, List.setIfInBounds_toArray, List.set_cons_zero, List.set_cons_succ, i64_w, i32_w]
                  rfl
                 refine pure_ (i := 2) (N := some 69) (v := ?_) (a' := ?_) #[true, true, true, false, false, false, false, false, false, false, false, false, false, false, false, false] rfl rfl (any_of HT_.out (by kernel_rfl)) (fun _ _ _ h => h) (Or.inl ⟨by rfl, ?_⟩) ?_ ?_
                 rotate_left
                 ·intro w'
                  go_simp
                  with_reducible rfl
                 rotate_left
                 ·simp only [Act.put, List.setIfInBounds_toArray, List.set_cons_zero, List.set_cons_succ, i64_w, i32_w]
                  rfl
                 refine pure_ (i := 3) (N := some 70) (v := ?_) (a' := ?_) #[true, true, true, true, false, false, false, false, false, false, false, false, false, false, false, false] rfl rfl (any_of HT_.out (by kernel_rfl)) (fun _ _ _ h => h) (Or.inl ⟨by rfl, ?_⟩) ?_ ?_
                 rotate_left
                 ·intro w'
                  go_simp
                  with_reducible rfl
                 rotate_left
                 ·simp only [Act.put, List.setIfInBounds_toArray, List.set_cons_zero, List.set_cons_succ, i64_w, i32_w]
                  rfl
                 refine pure_ (i := 7) (N := some 74) (v := ?_) (a' := ?_) #[true, true, true, true, false, false, false, true, false, false, false, false, false, false, false, false] rfl rfl (any_of HT_.out (by kernel_rfl)) (fun _ _ _ h => h) (Or.inl ⟨by rfl, ?_⟩) ?_ ?_
                 rotate_left
                 ·intro w'
                  go_simp
                  with_reducible rfl
                 rotate_left
                 ·simp only [Act.put, List.setIfInBounds_toArray, List.set_cons_zero, List.set_cons_succ, i64_w, i32_w]
                  rfl
                 refine pure_ (i := 8) (N := some 75) (v := ?_) (a' := ?_) #[true, true, true, true, false, false, false, true, true, false, false, false, false, false, false, false] rfl rfl (any_of HT_.out (by kernel_rfl)) (fun _ _ _ h => h) (Or.inl ⟨by rfl, ?_⟩) ?_ ?_
                 rotate_left
                 ·intro w'
                  go_simp
                  with_reducible rfl
                 rotate_left
                 ·simp only [Act.put, List.setIfInBounds_toArray, List.set_cons_zero, List.set_cons_succ, i64_w, i32_w]
                  rfl
                 refine pure_ (i := 9) (N := some 76) (v := ?_) (a' := ?_) #[true, true, true, true, false, false, false, true, true, true, false, false, false, false, false, false] rfl rfl (any_of HT_.out (by kernel_rfl)) (fun _ _ _ h => h) (Or.inl ⟨by rfl, ?_⟩) ?_ ?_
                 rotate_left
                 ·intro w'
                  go_simp
                  with_reducible rfl
                 rotate_left
                 ·simp only [Act.put, List.setIfInBounds_toArray, List.set_cons_zero, List.set_cons_succ, i64_w, i32_w]
                  rfl
                 refine pure_ (i := 10) (N := some 77) (v := ?_) (a' := ?_) #[true, true, true, true, false, false, false, true, true, true, true, false, false, false, false, false] rfl rfl (any_of HT_.out (by kernel_rfl)) (fun _ _ _ h => h) (Or.inl ⟨by rfl, ?_⟩) ?_ ?_
                 rotate_left
                 ·intro w'
                  go_simp
                  with_reducible rfl
                 rotate_left
                 ·simp only [Act.put, List.setIfInBounds_toArray, List.set_cons_zero, List.set_cons_succ, i64_w, i32_w]
                  rfl
                 refine take_ (i := 4) (N := some 71) (v := ?_) (a' := ?_) #[true, true, true, true, true, false, false, true, true, true, true, false, false, false, false, false] rfl rfl (take_ofW HT_.out HW_.out (by kernel_rfl)) (fun _ _ _ h => h) (Or.inl ⟨by rfl, ?_⟩) hHeld ?_ ?_
                 rotate_left
                 ·rintro w' ⟨s0, s1⟩
                  go_simp
                  with_reducible rfl
                 rotate_left
                 ·simp only [Act.put, List.setIfInBounds_toArray, List.set_cons_zero, List.set_cons_succ, i64_w, i32_w]
                  rfl
                 refine take_ (i := 11) (N := some 78) (v := ?_) (a' := ?_) #[true, true, true, true, true, false, false, true, true, true, true, true, false, false, false, false] rfl rfl (take_ofW HT_.out HW_.out (by kernel_rfl)) (fun _ _ _ h => h) (Or.inl ⟨by rfl, ?_⟩) hHeld ?_ ?_
                 rotate_left
                 ·rintro w' ⟨s0, s1⟩
                  go_simp
                  with_reducible rfl
                 rotate_left
                 ·simp only [Act.put, List.setIfInBounds_toArray, List.set_cons_zero, List.set_cons_succ, i64_w, i32_w]
                  rfl
                 refine join_ (σ := Value × Value × Value) 3 #[true, true, true, true, true, true, true, true, true, true, true, true, true, false, false, false] (fun s_ => [(72, s_.1), (73, s_.2.1), (79, s_.2.2)]) (fun s_ w' => (w'.cell? (ad462.add (x45_2).toNat) = some (.slice A462_0 (rd_L9 t456 x45_2).length c462_0) ∧ w'.cell? (ad460.add (x45_2).toNat) = some (.string (rdOf ByteArray.empty l1 x45_2))) ∧ (Kd.V (Kd.int .i64) 3 w' w.heap.size (fun k_ => some k_ ≠ (s_.1 : Value).ownBlock ∧ some k_ ≠ (s_.2.1 : Value).ownBlock ∧ some k_ ≠ (s_.2.2 : Value).ownBlock ∧ some k_ ≠ (.slice (some ad462) t456.length co27 : Value).ownBlock ∧ some k_ ≠ (.slice (some ad461) x13_2.length co24 : Value).ownBlock) (.slice A462_0 (rd_L9 t456 x45_2).length c462_0) (rd_L9 t456 x45_2)) ∧ (Kd.N (Kd.slice 3 (Kd.int .i64)) 52 w' w.heap.size (fun k_ => some k_ ≠ (s_.2.1 : Value).ownBlock ∧ some k_ ≠ (s_.2.2 : Value).ownBlock ∧ some k_ ≠ (.slice (some ad462) t456.length co27 : Value).ownBlock ∧ some k_ ≠ (.slice (some ad461) x13_2.length co24 : Value).ownBlock) s_.1 y463) ∧ (Kd.N (Kd.slice 3 (Kd.int .i64)) 52 w' w.heap.size (fun k_ => some k_ ≠ (s_.2.2 : Value).ownBlock ∧ some k_ ≠ (.slice (some ad462) t456.length co27 : Value).ownBlock ∧ some k_ ≠ (.slice (some ad461) x13_2.length co24 : Value).ownBlock) s_.2.1 y466) ∧ (Kd.R Kd.string 9 w' w.heap.size (fun k_ => some k_ ≠ (.slice (some ad461) x13_2.length co24 : Value).ownBlock) s_.2.2 y470) ∧ (Kd.N (Kd.slice 3 (Kd.int .i64)) 52 w' w.heap.size (fun k_ => some k_ ≠ (s_.1 : Value).ownBlock ∧ some k_ ≠ (s_.2.1 : Value).ownBlock ∧ some k_ ≠ (s_.2.2 : Value).ownBlock ∧ some k_ ≠ (.slice (some ad461) x13_2.length co24 : Value).ownBlock) (.slice (some ad462) t456.length co27) t456) ∧ (Kd.R Kd.string 9 w' w.heap.size (fun k_ => some k_ ≠ (s_.2.2 : Value).ownBlock) (.slice (some ad461) x13_2.length co24) x13_2) ∧ (Below w.heap.size w w')) ?_ ?_
                 rotate_left
                 ·intro hCont
                  refine two_ (i := 5) (j := 12) (Ni := some 72) (Nj := some 79) #[true, true, true, true, true, true, false, true, true, true, true, true, false, false, false, false] #[true, true, true, true, true, false, false, true, true, true, true, true, true, false, false, false] rfl rfl rfl rfl (two_of HT_.out (by kernel_rfl)) (by decide) (by decide) (fun K hK => ?_) (fun K hK => ?_)
                  ·skip
                   refine Kd.N_lit_step (Kd.slice 3 (Kd.int .i64)) _ 52 ?hg (N' := 72) ?hd (xs := ([rd_L9 t456 x45_2] : List (List Int))) (inner := [.slice A462_0 (rd_L9 t456 x45_2).length c462_0]) (ok := (fun k_ => some k_ ≠ (.slice (some ad462) t456.length co27 : Value).ownBlock ∧ some k_ ≠ (.slice Ao25 x12_2.length co25 : Value).ownBlock ∧ some k_ ≠ (.slice (some ad461) x13_2.length co24 : Value).ownBlock)) (okp := (fun k_ => some k_ ≠ (.slice (some ad462) t456.length co27 : Value).ownBlock ∧ some k_ ≠ (.slice Ao25 x12_2.length co25 : Value).ownBlock ∧ some k_ ≠ (.slice (some ad461) x13_2.length co24 : Value).ownBlock)) ?hr ?hp (fun _ hk => hk) ((show ∀ k_, w26.heap.size ≤ k_ → (fun k_ => some k_ ≠ (.slice (some ad462) t456.length co27 : Value).ownBlock ∧ some k_ ≠ (.slice Ao25 x12_2.length co25 : Value).ownBlock ∧ some k_ ≠ (.slice (some ad461) x13_2.length co24 : Value).ownBlock) k_ from fun k_ hk => ⟨Kd.fresh' (Kd.N_lt (by (with_reducible repeat (first | apply Kd.N_alloc | apply Kd.N_drewN | apply Kd.N_drew)); exact HO_11.out)) k_ hk, Kd.fresh' (Kd.N_lt (by (with_reducible repeat (first | apply Kd.N_alloc | apply Kd.N_drewN | apply Kd.N_drew)); exact HO_12.out)) k_ hk, Kd.fresh' (Kd.R_lt (RR HO_13.out)) k_ hk⟩) _ (Nat.le_refl _)) (Below.refl _ _) (Nat.le_refl _) (by simp) ?_; (case hd => rfl); (case hg => rfl); (case hr => first | (go_simp; done) | (go_simp; rfl)); (case hp => exact (Reps.one (show Kd.FK (Kd.slice 3 (Kd.int .i64)) _ _ (rd_L9 t456 x45_2) [.slice A462_0 (rd_L9 t456 x45_2).length c462_0] from (Kd.FK_slice_mk (Kd.V_reads' (Kd.V_mono (ok' := (fun k_ => some k_ ≠ (.slice (some ad462) t456.length co27 : Value).ownBlock ∧ some k_ ≠ (.slice Ao25 x12_2.length co25 : Value).ownBlock ∧ some k_ ≠ (.slice (some ad461) x13_2.length co24 : Value).ownBlock)) (HL462_0.out) (fun k_ hk => ⟨hk.2, ⟨hk.1.1, hk.1.2⟩⟩))).2.1 (Kd.V_F (Kd.V_mono (ok' := (fun k_ => some k_ ≠ (.slice (some ad462) t456.length co27 : Value).ownBlock ∧ some k_ ≠ (.slice Ao25 x12_2.length co25 : Value).ownBlock ∧ some k_ ≠ (.slice (some ad461) x13_2.length co24 : Value).ownBlock)) (HL462_0.out) (fun k_ hk => ⟨hk.2, ⟨hk.1.1, hk.1.2⟩⟩))))) (Reps.none _ _)))
                   intro v464 w28 ho29 hb hg_ hnew_
                   have HS0_ := (hb.cell (World.block_lt_of_cell? _ _ (hHeld.1))).trans (hHeld.1)
                   clear hg_ hnew_
                   (first | rw [← Ny463.out] at ho29 | (simp only [Int.reduceToNat] at ho29; rw [← Ny463.out] at ho29))
                   have n0_ := Aside0.mk (Kd.N_elder' (by (with_reducible repeat (first | apply Kd.N_alloc | apply Kd.N_drewN | apply Kd.N_drew)); exact HO_11.out) (Kd.N_base ho29) hb)
                   have n1_ := Aside0.mk (Kd.N_elder' (by (with_reducible repeat (first | apply Kd.N_alloc | apply Kd.N_drewN | apply Kd.N_drew)); exact HO_12.out) (Kd.N_base ho29) hb)
                   have n2_ := Aside0.mk (Kd.R_below (RR HO_13.out) hb)
                   have n3_ := Aside0.mk (Kd.V_elder' (by (with_reducible repeat (first | apply Kd.V_alloc | apply Kd.V_drewN | apply Kd.V_drew)); exact HL462_0.out) (Kd.N_base ho29) hb)
                   have n4_ := Aside0.mk (Kd.N_lower ho29 (below_size (BB HB.out)))
                   have n5_ := Aside0.mk (Kd.C_below (by repeat (first | (with_reducible exact HR462_0.out) | (with_reducible refine Kd.C_alloc ?_ _) | (with_reducible refine Kd.C_drewN ?_ _) | (with_reducible refine Kd.C_drew ?_) | exact HR462_0.out)) hb)
                   have n6_ := Aside0.mk (below_step (BB HB.out) hb)
                   clear HO_11
                   clear HO_12
                   clear HO_13
                   clear HL462_0
                   clear HR462_0
                   clear HB
                   have HO_11 := n0_
                   have HO_12 := n1_
                   have HO_13 := n2_
                   have HL462_0 := n3_
                   have HO465 := n4_
                   have HR462_0 := n5_
                   have HB := n6_
                   clear n0_ n1_ n2_ n3_ n4_ n5_ n6_
                   clear hb ho29
                   obtain ⟨Ao31, co31, eo31⟩ := Kd.N_slice HO465.out
                   (first | subst eo31 | (injection eo31 with f1_ f2_ f3_; have f4_ := f1_.symm; have f5_ := f3_.symm; clear f1_ f2_ f3_; subst f4_; subst f5_))
                   refine hK.out _ _ ⟨HS0_, ((HB.out.cell (World.block_lt_of_cell? w _ hw469_0)).trans hw469_0)⟩ (fun hHeld => ?_)
                   clear hK K
                   refine norm_ (a' := ?_) ?_ ?_
                   rotate_left
                   ·show Act.put _ (some 72) _ = _
                    simp only [Act.put, List.setIfInBounds_toArray, List.set_cons_zero, List.set_cons_succ, i64_w, i32_w]
                    rfl
                   refine two_ (i := 6) (j := 12) (Ni := some 73) (Nj := some 79) #[true, true, true, true, true, true, true, true, true, true, true, true, false, false, false, false] #[true, true, true, true, true, true, false, true, true, true, true, true, true, false, false, false] rfl rfl rfl rfl (two_of HT_.out (by kernel_rfl)) (by decide) (by decide) (fun K hK => ?_) (fun K hK => ?_)
                   ·skip
                    refine Kd.N_append_rows_step (Kd.slice 3 (Kd.int .i64)) (w0 := w) w.heap.size (by rfl) (.tmp 67) (.tmp 72) 50 52 (.slice none 0 0) 24 rfl Try.underlying50 info52 rfl (by decide) (by omega) (.slice Ao25 x12_2.length co25) x12_2 y463 _ _ _ (fun k_ => some k_ ≠ (.slice (some ad462) t456.length co27 : Value).ownBlock ∧ some k_ ≠ (.slice (some ad461) x13_2.length co24 : Value).ownBlock) (fun k_ => ((fun k_ => some k_ ≠ (.slice (some ad462) t456.length co27 : Value).ownBlock ∧ some k_ ≠ (.slice (some ad461) x13_2.length co24 : Value).ownBlock)) k_ ∧ some k_ ≠ (.slice Ao25 x12_2.length co25 : Value).ownBlock) rfl rfl ?aO ?aR (fun _ hk => hk) ?aF ?aB ?aS ?aL ?_
                    (case aR => exact (by skip; exact Kd.N_F (Kd.N_mono (ok' := (fun k_ => ((fun k_ => some k_ ≠ (.slice (some ad462) t456.length co27 : Value).ownBlock ∧ some k_ ≠ (.slice (some ad461) x13_2.length co24 : Value).ownBlock)) k_ ∧ some k_ ≠ (.slice Ao25 x12_2.length co25 : Value).ownBlock)) (HO465.out) (fun k_ hk => ⟨⟨hk.1, hk.2.2⟩, hk.2.1⟩))))
                    (case aB => exact (BB HB.out))
                    (case aF => exact (fun k_ hk => ⟨Kd.fresh' (Kd.N_lt (by (with_reducible repeat (first | apply Kd.N_alloc | apply Kd.N_drewN | apply Kd.N_drew)); exact HO_11.out)) k_ hk, Kd.fresh' (Kd.R_lt (RR HO_13.out)) k_ hk⟩))
                    (case aO => exact (by (with_reducible repeat (first | apply Kd.N_alloc | apply Kd.N_drewN | apply Kd.N_drew)); exact Kd.N_mono HO_12.out (fun _ hk => ⟨hk.1.1, hk.1.2⟩)))
                    (case aS => exact (below_size (BB HB.out)))
                    (case aL => have := LMc21.out; omega)
                    intro v467 w30 ho hb hg hat
                    have HS0_ := Go.Proofs.YtahimindlnkmoaaW.PrintWords.cell_grown hg (hHeld.1) (by have h_ := HO_11.out.1 _ rfl; first | (rw [add_block]; (first | exact h_.1.1 | exact h_.1 | exact h_.1.2 | exact h_.2 | exact h_.2.1 | exact h_.2.2 | exact h_.1.1.1 | exact h_.1.1.2 | exact h_.1.2.1 | exact h_.1.2.2 | exact h_.2.2.1 | exact h_.2.2.2 | exact h_.2.1.1 | exact h_.2.1.2 | exact h_.1.1.1.1 | exact h_.1.1.1.2 | exact h_.2.2.2.1 | exact h_.2.2.2.2 | exact h_)) | (show some (Addr.add _ _).block ≠ _; rw [add_block]; (first | exact h_.1.1 | exact h_.1 | exact h_.1.2 | exact h_.2 | exact h_.2.1 | exact h_.2.2 | exact h_.1.1.1 | exact h_.1.1.2 | exact h_.1.2.1 | exact h_.1.2.2 | exact h_.2.2.1 | exact h_.2.2.2 | exact h_.2.1.1 | exact h_.2.1.2 | exact h_.1.1.1.1 | exact h_.1.1.1.2 | exact h_.2.2.2.1 | exact h_.2.2.2.2 | exact h_)) | (first | exact h_.1.1 | exact h_.1 | exact h_.1.2 | exact h_.2 | exact h_.2.1 | exact h_.2.2 | exact h_.1.1.1 | exact h_.1.1.2 | exact h_.1.2.1 | exact h_.1.2.2 | exact h_.2.2.1 | exact h_.2.2.2 | exact h_.2.1.1 | exact h_.2.1.2 | exact h_.1.1.1.1 | exact h_.1.1.1.2 | exact h_.2.2.2.1 | exact h_.2.2.2.2 | exact h_))
                    rw [← Ny466.out] at ho
                    have n0_ := Aside0.mk (Kd.N_afterv (ok := (fun k_ => some k_ ≠ (.slice (some ad461) x13_2.length co24 : Value).ownBlock ∧ some k_ ≠ (.slice Ao31 y463.length co31 : Value).ownBlock)) (by (with_reducible repeat (first | apply Kd.N_alloc | apply Kd.N_drewN | apply Kd.N_drew)); exact Kd.N_mono HO_11.out (fun _ hk => ⟨⟨hk.1.2, hk.2⟩, hk.1.1⟩)) hg hat)
                    have n1_ := Aside0.mk (Kd.R_over' (RR HO_13.out) (Kd.N_typed (by (with_reducible repeat (first | apply Kd.N_alloc | apply Kd.N_drewN | apply Kd.N_drew)); exact HO_12.out)) (by decide) hg)
                    have n2_ := Aside0.mk (Kd.V_afterv (ok := (fun k_ => some k_ ≠ (.slice (some ad462) t456.length co27 : Value).ownBlock ∧ some k_ ≠ (.slice (some ad461) x13_2.length co24 : Value).ownBlock ∧ some k_ ≠ (.slice Ao31 y463.length co31 : Value).ownBlock)) (by (with_reducible repeat (first | apply Kd.V_alloc | apply Kd.V_drewN | apply Kd.V_drew)); exact Kd.V_mono HL462_0.out (by first | exact (fun _ hk => ⟨⟨hk.1.2, ⟨hk.1.1.2, hk.2⟩⟩, hk.1.1.1⟩) | exact (fun _ hk => PT hk))) hg hat)
                    have n3_ := Aside0.mk (Kd.N_afterv (ok := (fun k_ => some k_ ≠ (.slice (some ad462) t456.length co27 : Value).ownBlock ∧ some k_ ≠ (.slice (some ad461) x13_2.length co24 : Value).ownBlock)) (by (with_reducible repeat (first | apply Kd.N_alloc | apply Kd.N_drewN | apply Kd.N_drew)); exact Kd.N_mono HO465.out (fun _ hk => ⟨⟨hk.1, hk.2.2⟩, hk.2.1⟩)) hg hat)
                    have n4_ := Aside0.mk (hb)
                    have n5_ := Aside0.mk (ho)
                    clear HO_11
                    clear HO_13
                    clear HL462_0
                    clear HO465
                    clear HB
                    clear HO_12
                    have HO_11 := n0_
                    have HO_13 := n1_
                    have HL462_0 := n2_
                    have HO465 := n3_
                    have HB := n4_
                    have HO468 := n5_
                    clear n0_ n1_ n2_ n3_ n4_ n5_
                    clear ho hb hg hat
                    refine hK.out _ _ ⟨HS0_, ((HB.out.cell (World.block_lt_of_cell? w _ hw469_0)).trans hw469_0)⟩ (fun hHeld => ?_)
                    clear hK K
                    refine norm_ (a' := ?_) ?_ ?_
                    rotate_left
                    ·show Act.put _ (some 73) _ = _
                     simp only [Act.put, List.setIfInBounds_toArray, List.set_cons_zero, List.set_cons_succ, i64_w, i32_w]
                     rfl
                    refine one_ (i := 12) (N := some 79) #[true, true, true, true, true, true, true, true, true, true, true, true, true, false, false, false] rfl rfl (one_of HT_.out (by kernel_rfl)) (by decide) (fun K hK => ?_)
                    refine Kd.R_lit_step Kd.string _ 9 ?hg (N := 79) ?hd (xs := ([rdOf ByteArray.empty l1 x45_2] : List ByteArray)) (inner := [.string (rdOf ByteArray.empty l1 x45_2)]) (ok := fun _ => True) (okp := fun _ => True) ?hr ?hp (fun _ hk => hk) trivial (Below.refl _ _) (Nat.le_refl _) (by simp) ?_; (case hd => rfl); (case hg => rfl); (case hr => first | (go_simp; done) | (go_simp; rfl)); (case hp => exact (Reps.one (show Kd.M Kd.string _ _ _ (rdOf ByteArray.empty l1 x45_2) [.string (rdOf ByteArray.empty l1 x45_2)] from rfl) (Reps.none _ _)))
                    intro v471 w32 ho33 hb hg_ hnew_
                    have HS0_ := (hb.cell (World.block_lt_of_cell? _ _ (hHeld.1))).trans (hHeld.1)
                    clear hg_ hnew_
                    (first | rw [← Ny470.out] at ho33 | (simp only [Int.reduceToNat] at ho33; rw [← Ny470.out] at ho33))
                    have n0_ := Aside0.mk (Kd.N_elder' (by (with_reducible repeat (first | apply Kd.N_alloc | apply Kd.N_drewN | apply Kd.N_drew)); exact HO_11.out) (Kd.R_base ho33) hb)
                    have n1_ := Aside0.mk (Kd.R_elder' (RR HO_13.out) (Kd.R_base ho33) hb)
                    have n2_ := Aside0.mk (Kd.V_elder' (by (with_reducible repeat (first | apply Kd.V_alloc | apply Kd.V_drewN | apply Kd.V_drew)); exact HL462_0.out) (Kd.R_base ho33) hb)
                    have n3_ := Aside0.mk (Kd.N_elder' (by (with_reducible repeat (first | apply Kd.N_alloc | apply Kd.N_drewN | apply Kd.N_drew)); exact HO465.out) (Kd.R_base ho33) hb)
                    have n4_ := Aside0.mk (Kd.N_elder' (by (with_reducible repeat (first | apply Kd.N_alloc | apply Kd.N_drewN | apply Kd.N_drew)); exact HO468.out) (Kd.R_base ho33) hb)
                    have n5_ := Aside0.mk (Kd.R_lower (Kd.R_new' ho33 (Kd.R_lt (RR HO_13.out))) (below_size (BB HB.out)))
                    have n6_ := Aside0.mk (below_step (BB HB.out) hb)
                    clear HO_11
                    clear HO_13
                    clear HL462_0
                    clear HO465
                    clear HO468
                    clear HB
                    have HO_11 := n0_
                    have HO_13 := n1_
                    have HL462_0 := n2_
                    have HO465 := n3_
                    have HO468 := n4_
                    have HO472 := n5_
                    have HB := n6_
                    clear n0_ n1_ n2_ n3_ n4_ n5_ n6_
                    clear hb ho33
                    refine hK.out _ _ ⟨HS0_, ((HB.out.cell (World.block_lt_of_cell? w _ hw469_0)).trans hw469_0)⟩ (fun hHeld => ?_)
                    clear hK K
                    refine norm_ (a' := ?_) ?_ ?_
                    rotate_left
                    ·show Act.put _ (some 79) _ = _
                     simp only [Act.put, List.setIfInBounds_toArray, List.set_cons_zero, List.set_cons_succ, i64_w, i32_w]
                     rfl
                    exact norm_ (by simp only [putAll, Act.put, List.setIfInBounds_toArray, List.set_cons_zero, List.set_cons_succ]) (hCont (.slice Ao31 y463.length co31, v467, v471) _ ⟨hHeld, (by (with_reducible repeat (first | apply Kd.V_alloc | apply Kd.V_drewN | apply Kd.V_drew)); exact Kd.V_mono HL462_0.out (by first | exact (fun _ hk => ⟨hk.1.1.2.2, ⟨hk.1.2, ⟨hk.2, ⟨hk.1.1.1, hk.1.1.2.1⟩⟩⟩⟩) | exact (fun _ hk => PT hk))), (by (with_reducible repeat (first | apply Kd.N_alloc | apply Kd.N_drewN | apply Kd.N_drew)); exact Kd.N_mono HO465.out (fun _ hk => ⟨hk.1.2, ⟨hk.2, ⟨hk.1.1.1, hk.1.1.2⟩⟩⟩)), (by (with_reducible repeat (first | apply Kd.N_alloc | apply Kd.N_drewN | apply Kd.N_drew)); exact Kd.N_mono HO468.out (fun _ hk => ⟨hk.2, ⟨hk.1.1, hk.1.2⟩⟩)), (by (with_reducible repeat (first | apply Kd.R_alloc | apply Kd.R_drewN | apply Kd.R_drew)); exact Kd.R_mono HO472.out (fun _ hk => hk.2)), (by (with_reducible repeat (first | apply Kd.N_alloc | apply Kd.N_drewN | apply Kd.N_drew)); exact Kd.N_mono HO_11.out (fun _ hk => ⟨hk.1.1.2, ⟨hk.1.2, ⟨hk.2, hk.1.1.1⟩⟩⟩)), (by (with_reducible repeat (first | apply Kd.R_alloc | apply Kd.R_drewN | apply Kd.R_drew)); exact Kd.R_mono HO_13.out (fun _ hk => hk.2)), (BB HB.out)⟩)
                   ·skip
                    refine Kd.R_lit_step Kd.string _ 9 ?hg (N := 79) ?hd (xs := ([rdOf ByteArray.empty l1 x45_2] : List ByteArray)) (inner := [.string (rdOf ByteArray.empty l1 x45_2)]) (ok := fun _ => True) (okp := fun _ => True) ?hr ?hp (fun _ hk => hk) trivial (Below.refl _ _) (Nat.le_refl _) (by simp) ?_; (case hd => rfl); (case hg => rfl); (case hr => first | (go_simp; done) | (go_simp; rfl)); (case hp => exact (Reps.one (show Kd.M Kd.string _ _ _ (rdOf ByteArray.empty l1 x45_2) [.string (rdOf ByteArray.empty l1 x45_2)] from rfl) (Reps.none _ _)))
                    intro v471 w30 ho31 hb hg_ hnew_
                    have HS0_ := (hb.cell (World.block_lt_of_cell? _ _ (hHeld.1))).trans (hHeld.1)
                    clear hg_ hnew_
                    (first | rw [← Ny470.out] at ho31 | (simp only [Int.reduceToNat] at ho31; rw [← Ny470.out] at ho31))
                    have n0_ := Aside0.mk (Kd.N_elder' (by (with_reducible repeat (first | apply Kd.N_alloc | apply Kd.N_drewN | apply Kd.N_drew)); exact HO_11.out) (Kd.R_base ho31) hb)
                    have n1_ := Aside0.mk (Kd.N_elder' (by (with_reducible repeat (first | apply Kd.N_alloc | apply Kd.N_drewN | apply Kd.N_drew)); exact HO_12.out) (Kd.R_base ho31) hb)
                    have n2_ := Aside0.mk (Kd.R_elder' (RR HO_13.out) (Kd.R_base ho31) hb)
                    have n3_ := Aside0.mk (Kd.V_elder' (by (with_reducible repeat (first | apply Kd.V_alloc | apply Kd.V_drewN | apply Kd.V_drew)); exact HL462_0.out) (Kd.R_base ho31) hb)
                    have n4_ := Aside0.mk (Kd.N_elder' (by (with_reducible repeat (first | apply Kd.N_alloc | apply Kd.N_drewN | apply Kd.N_drew)); exact HO465.out) (Kd.R_base ho31) hb)
                    have n5_ := Aside0.mk (Kd.R_lower (Kd.R_new' ho31 (Kd.R_lt (RR HO_13.out))) (below_size (BB HB.out)))
                    have n6_ := Aside0.mk (Kd.C_below (by repeat (first | (with_reducible exact HR462_0.out) | (with_reducible refine Kd.C_alloc ?_ _) | (with_reducible refine Kd.C_drewN ?_ _) | (with_reducible refine Kd.C_drew ?_) | exact HR462_0.out)) hb)
                    have n7_ := Aside0.mk (below_step (BB HB.out) hb)
                    clear HO_11
                    clear HO_12
                    clear HO_13
                    clear HL462_0
                    clear HO465
                    clear HR462_0
                    clear HB
                    have HO_11 := n0_
                    have HO_12 := n1_
                    have HO_13 := n2_
                    have HL462_0 := n3_
                    have HO465 := n4_
                    have HO472 := n5_
                    have HR462_0 := n6_
                    have HB := n7_
                    clear n0_ n1_ n2_ n3_ n4_ n5_ n6_ n7_
                    clear hb ho31
                    obtain ⟨Ao33, co33, eo33⟩ := Kd.N_slice HO465.out
                    (first | subst eo33 | (injection eo33 with f1_ f2_ f3_; have f4_ := f1_.symm; have f5_ := f3_.symm; clear f1_ f2_ f3_; subst f4_; subst f5_))
                    refine hK.out _ _ ⟨HS0_, ((HB.out.cell (World.block_lt_of_cell? w _ hw469_0)).trans hw469_0)⟩ (fun hHeld => ?_)
                    clear hK K
                    refine norm_ (a' := ?_) ?_ ?_
                    rotate_left
                    ·show Act.put _ (some 79) _ = _
                     simp only [Act.put, List.setIfInBounds_toArray, List.set_cons_zero, List.set_cons_succ, i64_w, i32_w]
                     rfl
                    refine one_ (i := 6) (N := some 73) #[true, true, true, true, true, true, true, true, true, true, true, true, true, false, false, false] rfl rfl (one_of HT_.out (by kernel_rfl)) (by decide) (fun K hK => ?_)
                    refine Kd.N_append_rows_step (Kd.slice 3 (Kd.int .i64)) (w0 := w) w.heap.size (by rfl) (.tmp 67) (.tmp 72) 50 52 (.slice none 0 0) 24 rfl Try.underlying50 info52 rfl (by decide) (by omega) (.slice Ao25 x12_2.length co25) x12_2 y463 _ _ _ (fun k_ => some k_ ≠ (.slice (some ad462) t456.length co27 : Value).ownBlock ∧ some k_ ≠ (.slice (some ad461) x13_2.length co24 : Value).ownBlock ∧ some k_ ≠ (v471 : Value).ownBlock) (fun k_ => ((fun k_ => some k_ ≠ (.slice (some ad462) t456.length co27 : Value).ownBlock ∧ some k_ ≠ (.slice (some ad461) x13_2.length co24 : Value).ownBlock ∧ some k_ ≠ (v471 : Value).ownBlock)) k_ ∧ some k_ ≠ (.slice Ao25 x12_2.length co25 : Value).ownBlock) rfl rfl ?aO ?aR (fun _ hk => hk) ?aF ?aB ?aS ?aL ?_
                    (case aR => exact (by skip; exact Kd.N_F (Kd.N_mono (ok' := (fun k_ => ((fun k_ => some k_ ≠ (.slice (some ad462) t456.length co27 : Value).ownBlock ∧ some k_ ≠ (.slice (some ad461) x13_2.length co24 : Value).ownBlock ∧ some k_ ≠ (v471 : Value).ownBlock)) k_ ∧ some k_ ≠ (.slice Ao25 x12_2.length co25 : Value).ownBlock)) (HO465.out) (fun k_ hk => ⟨⟨hk.1.1, ⟨hk.1.2.2, hk.2⟩⟩, hk.1.2.1⟩))))
                    (case aB => exact (BB HB.out))
                    (case aF => exact (fun k_ hk => ⟨Kd.fresh' (Kd.N_lt (by (with_reducible repeat (first | apply Kd.N_alloc | apply Kd.N_drewN | apply Kd.N_drew)); exact HO_11.out)) k_ hk, Kd.fresh' (Kd.R_lt (RR HO_13.out)) k_ hk, Kd.fresh' (Kd.R_lt (RR HO472.out)) k_ hk⟩))
                    (case aO => exact (by (with_reducible repeat (first | apply Kd.N_alloc | apply Kd.N_drewN | apply Kd.N_drew)); exact Kd.N_mono HO_12.out (fun _ hk => ⟨hk.1.1.1, ⟨hk.1.1.2, hk.2⟩⟩)))
                    (case aS => exact (below_size (BB HB.out)))
                    (case aL => have := LMc21.out; omega)
                    intro v467 w32 ho hb hg hat
                    have HS0_ := Go.Proofs.YtahimindlnkmoaaW.PrintWords.cell_grown hg (hHeld.1) (by have h_ := HO_11.out.1 _ rfl; first | (rw [add_block]; (first | exact h_.1.1 | exact h_.1 | exact h_.1.2 | exact h_.2 | exact h_.2.1 | exact h_.2.2 | exact h_.1.1.1 | exact h_.1.1.2 | exact h_.1.2.1 | exact h_.1.2.2 | exact h_.2.2.1 | exact h_.2.2.2 | exact h_.2.1.1 | exact h_.2.1.2 | exact h_.1.1.1.1 | exact h_.1.1.1.2 | exact h_.2.2.2.1 | exact h_.2.2.2.2 | exact h_)) | (show some (Addr.add _ _).block ≠ _; rw [add_block]; (first | exact h_.1.1 | exact h_.1 | exact h_.1.2 | exact h_.2 | exact h_.2.1 | exact h_.2.2 | exact h_.1.1.1 | exact h_.1.1.2 | exact h_.1.2.1 | exact h_.1.2.2 | exact h_.2.2.1 | exact h_.2.2.2 | exact h_.2.1.1 | exact h_.2.1.2 | exact h_.1.1.1.1 | exact h_.1.1.1.2 | exact h_.2.2.2.1 | exact h_.2.2.2.2 | exact h_)) | (first | exact h_.1.1 | exact h_.1 | exact h_.1.2 | exact h_.2 | exact h_.2.1 | exact h_.2.2 | exact h_.1.1.1 | exact h_.1.1.2 | exact h_.1.2.1 | exact h_.1.2.2 | exact h_.2.2.1 | exact h_.2.2.2 | exact h_.2.1.1 | exact h_.2.1.2 | exact h_.1.1.1.1 | exact h_.1.1.1.2 | exact h_.2.2.2.1 | exact h_.2.2.2.2 | exact h_))
                    rw [← Ny466.out] at ho
                    have n0_ := Aside0.mk (Kd.N_afterv (ok := (fun k_ => some k_ ≠ (.slice (some ad461) x13_2.length co24 : Value).ownBlock ∧ some k_ ≠ (.slice Ao33 y463.length co33 : Value).ownBlock ∧ some k_ ≠ (v471 : Value).ownBlock)) (by (with_reducible repeat (first | apply Kd.N_alloc | apply Kd.N_drewN | apply Kd.N_drew)); exact Kd.N_mono HO_11.out (fun _ hk => ⟨⟨hk.1.1.2, ⟨hk.1.2, hk.2⟩⟩, hk.1.1.1⟩)) hg hat)
                    have n1_ := Aside0.mk (Kd.R_over' (RR HO_13.out) (Kd.N_typed (by (with_reducible repeat (first | apply Kd.N_alloc | apply Kd.N_drewN | apply Kd.N_drew)); exact HO_12.out)) (by decide) hg)
                    have n2_ := Aside0.mk (Kd.V_afterv (ok := (fun k_ => some k_ ≠ (.slice (some ad462) t456.length co27 : Value).ownBlock ∧ some k_ ≠ (.slice (some ad461) x13_2.length co24 : Value).ownBlock ∧ some k_ ≠ (.slice Ao33 y463.length co33 : Value).ownBlock ∧ some k_ ≠ (v471 : Value).ownBlock)) (by (with_reducible repeat (first | apply Kd.V_alloc | apply Kd.V_drewN | apply Kd.V_drew)); exact Kd.V_mono HL462_0.out (by first | exact (fun _ hk => ⟨⟨hk.1.1.2, ⟨hk.1.1.1.2, ⟨hk.1.2, hk.2⟩⟩⟩, hk.1.1.1.1⟩) | exact (fun _ hk => PT hk))) hg hat)
                    have n3_ := Aside0.mk (Kd.N_afterv (ok := (fun k_ => some k_ ≠ (.slice (some ad462) t456.length co27 : Value).ownBlock ∧ some k_ ≠ (.slice (some ad461) x13_2.length co24 : Value).ownBlock ∧ some k_ ≠ (v471 : Value).ownBlock)) (by (with_reducible repeat (first | apply Kd.N_alloc | apply Kd.N_drewN | apply Kd.N_drew)); exact Kd.N_mono HO465.out (fun _ hk => ⟨⟨hk.1.1, ⟨hk.1.2.2, hk.2⟩⟩, hk.1.2.1⟩)) hg hat)
                    have n4_ := Aside0.mk (Kd.R_over' (RR HO472.out) (Kd.N_typed (by (with_reducible repeat (first | apply Kd.N_alloc | apply Kd.N_drewN | apply Kd.N_drew)); exact HO_12.out)) (by decide) hg)
                    have n5_ := Aside0.mk (hb)
                    have n6_ := Aside0.mk (ho)
                    clear HO_11
                    clear HO_13
                    clear HL462_0
                    clear HO465
                    clear HO472
                    clear HB
                    clear HO_12
                    have HO_11 := n0_
                    have HO_13 := n1_
                    have HL462_0 := n2_
                    have HO465 := n3_
                    have HO472 := n4_
                    have HB := n5_
                    have HO468 := n6_
                    clear n0_ n1_ n2_ n3_ n4_ n5_ n6_
                    clear ho hb hg hat
                    refine hK.out _ _ ⟨HS0_, ((HB.out.cell (World.block_lt_of_cell? w _ hw469_0)).trans hw469_0)⟩ (fun hHeld => ?_)
                    clear hK K
                    refine norm_ (a' := ?_) ?_ ?_
                    rotate_left
                    ·show Act.put _ (some 73) _ = _
                     simp only [Act.put, List.setIfInBounds_toArray, List.set_cons_zero, List.set_cons_succ, i64_w, i32_w]
                     rfl
                    exact norm_ (by simp only [putAll, Act.put, List.setIfInBounds_toArray, List.set_cons_zero, List.set_cons_succ]) (hCont (.slice Ao33 y463.length co33, v467, v471) _ ⟨hHeld, (by (with_reducible repeat (first | apply Kd.V_alloc | apply Kd.V_drewN | apply Kd.V_drew)); exact Kd.V_mono HL462_0.out (by first | exact (fun _ hk => ⟨hk.1.2.2.1, ⟨hk.2, ⟨hk.1.2.2.2, ⟨hk.1.1, hk.1.2.1⟩⟩⟩⟩) | exact (fun _ hk => PT hk))), (by (with_reducible repeat (first | apply Kd.N_alloc | apply Kd.N_drewN | apply Kd.N_drew)); exact Kd.N_mono HO465.out (fun _ hk => ⟨hk.2, ⟨hk.1.2.2, ⟨hk.1.1, hk.1.2.1⟩⟩⟩)), (by (with_reducible repeat (first | apply Kd.N_alloc | apply Kd.N_drewN | apply Kd.N_drew)); exact Kd.N_mono HO468.out (fun _ hk => ⟨hk.2.2, ⟨hk.1, hk.2.1⟩⟩)), (by (with_reducible repeat (first | apply Kd.R_alloc | apply Kd.R_drewN | apply Kd.R_drew)); exact Kd.R_mono HO472.out (fun _ hk => hk.2)), (by (with_reducible repeat (first | apply Kd.N_alloc | apply Kd.N_drewN | apply Kd.N_drew)); exact Kd.N_mono HO_11.out (fun _ hk => ⟨hk.1.2.1, ⟨hk.2, ⟨hk.1.2.2, hk.1.1⟩⟩⟩)), (by (with_reducible repeat (first | apply Kd.R_alloc | apply Kd.R_drewN | apply Kd.R_drew)); exact Kd.R_mono HO_13.out (fun _ hk => hk.2)), (BB HB.out)⟩)
                  ·skip
                   refine Kd.R_lit_step Kd.string _ 9 ?hg (N := 79) ?hd (xs := ([rdOf ByteArray.empty l1 x45_2] : List ByteArray)) (inner := [.string (rdOf ByteArray.empty l1 x45_2)]) (ok := fun _ => True) (okp := fun _ => True) ?hr ?hp (fun _ hk => hk) trivial (Below.refl _ _) (Nat.le_refl _) (by simp) ?_; (case hd => rfl); (case hg => rfl); (case hr => first | (go_simp; done) | (go_simp; rfl)); (case hp => exact (Reps.one (show Kd.M Kd.string _ _ _ (rdOf ByteArray.empty l1 x45_2) [.string (rdOf ByteArray.empty l1 x45_2)] from rfl) (Reps.none _ _)))
                   intro v471 w28 ho29 hb hg_ hnew_
                   have HS0_ := (hb.cell (World.block_lt_of_cell? _ _ (hHeld.1))).trans (hHeld.1)
                   clear hg_ hnew_
                   (first | rw [← Ny470.out] at ho29 | (simp only [Int.reduceToNat] at ho29; rw [← Ny470.out] at ho29))
                   have n0_ := Aside0.mk (Kd.N_elder' (by (with_reducible repeat (first | apply Kd.N_alloc | apply Kd.N_drewN | apply Kd.N_drew)); exact HO_11.out) (Kd.R_base ho29) hb)
                   have n1_ := Aside0.mk (Kd.N_elder' (by (with_reducible repeat (first | apply Kd.N_alloc | apply Kd.N_drewN | apply Kd.N_drew)); exact HO_12.out) (Kd.R_base ho29) hb)
                   have n2_ := Aside0.mk (Kd.R_elder' (RR HO_13.out) (Kd.R_base ho29) hb)
                   have n3_ := Aside0.mk (Kd.V_elder' (by (with_reducible repeat (first | apply Kd.V_alloc | apply Kd.V_drewN | apply Kd.V_drew)); exact HL462_0.out) (Kd.R_base ho29) hb)
                   have n4_ := Aside0.mk (Kd.R_lower (Kd.R_new' ho29 (Kd.R_lt (RR HO_13.out))) (below_size (BB HB.out)))
                   have n5_ := Aside0.mk (Kd.C_below (by repeat (first | (with_reducible exact HR462_0.out) | (with_reducible refine Kd.C_alloc ?_ _) | (with_reducible refine Kd.C_drewN ?_ _) | (with_reducible refine Kd.C_drew ?_) | exact HR462_0.out)) hb)
                   have n6_ := Aside0.mk (below_step (BB HB.out) hb)
                   clear HO_11
                   clear HO_12
                   clear HO_13
                   clear HL462_0
                   clear HR462_0
                   clear HB
                   have HO_11 := n0_
                   have HO_12 := n1_
                   have HO_13 := n2_
                   have HL462_0 := n3_
                   have HO472 := n4_
                   have HR462_0 := n5_
                   have HB := n6_
                   clear n0_ n1_ n2_ n3_ n4_ n5_ n6_
                   clear hb ho29
                   refine hK.out _ _ ⟨HS0_, ((HB.out.cell (World.block_lt_of_cell? w _ hw469_0)).trans hw469_0)⟩ (fun hHeld => ?_)
                   clear hK K
                   refine norm_ (a' := ?_) ?_ ?_
                   rotate_left
                   ·show Act.put _ (some 79) _ = _
                    simp only [Act.put, List.setIfInBounds_toArray, List.set_cons_zero, List.set_cons_succ, i64_w, i32_w]
                    rfl
                   refine one_ (i := 5) (N := some 72) #[true, true, true, true, true, true, false, true, true, true, true, true, true, false, false, false] rfl rfl (one_of HT_.out (by kernel_rfl)) (by decide) (fun K hK => ?_)
                   refine Kd.N_lit_step (Kd.slice 3 (Kd.int .i64)) _ 52 ?hg (N' := 72) ?hd (xs := ([rd_L9 t456 x45_2] : List (List Int))) (inner := [.slice A462_0 (rd_L9 t456 x45_2).length c462_0]) (ok := (fun k_ => some k_ ≠ (.slice (some ad462) t456.length co27 : Value).ownBlock ∧ some k_ ≠ (.slice Ao25 x12_2.length co25 : Value).ownBlock ∧ some k_ ≠ (.slice (some ad461) x13_2.length co24 : Value).ownBlock ∧ some k_ ≠ (v471 : Value).ownBlock)) (okp := (fun k_ => some k_ ≠ (.slice (some ad462) t456.length co27 : Value).ownBlock ∧ some k_ ≠ (.slice Ao25 x12_2.length co25 : Value).ownBlock ∧ some k_ ≠ (.slice (some ad461) x13_2.length co24 : Value).ownBlock ∧ some k_ ≠ (v471 : Value).ownBlock)) ?hr ?hp (fun _ hk => hk) ((show ∀ k_, w28.heap.size ≤ k_ → (fun k_ => some k_ ≠ (.slice (some ad462) t456.length co27 : Value).ownBlock ∧ some k_ ≠ (.slice Ao25 x12_2.length co25 : Value).ownBlock ∧ some k_ ≠ (.slice (some ad461) x13_2.length co24 : Value).ownBlock ∧ some k_ ≠ (v471 : Value).ownBlock) k_ from fun k_ hk => ⟨Kd.fresh' (Kd.N_lt (by (with_reducible repeat (first | apply Kd.N_alloc | apply Kd.N_drewN | apply Kd.N_drew)); exact HO_11.out)) k_ hk, Kd.fresh' (Kd.N_lt (by (with_reducible repeat (first | apply Kd.N_alloc | apply Kd.N_drewN | apply Kd.N_drew)); exact HO_12.out)) k_ hk, Kd.fresh' (Kd.R_lt (RR HO_13.out)) k_ hk, Kd.fresh' (Kd.R_lt (RR HO472.out)) k_ hk⟩) _ (Nat.le_refl _)) (Below.refl _ _) (Nat.le_refl _) (by simp) ?_; (case hd => rfl); (case hg => rfl); (case hr => first | (go_simp; done) | (go_simp; rfl)); (case hp => exact (Reps.one (show Kd.FK (Kd.slice 3 (Kd.int .i64)) _ _ (rd_L9 t456 x45_2) [.slice A462_0 (rd_L9 t456 x45_2).length c462_0] from (Kd.FK_slice_mk (Kd.V_reads' (Kd.V_mono (ok' := (fun k_ => some k_ ≠ (.slice (some ad462) t456.length co27 : Value).ownBlock ∧ some k_ ≠ (.slice Ao25 x12_2.length co25 : Value).ownBlock ∧ some k_ ≠ (.slice (some ad461) x13_2.length co24 : Value).ownBlock ∧ some k_ ≠ (v471 : Value).ownBlock)) (HL462_0.out) (fun k_ hk => ⟨hk.1.2, ⟨hk.1.1.1, ⟨hk.1.1.2, hk.2⟩⟩⟩))).2.1 (Kd.V_F (Kd.V_mono (ok' := (fun k_ => some k_ ≠ (.slice (some ad462) t456.length co27 : Value).ownBlock ∧ some k_ ≠ (.slice Ao25 x12_2.length co25 : Value).ownBlock ∧ some k_ ≠ (.slice (some ad461) x13_2.length co24 : Value).ownBlock ∧ some k_ ≠ (v471 : Value).ownBlock)) (HL462_0.out) (fun k_ hk => ⟨hk.1.2, ⟨hk.1.1.1, ⟨hk.1.1.2, hk.2⟩⟩⟩))))) (Reps.none _ _)))
                   intro v464 w30 ho31 hb hg_ hnew_
                   have HS0_ := (hb.cell (World.block_lt_of_cell? _ _ (hHeld.1))).trans (hHeld.1)
                   clear hg_ hnew_
                   (first | rw [← Ny463.out] at ho31 | (simp only [Int.reduceToNat] at ho31; rw [← Ny463.out] at ho31))
                   have n0_ := Aside0.mk (Kd.N_elder' (by (with_reducible repeat (first | apply Kd.N_alloc | apply Kd.N_drewN | apply Kd.N_drew)); exact HO_11.out) (Kd.N_base ho31) hb)
                   have n1_ := Aside0.mk (Kd.N_elder' (by (with_reducible repeat (first | apply Kd.N_alloc | apply Kd.N_drewN | apply Kd.N_drew)); exact HO_12.out) (Kd.N_base ho31) hb)
                   have n2_ := Aside0.mk (Kd.R_below (RR HO_13.out) hb)
                   have n3_ := Aside0.mk (Kd.V_elder' (by (with_reducible repeat (first | apply Kd.V_alloc | apply Kd.V_drewN | apply Kd.V_drew)); exact HL462_0.out) (Kd.N_base ho31) hb)
                   have n4_ := Aside0.mk (Kd.R_below (RR HO472.out) hb)
                   have n5_ := Aside0.mk (Kd.N_lower ho31 (below_size (BB HB.out)))
                   have n6_ := Aside0.mk (Kd.C_below (by repeat (first | (with_reducible exact HR462_0.out) | (with_reducible refine Kd.C_alloc ?_ _) | (with_reducible refine Kd.C_drewN ?_ _) | (with_reducible refine Kd.C_drew ?_) | exact HR462_0.out)) hb)
                   have n7_ := Aside0.mk (below_step (BB HB.out) hb)
                   clear HO_11
                   clear HO_12
                   clear HO_13
                   clear HL462_0
                   clear HO472
                   clear HR462_0
                   clear HB
                   have HO_11 := n0_
                   have HO_12 := n1_
                   have HO_13 := n2_
                   have HL462_0 := n3_
                   have HO472 := n4_
                   have HO465 := n5_
                   have HR462_0 := n6_
                   have HB := n7_
                   clear n0_ n1_ n2_ n3_ n4_ n5_ n6_ n7_
                   clear hb ho31
                   obtain ⟨Ao33, co33, eo33⟩ := Kd.N_slice HO465.out
                   (first | subst eo33 | (injection eo33 with f1_ f2_ f3_; have f4_ := f1_.symm; have f5_ := f3_.symm; clear f1_ f2_ f3_; subst f4_; subst f5_))
                   refine hK.out _ _ ⟨HS0_, ((HB.out.cell (World.block_lt_of_cell? w _ hw469_0)).trans hw469_0)⟩ (fun hHeld => ?_)
                   clear hK K
                   refine norm_ (a' := ?_) ?_ ?_
                   rotate_left
                   ·show Act.put _ (some 72) _ = _
                    simp only [Act.put, List.setIfInBounds_toArray, List.set_cons_zero, List.set_cons_succ, i64_w, i32_w]
                    rfl
                   refine one_ (i := 6) (N := some 73) #[true, true, true, true, true, true, true, true, true, true, true, true, true, false, false, false] rfl rfl (one_of HT_.out (by kernel_rfl)) (by decide) (fun K hK => ?_)
                   refine Kd.N_append_rows_step (Kd.slice 3 (Kd.int .i64)) (w0 := w) w.heap.size (by rfl) (.tmp 67) (.tmp 72) 50 52 (.slice none 0 0) 24 rfl Try.underlying50 info52 rfl (by decide) (by omega) (.slice Ao25 x12_2.length co25) x12_2 y463 _ _ _ (fun k_ => some k_ ≠ (.slice (some ad462) t456.length co27 : Value).ownBlock ∧ some k_ ≠ (.slice (some ad461) x13_2.length co24 : Value).ownBlock ∧ some k_ ≠ (v471 : Value).ownBlock) (fun k_ => ((fun k_ => some k_ ≠ (.slice (some ad462) t456.length co27 : Value).ownBlock ∧ some k_ ≠ (.slice (some ad461) x13_2.length co24 : Value).ownBlock ∧ some k_ ≠ (v471 : Value).ownBlock)) k_ ∧ some k_ ≠ (.slice Ao25 x12_2.length co25 : Value).ownBlock) rfl rfl ?aO ?aR (fun _ hk => hk) ?aF ?aB ?aS ?aL ?_
                   (case aR => exact (by skip; exact Kd.N_F (Kd.N_mono (ok' := (fun k_ => ((fun k_ => some k_ ≠ (.slice (some ad462) t456.length co27 : Value).ownBlock ∧ some k_ ≠ (.slice (some ad461) x13_2.length co24 : Value).ownBlock ∧ some k_ ≠ (v471 : Value).ownBlock)) k_ ∧ some k_ ≠ (.slice Ao25 x12_2.length co25 : Value).ownBlock)) (HO465.out) (fun k_ hk => ⟨⟨hk.1, ⟨hk.2.2.1, hk.2.2.2⟩⟩, hk.2.1⟩))))
                   (case aB => exact (BB HB.out))
                   (case aF => exact (fun k_ hk => ⟨Kd.fresh' (Kd.N_lt (by (with_reducible repeat (first | apply Kd.N_alloc | apply Kd.N_drewN | apply Kd.N_drew)); exact HO_11.out)) k_ hk, Kd.fresh' (Kd.R_lt (RR HO_13.out)) k_ hk, Kd.fresh' (Kd.R_lt (RR HO472.out)) k_ hk⟩))
                   (case aO => exact (by (with_reducible repeat (first | apply Kd.N_alloc | apply Kd.N_drewN | apply Kd.N_drew)); exact Kd.N_mono HO_12.out (fun _ hk => ⟨hk.1.1.1, ⟨hk.1.1.2, hk.1.2⟩⟩)))
                   (case aS => exact (below_size (BB HB.out)))
                   (case aL => have := LMc21.out; omega)
                   intro v467 w32 ho hb hg hat
                   have HS0_ := Go.Proofs.YtahimindlnkmoaaW.PrintWords.cell_grown hg (hHeld.1) (by have h_ := HO_11.out.1 _ rfl; first | (rw [add_block]; (first | exact h_.1.1 | exact h_.1 | exact h_.1.2 | exact h_.2 | exact h_.2.1 | exact h_.2.2 | exact h_.1.1.1 | exact h_.1.1.2 | exact h_.1.2.1 | exact h_.1.2.2 | exact h_.2.2.1 | exact h_.2.2.2 | exact h_.2.1.1 | exact h_.2.1.2 | exact h_.1.1.1.1 | exact h_.1.1.1.2 | exact h_.2.2.2.1 | exact h_.2.2.2.2 | exact h_)) | (show some (Addr.add _ _).block ≠ _; rw [add_block]; (first | exact h_.1.1 | exact h_.1 | exact h_.1.2 | exact h_.2 | exact h_.2.1 | exact h_.2.2 | exact h_.1.1.1 | exact h_.1.1.2 | exact h_.1.2.1 | exact h_.1.2.2 | exact h_.2.2.1 | exact h_.2.2.2 | exact h_.2.1.1 | exact h_.2.1.2 | exact h_.1.1.1.1 | exact h_.1.1.1.2 | exact h_.2.2.2.1 | exact h_.2.2.2.2 | exact h_)) | (first | exact h_.1.1 | exact h_.1 | exact h_.1.2 | exact h_.2 | exact h_.2.1 | exact h_.2.2 | exact h_.1.1.1 | exact h_.1.1.2 | exact h_.1.2.1 | exact h_.1.2.2 | exact h_.2.2.1 | exact h_.2.2.2 | exact h_.2.1.1 | exact h_.2.1.2 | exact h_.1.1.1.1 | exact h_.1.1.1.2 | exact h_.2.2.2.1 | exact h_.2.2.2.2 | exact h_))
                   rw [← Ny466.out] at ho
                   have n0_ := Aside0.mk (Kd.N_afterv (ok := (fun k_ => some k_ ≠ (.slice (some ad461) x13_2.length co24 : Value).ownBlock ∧ some k_ ≠ (v471 : Value).ownBlock ∧ some k_ ≠ (.slice Ao33 y463.length co33 : Value).ownBlock)) (by (with_reducible repeat (first | apply Kd.N_alloc | apply Kd.N_drewN | apply Kd.N_drew)); exact Kd.N_mono HO_11.out (fun _ hk => ⟨⟨hk.1.1.2, ⟨hk.1.2, hk.2⟩⟩, hk.1.1.1⟩)) hg hat)
                   have n1_ := Aside0.mk (Kd.R_over' (RR HO_13.out) (Kd.N_typed (by (with_reducible repeat (first | apply Kd.N_alloc | apply Kd.N_drewN | apply Kd.N_drew)); exact HO_12.out)) (by decide) hg)
                   have n2_ := Aside0.mk (Kd.V_afterv (ok := (fun k_ => some k_ ≠ (.slice (some ad462) t456.length co27 : Value).ownBlock ∧ some k_ ≠ (.slice (some ad461) x13_2.length co24 : Value).ownBlock ∧ some k_ ≠ (v471 : Value).ownBlock ∧ some k_ ≠ (.slice Ao33 y463.length co33 : Value).ownBlock)) (by (with_reducible repeat (first | apply Kd.V_alloc | apply Kd.V_drewN | apply Kd.V_drew)); exact Kd.V_mono HL462_0.out (by first | exact (fun _ hk => ⟨⟨hk.1.1.2, ⟨hk.1.1.1.2, ⟨hk.1.2, hk.2⟩⟩⟩, hk.1.1.1.1⟩) | exact (fun _ hk => PT hk))) hg hat)
                   have n3_ := Aside0.mk (Kd.R_over' (RR HO472.out) (Kd.N_typed (by (with_reducible repeat (first | apply Kd.N_alloc | apply Kd.N_drewN | apply Kd.N_drew)); exact HO_12.out)) (by decide) hg)
                   have n4_ := Aside0.mk (Kd.N_afterv (ok := (fun k_ => some k_ ≠ (.slice (some ad462) t456.length co27 : Value).ownBlock ∧ some k_ ≠ (.slice (some ad461) x13_2.length co24 : Value).ownBlock ∧ some k_ ≠ (v471 : Value).ownBlock)) (by (with_reducible repeat (first | apply Kd.N_alloc | apply Kd.N_drewN | apply Kd.N_drew)); exact Kd.N_mono HO465.out (fun _ hk => ⟨⟨hk.1, ⟨hk.2.2.1, hk.2.2.2⟩⟩, hk.2.1⟩)) hg hat)
                   have n5_ := Aside0.mk (hb)
                   have n6_ := Aside0.mk (ho)
                   clear HO_11
                   clear HO_13
                   clear HL462_0
                   clear HO472
                   clear HO465
                   clear HB
                   clear HO_12
                   have HO_11 := n0_
                   have HO_13 := n1_
                   have HL462_0 := n2_
                   have HO472 := n3_
                   have HO465 := n4_
                   have HB := n5_
                   have HO468 := n6_
                   clear n0_ n1_ n2_ n3_ n4_ n5_ n6_
                   clear ho hb hg hat
                   refine hK.out _ _ ⟨HS0_, ((HB.out.cell (World.block_lt_of_cell? w _ hw469_0)).trans hw469_0)⟩ (fun hHeld => ?_)
                   clear hK K
                   refine norm_ (a' := ?_) ?_ ?_
                   rotate_left
                   ·show Act.put _ (some 73) _ = _
                    simp only [Act.put, List.setIfInBounds_toArray, List.set_cons_zero, List.set_cons_succ, i64_w, i32_w]
                    rfl
                   exact norm_ (by simp only [putAll, Act.put, List.setIfInBounds_toArray, List.set_cons_zero, List.set_cons_succ]) (hCont (.slice Ao33 y463.length co33, v467, v471) _ ⟨hHeld, (by (with_reducible repeat (first | apply Kd.V_alloc | apply Kd.V_drewN | apply Kd.V_drew)); exact Kd.V_mono HL462_0.out (by first | exact (fun _ hk => ⟨hk.1.2.2.2, ⟨hk.2, ⟨hk.1.2.2.1, ⟨hk.1.1, hk.1.2.1⟩⟩⟩⟩) | exact (fun _ hk => PT hk))), (by (with_reducible repeat (first | apply Kd.N_alloc | apply Kd.N_drewN | apply Kd.N_drew)); exact Kd.N_mono HO465.out (fun _ hk => ⟨hk.2, ⟨hk.1.2.2, ⟨hk.1.1, hk.1.2.1⟩⟩⟩)), (by (with_reducible repeat (first | apply Kd.N_alloc | apply Kd.N_drewN | apply Kd.N_drew)); exact Kd.N_mono HO468.out (fun _ hk => ⟨hk.2.2, ⟨hk.1, hk.2.1⟩⟩)), (by (with_reducible repeat (first | apply Kd.R_alloc | apply Kd.R_drewN | apply Kd.R_drew)); exact Kd.R_mono HO472.out (fun _ hk => hk.2)), (by (with_reducible repeat (first | apply Kd.N_alloc | apply Kd.N_drewN | apply Kd.N_drew)); exact Kd.N_mono HO_11.out (fun _ hk => ⟨hk.1.2.2, ⟨hk.2, ⟨hk.1.2.1, hk.1.1⟩⟩⟩)), (by (with_reducible repeat (first | apply Kd.R_alloc | apply Kd.R_drewN | apply Kd.R_drew)); exact Kd.R_mono HO_13.out (fun _ hk => hk.2)), (BB HB.out)⟩)
                 rintro ⟨v464, v467, v471⟩ w34 ⟨hS_, h0_, h1_, h2_, h3_, h4_, h5_, h6_⟩
                 have n0_ : Aside0 (Kd.V (Kd.int .i64) 3 w34 w.heap.size (fun k_ => some k_ ≠ (v464 : Value).ownBlock ∧ some k_ ≠ (v467 : Value).ownBlock ∧ some k_ ≠ (v471 : Value).ownBlock ∧ some k_ ≠ (.slice (some ad462) t456.length co27 : Value).ownBlock ∧ some k_ ≠ (.slice (some ad461) x13_2.length co24 : Value).ownBlock) (.slice A462_0 (rd_L9 t456 x45_2).length c462_0) (rd_L9 t456 x45_2)) := ⟨h0_⟩
                 have n1_ : Aside0 (Kd.N (Kd.slice 3 (Kd.int .i64)) 52 w34 w.heap.size (fun k_ => some k_ ≠ (v467 : Value).ownBlock ∧ some k_ ≠ (v471 : Value).ownBlock ∧ some k_ ≠ (.slice (some ad462) t456.length co27 : Value).ownBlock ∧ some k_ ≠ (.slice (some ad461) x13_2.length co24 : Value).ownBlock) v464 y463) := ⟨h1_⟩
                 have n2_ : Aside0 (Kd.N (Kd.slice 3 (Kd.int .i64)) 52 w34 w.heap.size (fun k_ => some k_ ≠ (v471 : Value).ownBlock ∧ some k_ ≠ (.slice (some ad462) t456.length co27 : Value).ownBlock ∧ some k_ ≠ (.slice (some ad461) x13_2.length co24 : Value).ownBlock) v467 y466) := ⟨h2_⟩
                 have n3_ : Aside0 (Kd.R Kd.string 9 w34 w.heap.size (fun k_ => some k_ ≠ (.slice (some ad461) x13_2.length co24 : Value).ownBlock) v471 y470) := ⟨h3_⟩
                 have n4_ : Aside0 (Kd.N (Kd.slice 3 (Kd.int .i64)) 52 w34 w.heap.size (fun k_ => some k_ ≠ (v464 : Value).ownBlock ∧ some k_ ≠ (v467 : Value).ownBlock ∧ some k_ ≠ (v471 : Value).ownBlock ∧ some k_ ≠ (.slice (some ad461) x13_2.length co24 : Value).ownBlock) (.slice (some ad462) t456.length co27) t456) := ⟨h4_⟩
                 have n5_ : Aside0 (Kd.R Kd.string 9 w34 w.heap.size (fun k_ => some k_ ≠ (v471 : Value).ownBlock) (.slice (some ad461) x13_2.length co24) x13_2) := ⟨h5_⟩
                 have n6_ : Aside0 (Below w.heap.size w w34) := ⟨h6_⟩
                 clear HO_11
                 clear HO_12
                 clear HO_13
                 clear HB
                 clear h0_ h1_ h2_ h3_ h4_ h5_ h6_
                 have HL462_0 := n0_
                 have HO465 := n1_
                 have HO468 := n2_
                 have HO472 := n3_
                 have HO_11 := n4_
                 have HO_13 := n5_
                 have HB := n6_
                 clear n0_ n1_ n2_ n3_ n4_ n5_ n6_
                 have hHeld : w34.cell? (ad462.add (x45_2).toNat) = some (.slice A462_0 (rd_L9 t456 x45_2).length c462_0) ∧ w34.cell? (ad460.add (x45_2).toNat) = some (.string (rdOf ByteArray.empty l1 x45_2)) := hS_
                 obtain ⟨Ao36, co36, eo36⟩ := Kd.R_slice HO472.out
                 (first | subst eo36 | (injection eo36 with f1_ f2_ f3_; have f4_ := f1_.symm; have f5_ := f3_.symm; clear f1_ f2_ f3_; subst f4_; subst f5_))
                 refine norm_ (a' := ?_) ?_ ?_
                 rotate_left
                 ·simp only [putAll, Act.put, List.setIfInBounds_toArray, List.set_cons_zero, List.set_cons_succ]
                  rfl
                 refine one_ (i := 13) (N := some 80) #[true, true, true, true, true, true, true, true, true, true, true, true, true, true, false, false] rfl rfl (one_of HT_.out (by kernel_rfl)) (by decide) (fun K hK => ?_)
                 refine Kd.R_append_rows_step Kd.string (w0 := w) w.heap.size (by rfl) (.tmp 74) (.tmp 79) 34 9 (.string ⟨#[]⟩) 16 rfl Try.underlying34 info9 rfl (by decide) (by omega) (.slice (some ad461) x13_2.length co24) x13_2 y470 _ _ _ (fun k_ => some k_ ≠ (.slice Ao36 y470.length co36 : Value).ownBlock) (fun _ => False) rfl rfl ?aO ?aR (fun _ _ h => h) (fun _ h => h.elim) ?aF ?aB ?aS ?aL ?_
                 (case aR => exact CC (Kd.R_reads' HO472.out).2.2)
                 (case aB => exact (BB HB.out))
                 (case aF => exact (fun k_ hk => Kd.fresh' (Kd.R_lt (RR HO472.out)) k_ hk))
                 (case aO => exact (RR HO_13.out))
                 (case aS => exact (below_size (BB HB.out)))
                 (case aL => have := LMc22.out; omega)
                 intro v474 w35 ho hb hg hat
                 have HS0_ := Go.Proofs.YtahimindlnkmoaaW.PrintWords.cell_grown hg (hHeld.1) (by have h_ := HO_11.out.1 _ rfl; first | (rw [add_block]; (first | exact h_.1.1 | exact h_.1 | exact h_.1.2 | exact h_.2 | exact h_.2.1 | exact h_.2.2 | exact h_.1.1.1 | exact h_.1.1.2 | exact h_.1.2.1 | exact h_.1.2.2 | exact h_.2.2.1 | exact h_.2.2.2 | exact h_.2.1.1 | exact h_.2.1.2 | exact h_.1.1.1.1 | exact h_.1.1.1.2 | exact h_.2.2.2.1 | exact h_.2.2.2.2 | exact h_)) | (show some (Addr.add _ _).block ≠ _; rw [add_block]; (first | exact h_.1.1 | exact h_.1 | exact h_.1.2 | exact h_.2 | exact h_.2.1 | exact h_.2.2 | exact h_.1.1.1 | exact h_.1.1.2 | exact h_.1.2.1 | exact h_.1.2.2 | exact h_.2.2.1 | exact h_.2.2.2 | exact h_.2.1.1 | exact h_.2.1.2 | exact h_.1.1.1.1 | exact h_.1.1.1.2 | exact h_.2.2.2.1 | exact h_.2.2.2.2 | exact h_)) | (first | exact h_.1.1 | exact h_.1 | exact h_.1.2 | exact h_.2 | exact h_.2.1 | exact h_.2.2 | exact h_.1.1.1 | exact h_.1.1.2 | exact h_.1.2.1 | exact h_.1.2.2 | exact h_.2.2.1 | exact h_.2.2.2 | exact h_.2.1.1 | exact h_.2.1.2 | exact h_.1.1.1.1 | exact h_.1.1.1.2 | exact h_.2.2.2.1 | exact h_.2.2.2.2 | exact h_))
                 rw [← Ny473.out] at ho
                 have n0_ := Aside0.mk (Kd.N_afterv (ok := (fun k_ => some k_ ≠ (v464 : Value).ownBlock ∧ some k_ ≠ (v467 : Value).ownBlock ∧ some k_ ≠ (.slice Ao36 y470.length co36 : Value).ownBlock)) (by (with_reducible repeat (first | apply Kd.N_alloc | apply Kd.N_drewN | apply Kd.N_drew)); exact Kd.N_mono HO_11.out (fun _ hk => ⟨⟨hk.1, ⟨hk.2.1, hk.2.2.1⟩⟩, hk.2.2.2⟩)) hg hat)
                 have n1_ := Aside0.mk (Kd.V_afterv (ok := (fun k_ => some k_ ≠ (.slice (some ad462) t456.length co27 : Value).ownBlock ∧ some k_ ≠ (v464 : Value).ownBlock ∧ some k_ ≠ (v467 : Value).ownBlock ∧ some k_ ≠ (.slice Ao36 y470.length co36 : Value).ownBlock)) (by (with_reducible repeat (first | apply Kd.V_alloc | apply Kd.V_drewN | apply Kd.V_drew)); exact Kd.V_mono HL462_0.out (by first | exact (fun _ hk => ⟨⟨hk.2.2.2.1, ⟨hk.1, ⟨hk.2.1, hk.2.2.1⟩⟩⟩, hk.2.2.2.2⟩) | exact (fun _ hk => PT hk))) hg hat)
                 have n2_ := Aside0.mk (Kd.N_afterv (ok := (fun k_ => some k_ ≠ (.slice (some ad462) t456.length co27 : Value).ownBlock ∧ some k_ ≠ (v467 : Value).ownBlock ∧ some k_ ≠ (.slice Ao36 y470.length co36 : Value).ownBlock)) (by (with_reducible repeat (first | apply Kd.N_alloc | apply Kd.N_drewN | apply Kd.N_drew)); exact Kd.N_mono HO465.out (fun _ hk => ⟨⟨hk.2.2.1, ⟨hk.1, hk.2.1⟩⟩, hk.2.2.2⟩)) hg hat)
                 have n3_ := Aside0.mk (Kd.N_afterv (ok := (fun k_ => some k_ ≠ (.slice (some ad462) t456.length co27 : Value).ownBlock ∧ some k_ ≠ (.slice Ao36 y470.length co36 : Value).ownBlock)) (by (with_reducible repeat (first | apply Kd.N_alloc | apply Kd.N_drewN | apply Kd.N_drew)); exact Kd.N_mono HO468.out (fun _ hk => ⟨⟨hk.2.1, hk.1⟩, hk.2.2⟩)) hg hat)
                 have n4_ := Aside0.mk (Kd.R_after (ok := (fun _ => True)) (by (with_reducible repeat (first | apply Kd.R_alloc | apply Kd.R_drewN | apply Kd.R_drew)); exact Kd.R_mono HO472.out (fun _ hk => ⟨trivial, hk⟩)) hg hat)
                 have n5_ := Aside0.mk (hb)
                 have n6_ := Aside0.mk (ho)
                 clear HO_11
                 clear HL462_0
                 clear HO465
                 clear HO468
                 clear HO472
                 clear HB
                 clear HO_13
                 have HO_11 := n0_
                 have HL462_0 := n1_
                 have HO465 := n2_
                 have HO468 := n3_
                 have HO472 := n4_
                 have HB := n5_
                 have HO475 := n6_
                 clear n0_ n1_ n2_ n3_ n4_ n5_ n6_
                 clear ho hb hg hat
                 refine hK.out _ _ ⟨HS0_, ((HB.out.cell (World.block_lt_of_cell? w _ hw469_0)).trans hw469_0)⟩ (fun hHeld => ?_)
                 clear hK K
                 refine norm_ (a' := ?_) ?_ ?_
                 rotate_left
                 ·show Act.put _ (some 80) _ = _
                  simp only [Act.put, List.setIfInBounds_toArray, List.set_cons_zero, List.set_cons_succ, i64_w, i32_w]
                  rfl
                 refine pure_ (i := 14) (N := some 12) (v := ?_) (a' := ?_) #[true, true, true, true, true, true, true, true, true, true, true, true, true, true, true, false] rfl rfl (any_of HT_.out (by kernel_rfl)) (fun _ _ _ h => h) (Or.inl ⟨by rfl, ?_⟩) ?_ ?_
                 rotate_left
                 ·intro w'
                  go_simp
                  with_reducible rfl
                 rotate_left
                 ·simp only [Act.put, List.setIfInBounds_toArray, List.set_cons_zero, List.set_cons_succ, i64_w, i32_w]
                  rfl
                 refine pure_ (i := 15) (N := some 13) (v := ?_) (a' := ?_) #[true, true, true, true, true, true, true, true, true, true, true, true, true, true, true, true] rfl rfl (any_of HT_.out (by kernel_rfl)) (fun _ _ _ h => h) (Or.inl ⟨by rfl, ?_⟩) ?_ ?_
                 rotate_left
                 ·intro w'
                  go_simp
                  with_reducible rfl
                 rotate_left
                 ·simp only [Act.put, List.setIfInBounds_toArray, List.set_cons_zero, List.set_cons_succ, i64_w, i32_w]
                  rfl
                 refine done_ (done_of HT_.out (by kernel_rfl)) ?_
                 try go_wp2
                 go_roundg k2
                 case measure => have := HJ4.out; have := HK2.out; omega
                 case rel => exact ⟨(y466), (y473), (wrap64 (x45_2 + 1)), FR, H', ⟨by have := HJ4.out; have := HK2.out; omega⟩, ⟨by (with_reducible repeat (first | apply Kd.N_alloc | apply Kd.N_drewN | apply Kd.N_drew)); exact Kd.N_mono HO_11.out (fun _ hk => ⟨hk.1.2.1, hk.2⟩)⟩, ⟨by (with_reducible repeat (first | apply Kd.N_alloc | apply Kd.N_drewN | apply Kd.N_drew)); exact Kd.N_mono HO468.out (fun _ hk => ⟨hk.1.1, hk.2⟩)⟩, ⟨by (with_reducible repeat (first | apply Kd.R_alloc | apply Kd.R_drewN | apply Kd.R_drew)); exact Kd.R_mono HO475.out (fun _ hk => trivial)⟩, ⟨(BB HB.out)⟩⟩
                ·rw [if_neg c22] at H
                 exact absurd H (by simp)
               ·rw [if_neg c21] at H
                exact absurd H (by simp)
              ·rw [if_neg c20] at H
               exact absurd H (by simp)
             ·rw [if_neg c19] at H
              have c19b0 : (((rdOf ByteArray.empty l1 x45_2).size : Int) == ((rdOf ByteArray.empty x13_2 0).size : Int)) = false := beq_eq_false_iff_ne.mpr c19
              have c19b1 : (((rdOf ByteArray.empty l1 x45_2).size : Int) != ((rdOf ByteArray.empty x13_2 0).size : Int)) = true := bne_iff_ne.mpr c19
              have c19b2 : ((rdOf ByteArray.empty l1 x45_2).size == (rdOf ByteArray.empty x13_2 0).size) = false := by first | simpa using c19 | (simp at c19 ⊢; omega)
              simp only [Option.some.injEq, Prod.mk.injEq] at H
              obtain ⟨rfl, rfl⟩ := H
              have p459 : 0 ≤ (x45_2 : Int) := DT
              have q459 : x45_2 < (l2.length : Int) := DT
              obtain ⟨ad459, e459, hx459_0⟩ := Kd.at_bool HR2.out x45_2 p459 q459
              (try rw [← Nbq14.out] at hx459_0)
              cases e459
              replace hx459_0 := (HB.out.cell (World.block_lt_of_cell? w _ hx459_0)).trans hx459_0
              replace p459 := eq_true p459
              replace q459 := eq_true q459
              try go_wp2
              have n0_ := Aside0.mk (Kd.N_drew HO_11.out)
              have n1_ := Aside0.mk (Kd.N_drew HO_12.out)
              have n2_ := Aside0.mk (Kd.R_drew HO_13.out)
              have n3_ := Aside0.mk (below_drew1 HB.out)
              clear HO_11
              clear HO_12
              clear HO_13
              clear HB
              have HO_11 := n0_
              have HO_12 := n1_
              have HO_13 := n2_
              have HB := n3_
              clear n0_ n1_ n2_ n3_
              obtain ⟨Ao38, co38, eo38⟩ := Kd.R_slice HO_13.out
              (first | subst eo38 | (injection eo38 with f1_ f2_ f3_; have f4_ := f1_.symm; have f5_ := f3_.symm; clear f1_ f2_ f3_; subst f4_; subst f5_))
              have p460 : 0 ≤ (x45_2 : Int) := DT
              have q460 : x45_2 < (l1.length : Int) := DT
              obtain ⟨ad460, e460, hx460_0⟩ := Kd.at_string HR1.out x45_2 p460 q460
              have hw460_0 := hx460_0
              cases e460
              replace hx460_0 := (HB.out.cell (World.block_lt_of_cell? w _ hx460_0)).trans hx460_0
              replace p460 := eq_true p460
              replace q460 := eq_true q460
              have p461 : 0 ≤ (0 : Int) := (by omega)
              have q461 : 0 < (x13_2.length : Int) := DT
              obtain ⟨ad461, e461, hx461_0⟩ := Kd.at_string (Kd.R_reads' HO_13.out).2.2 0 p461 q461
              cases e461
              have qi461 : (0 < x13_2.length) = True := eq_true (by omega)
              (try rw [show ((0 : Int)).toNat = 0 from rfl] at hx461_0)
              (try rw [Addr.add_zero'] at hx461_0)
              replace p461 := eq_true p461
              replace q461 := eq_true q461
              refine start_ (n := 15) (S := fun w' => w'.cell? (ad460.add (x45_2).toNat) = some (.string (rdOf ByteArray.empty l1 x45_2)) ∧ w'.cell? ad461 = some (.string (rdOf ByteArray.empty x13_2 0))) (ds := []) #[false, false, false, false, false, false, false, false, false, false, false, false, false, false, false] (by kernel_rfl) rfl rfl ⟨((HB.out.cell (World.block_lt_of_cell? w _ hw460_0)).trans hw460_0), hx461_0⟩ (fun hHeld => ?_); refine with_tabW impl_Decode.tab11 impl_Decode.bits11 (fun HT_ HW_ => ?_)
              generalize wr.drew = w37 at HO_11 HO_12 HO_13 HB hx460_0 hx461_0 hHeld ⊢
              refine pure_ (i := 0) (N := some 52) (v := ?_) (a' := ?_) #[true, false, false, false, false, false, false, false, false, false, false, false, false, false, false] rfl rfl (any_of HT_.out (by kernel_rfl)) (fun _ _ _ h => h) (Or.inl ⟨by rfl, ?_⟩) ?_ ?_
              rotate_left
              ·intro w'
               go_simp
               with_reducible rfl
              rotate_left
              ·simp only [Act.put, List.setIfInBounds_toArray, List.set_cons_zero, List.set_cons_succ, i64_w, i32_w]
               rfl
              refine pure_ (i := 1) (N := some 53) (v := ?_) (a' := ?_) #[true, true, false, false, false, false, false, false, false, false, false, false, false, false, false] rfl rfl (any_of HT_.out (by kernel_rfl)) (fun _ _ _ h => h) (Or.inl ⟨by rfl, ?_⟩) ?_ ?_
              rotate_left
              ·intro w'
               go_simp
               with_reducible rfl
              rotate_left
              ·simp only [Act.put, List.setIfInBounds_toArray, List.set_cons_zero, List.set_cons_succ, i64_w, i32_w]
               rfl
              refine pure_ (i := 2) (N := some 54) (v := ?_) (a' := ?_) #[true, true, true, false, false, false, false, false, false, false, false, false, false, false, false] rfl rfl (any_of HT_.out (by kernel_rfl)) (fun _ _ _ h => h) (Or.inl ⟨by rfl, ?_⟩) ?_ ?_
              rotate_left
              ·intro w'
               go_simp
               with_reducible rfl
              rotate_left
              ·simp only [Act.put, List.setIfInBounds_toArray, List.set_cons_zero, List.set_cons_succ, i64_w, i32_w]
               rfl
              refine pure_ (i := 3) (N := some 55) (v := ?_) (a' := ?_) #[true, true, true, true, false, false, false, false, false, false, false, false, false, false, false] rfl rfl (any_of HT_.out (by kernel_rfl)) (fun _ _ _ h => h) (Or.inl ⟨by rfl, ?_⟩) ?_ ?_
              rotate_left
              ·intro w'
               go_simp
               with_reducible rfl
              rotate_left
              ·simp only [Act.put, List.setIfInBounds_toArray, List.set_cons_zero, List.set_cons_succ, i64_w, i32_w]
               rfl
              refine pure_ (i := 4) (N := some 56) (v := ?_) (a' := ?_) #[true, true, true, true, true, false, false, false, false, false, false, false, false, false, false] rfl rfl (any_of HT_.out (by kernel_rfl)) (fun _ _ _ h => h) (Or.inl ⟨by rfl, ?_⟩) ?_ ?_
              rotate_left
              ·intro w'
               go_simp
               with_reducible rfl
              rotate_left
              ·simp only [Act.put, List.setIfInBounds_toArray, List.set_cons_zero, List.set_cons_succ, i64_w, i32_w]
               rfl
              refine pure_ (i := 5) (N := some 57) (v := ?_) (a' := ?_) #[true, true, true, true, true, true, false, false, false, false, false, false, false, false, false] rfl rfl (any_of HT_.out (by kernel_rfl)) (fun _ _ _ h => h) (Or.inl ⟨by rfl, ?_⟩) ?_ ?_
              rotate_left
              ·intro w'
               go_simp
               with_reducible rfl
              rotate_left
              ·simp only [Act.put, List.setIfInBounds_toArray, List.set_cons_zero, List.set_cons_succ, i64_w, i32_w]
               rfl
              refine pure_ (i := 6) (N := some 58) (v := ?_) (a' := ?_) #[true, true, true, true, true, true, true, false, false, false, false, false, false, false, false] rfl rfl (any_of HT_.out (by kernel_rfl)) (fun _ _ _ h => h) (Or.inl ⟨by rfl, ?_⟩) ?_ ?_
              rotate_left
              ·intro w'
               go_simp
               with_reducible rfl
              rotate_left
              ·simp only [Act.put, List.setIfInBounds_toArray, List.set_cons_zero, List.set_cons_succ, i64_w, i32_w]
               rfl
              refine pure_ (i := 9) (N := some 61) (v := ?_) (a' := ?_) #[true, true, true, true, true, true, true, false, false, true, false, false, false, false, false] rfl rfl (any_of HT_.out (by kernel_rfl)) (fun _ _ _ h => h) (Or.inl ⟨by rfl, ?_⟩) ?_ ?_
              rotate_left
              ·intro w'
               go_simp
               with_reducible rfl
              rotate_left
              ·simp only [Act.put, List.setIfInBounds_toArray, List.set_cons_zero, List.set_cons_succ, i64_w, i32_w]
               rfl
              refine pure_ (i := 10) (N := some 62) (v := ?_) (a' := ?_) #[true, true, true, true, true, true, true, false, false, true, true, false, false, false, false] rfl rfl (any_of HT_.out (by kernel_rfl)) (fun _ _ _ h => h) (Or.inl ⟨by rfl, ?_⟩) ?_ ?_
              rotate_left
              ·intro w'
               go_simp
               with_reducible rfl
              rotate_left
              ·simp only [Act.put, List.setIfInBounds_toArray, List.set_cons_zero, List.set_cons_succ, i64_w, i32_w]
               rfl
              refine take_ (i := 7) (N := some 59) (v := ?_) (a' := ?_) #[true, true, true, true, true, true, true, true, false, true, true, false, false, false, false] rfl rfl (take_ofW HT_.out HW_.out (by kernel_rfl)) (fun _ _ _ h => h) (Or.inl ⟨by rfl, ?_⟩) hHeld ?_ ?_
              rotate_left
              ·rintro w' ⟨s0, s1⟩
               go_simp
               with_reducible rfl
              rotate_left
              ·simp only [Act.put, List.setIfInBounds_toArray, List.set_cons_zero, List.set_cons_succ, i64_w, i32_w]
               rfl
              refine pure_ (i := 8) (N := some 60) (v := ?_) (a' := ?_) #[true, true, true, true, true, true, true, true, true, true, true, false, false, false, false] rfl rfl (any_of HT_.out (by kernel_rfl)) (fun _ _ _ h => h) (Or.inl ⟨by rfl, ?_⟩) ?_ ?_
              rotate_left
              ·intro w'
               go_simp
               with_reducible rfl
              rotate_left
              ·simp only [Act.put, List.setIfInBounds_toArray, List.set_cons_zero, List.set_cons_succ, i64_w, i32_w]
               rfl
              refine take_ (i := 11) (N := some 63) (v := ?_) (a' := ?_) #[true, true, true, true, true, true, true, true, true, true, true, true, false, false, false] rfl rfl (take_ofW HT_.out HW_.out (by kernel_rfl)) (fun _ _ _ h => h) (Or.inl ⟨by rfl, ?_⟩) hHeld ?_ ?_
              rotate_left
              ·rintro w' ⟨s0, s1⟩
               go_simp
               with_reducible rfl
              rotate_left
              ·simp only [Act.put, List.setIfInBounds_toArray, List.set_cons_zero, List.set_cons_succ, i64_w, i32_w]
               rfl
              refine pure_ (i := 12) (N := some 64) (v := ?_) (a' := ?_) #[true, true, true, true, true, true, true, true, true, true, true, true, true, false, false] rfl rfl (any_of HT_.out (by kernel_rfl)) (fun _ _ _ h => h) (Or.inl ⟨by rfl, ?_⟩) ?_ ?_
              rotate_left
              ·intro w'
               go_simp
               with_reducible rfl
              rotate_left
              ·simp only [Act.put, List.setIfInBounds_toArray, List.set_cons_zero, List.set_cons_succ, i64_w, i32_w]
               rfl
              refine pure_ (i := 13) (N := some 65) (v := ?_) (a' := ?_) #[true, true, true, true, true, true, true, true, true, true, true, true, true, true, false] rfl rfl (any_of HT_.out (by kernel_rfl)) (fun _ _ _ h => h) (Or.inl ⟨by rfl, ?_⟩) ?_ ?_
              rotate_left
              ·intro w'
               go_simp
               with_reducible rfl
              rotate_left
              ·simp only [Act.put, List.setIfInBounds_toArray, List.set_cons_zero, List.set_cons_succ, i64_w, i32_w]
               rfl
              refine pure_ (i := 14) (N := some 66) (v := ?_) (a' := ?_) #[true, true, true, true, true, true, true, true, true, true, true, true, true, true, true] rfl rfl (any_of HT_.out (by kernel_rfl)) (fun _ _ _ h => h) (Or.inl ⟨by rfl, ?_⟩) ?_ ?_
              rotate_left
              ·intro w'
               go_simp
               with_reducible rfl
              rotate_left
              ·simp only [Act.put, List.setIfInBounds_toArray, List.set_cons_zero, List.set_cons_succ, i64_w, i32_w]
               rfl
              refine done_ (done_of HT_.out (by kernel_rfl)) ?_
              try go_wp2
              go_ret2
              exact ⟨_, ER, by first | exact Kd.R_nil _ _ _ _ _ | exact Kd.N_nil _ _ _ _ _ | exact Kd.V_nil _ _ _ _ _ | exact Kd.Q_nil _ _ _ _ _ | exact Kd.S_nil _ _ _ _ _, (BB HB.out)⟩
            ·rw [if_neg c18] at H
             exact absurd H (by simp)
           ·rw [if_neg c17] at H
            exact absurd H (by simp)
          ·rw [if_neg c16] at H
           have c16b0 : decide (0 < (x13_2.length : Int)) = false := decide_eq_false c16
           have c16b1 : decide (0 < x13_2.length) = false := decide_eq_false (by omega)
           clear c16
           by_cases c39 : x45_2 < (t456.length : Int)
           ·rw [if_pos c39] at H
            have c39b0 : decide (x45_2 < (t456.length : Int)) = true := decide_eq_true c39
            clear c39
            obtain ⟨y477, hy477⟩ : ∃ y_ : List (List Int), y_ = (([rd_L9 t456 x45_2] : List (List Int))) := ⟨_, rfl⟩
            replace H : (if x12_2.length + y477.length < 5864062014805 then (if x45_2 < (l1.length : Int) then ((some (([rdOf ByteArray.empty l1 x45_2] : List ByteArray) : List ByteArray)).bind fun y484 => (if x13_2.length + y484.length < 8796093022208 then (impl_Decode.l0 k2 l1 t453 t456 (x12_2 ++ y477) (x13_2 ++ y484) l2 (l2.length : Int) (wrap64 (x45_2 + 1))) else (none))) else (none)) else (none)) = some (r1, r2) := by first | (rw [hy477]; with_reducible exact H) | (have H2_ := (Option.bind_some _ _).symm.trans H; rw [hy477]; with_reducible exact H2_) | (have H2_ := (Option.bind_some _ _).symm.trans H; with_reducible exact H2_) | with_reducible exact H | (rw [hy477]; exact H) | exact H
            have Ny477 := Aside0.mk hy477
            clear hy477
            by_cases c40 : x12_2.length + y477.length < 5864062014805
            ·rw [if_pos c40] at H
             have LMc40 := Aside0.mk c40
             clear c40
             obtain ⟨y480, hy480⟩ : ∃ y_ : List (List Int), y_ = (x12_2 ++ y477) := ⟨_, rfl⟩
             replace H : (if x45_2 < (l1.length : Int) then ((some (([rdOf ByteArray.empty l1 x45_2] : List ByteArray) : List ByteArray)).bind fun y484 => (if x13_2.length + y484.length < 8796093022208 then (impl_Decode.l0 k2 l1 t453 t456 y480 (x13_2 ++ y484) l2 (l2.length : Int) (wrap64 (x45_2 + 1))) else (none))) else (none)) = some (r1, r2) := by first | (rw [hy480]; with_reducible exact H) | (have H2_ := (Option.bind_some _ _).symm.trans H; rw [hy480]; with_reducible exact H2_) | (have H2_ := (Option.bind_some _ _).symm.trans H; with_reducible exact H2_) | with_reducible exact H | (rw [hy480]; exact H) | exact H
             have Ny480 := Aside0.mk hy480
             clear hy480
             by_cases c41 : x45_2 < (l1.length : Int)
             ·rw [if_pos c41] at H
              have c41b0 : decide (x45_2 < (l1.length : Int)) = true := decide_eq_true c41
              clear c41
              obtain ⟨y484, hy484⟩ : ∃ y_ : List ByteArray, y_ = (([rdOf ByteArray.empty l1 x45_2] : List ByteArray)) := ⟨_, rfl⟩
              replace H : (if x13_2.length + y484.length < 8796093022208 then (impl_Decode.l0 k2 l1 t453 t456 y480 (x13_2 ++ y484) l2 (l2.length : Int) (wrap64 (x45_2 + 1))) else (none)) = some (r1, r2) := by first | (rw [hy484]; with_reducible exact H) | (have H2_ := (Option.bind_some _ _).symm.trans H; rw [hy484]; with_reducible exact H2_) | (have H2_ := (Option.bind_some _ _).symm.trans H; with_reducible exact H2_) | with_reducible exact H | (rw [hy484]; exact H) | exact H
              have Ny484 := Aside0.mk hy484
              clear hy484
              by_cases c42 : x13_2.length + y484.length < 8796093022208
              ·rw [if_pos c42] at H
               have LMc42 := Aside0.mk c42
               clear c42
               obtain ⟨y487, hy487⟩ : ∃ y_ : List ByteArray, y_ = (x13_2 ++ y484) := ⟨_, rfl⟩
               replace H : (impl_Decode.l0 k2 l1 t453 t456 y480 y487 l2 (l2.length : Int) (wrap64 (x45_2 + 1))) = some (r1, r2) := by first | (rw [hy487]; with_reducible exact H) | (have H2_ := (Option.bind_some _ _).symm.trans H; rw [hy487]; with_reducible exact H2_) | (have H2_ := (Option.bind_some _ _).symm.trans H; with_reducible exact H2_) | with_reducible exact H | (rw [hy487]; exact H) | exact H
               have Ny487 := Aside0.mk hy487
               clear hy487
               have H' := Aside0.mk H
               clear H
               have p459 : 0 ≤ (x45_2 : Int) := DT
               have q459 : x45_2 < (l2.length : Int) := DT
               obtain ⟨ad459, e459, hx459_0⟩ := Kd.at_bool HR2.out x45_2 p459 q459
               (try rw [← Nbq14.out] at hx459_0)
               cases e459
               replace hx459_0 := (HB.out.cell (World.block_lt_of_cell? w _ hx459_0)).trans hx459_0
               replace p459 := eq_true p459
               replace q459 := eq_true q459
               try go_wp2
               have n0_ := Aside0.mk (Kd.N_drew HO_11.out)
               have n1_ := Aside0.mk (Kd.N_drew HO_12.out)
               have n2_ := Aside0.mk (Kd.R_drew HO_13.out)
               have n3_ := Aside0.mk (below_drew1 HB.out)
               clear HO_11
               clear HO_12
               clear HO_13
               clear HB
               have HO_11 := n0_
               have HO_12 := n1_
               have HO_13 := n2_
               have HB := n3_
               clear n0_ n1_ n2_ n3_
               obtain ⟨Ao44, co44, eo44⟩ := Kd.R_slice HO_13.out
               (first | subst eo44 | (injection eo44 with f1_ f2_ f3_; have f4_ := f1_.symm; have f5_ := f3_.symm; clear f1_ f2_ f3_; subst f4_; subst f5_))
               refine start_ (n := 15) (S := fun w' => True) (ds := []) #[false, false, false, false, false, false, false, false, false, false, false, false, false, false, false] (by kernel_rfl) rfl rfl trivial (fun hHeld => ?_); refine with_tabW impl_Decode.tab11 impl_Decode.bits11 (fun HT_ HW_ => ?_)
               generalize wr.drew = w43 at HO_11 HO_12 HO_13 HB hHeld ⊢
               refine pure_ (i := 0) (N := some 52) (v := ?_) (a' := ?_) #[true, false, false, false, false, false, false, false, false, false, false, false, false, false, false] rfl rfl (any_of HT_.out (by kernel_rfl)) (fun _ _ _ h => h) (Or.inl ⟨by rfl, ?_⟩) ?_ ?_
               rotate_left
               ·intro w'
                go_simp
                with_reducible rfl
               rotate_left
               ·simp only [Act.put, List.setIfInBounds_toArray, List.set_cons_zero, List.set_cons_succ, i64_w, i32_w]
                rfl
               refine pure_ (i := 1) (N := some 53) (v := ?_) (a' := ?_) #[true, true, false, false, false, false, false, false, false, false, false, false, false, false, false] rfl rfl (any_of HT_.out (by kernel_rfl)) (fun _ _ _ h => h) (Or.inl ⟨by rfl, ?_⟩) ?_ ?_
               rotate_left
               ·intro w'
                go_simp
                with_reducible rfl
               rotate_left
               ·simp only [Act.put, List.setIfInBounds_toArray, List.set_cons_zero, List.set_cons_succ, i64_w, i32_w]
                rfl
               refine pure_ (i := 2) (N := some 54) (v := ?_) (a' := ?_) #[true, true, true, false, false, false, false, false, false, false, false, false, false, false, false] rfl rfl (any_of HT_.out (by kernel_rfl)) (fun _ _ _ h => h) (Or.inl ⟨by rfl, ?_⟩) ?_ ?_
               rotate_left
               ·intro w'
                go_simp
                with_reducible rfl
               rotate_left
               ·simp only [Act.put, List.setIfInBounds_toArray, List.set_cons_zero, List.set_cons_succ, i64_w, i32_w]
                rfl
               refine pure_ (i := 3) (N := some 55) (v := ?_) (a' := ?_) #[true, true, true, true, false, false, false, false, false, false, false, false, false, false, false] rfl rfl (any_of HT_.out (by kernel_rfl)) (fun _ _ _ h => h) (Or.inl ⟨by rfl, ?_⟩) ?_ ?_
               rotate_left
               ·intro w'
                go_simp
                with_reducible rfl
               rotate_left
               ·simp only [Act.put, List.setIfInBounds_toArray, List.set_cons_zero, List.set_cons_succ, i64_w, i32_w]
                rfl
               refine pure_ (i := 4) (N := some 56) (v := undef) (a' := ?_) #[true, true, true, true, true, false, false, false, false, false, false, false, false, false, false] rfl rfl (any_of HT_.out (by kernel_rfl)) (fun _ _ _ h => h) (Or.inr ⟨by rfl, rfl⟩) ?_ ?_
               rotate_left
               ·simp only [Act.put, List.setIfInBounds_toArray, List.set_cons_zero, List.set_cons_succ, i64_w, i32_w]
                rfl
               refine pure_ (i := 5) (N := some 57) (v := undef) (a' := ?_) #[true, true, true, true, true, true, false, false, false, false, false, false, false, false, false] rfl rfl (any_of HT_.out (by kernel_rfl)) (fun _ _ _ h => h) (Or.inr ⟨by rfl, rfl⟩) ?_ ?_
               rotate_left
               ·simp only [Act.put, List.setIfInBounds_toArray, List.set_cons_zero, List.set_cons_succ, i64_w, i32_w]
                rfl
               refine pure_ (i := 6) (N := some 58) (v := undef) (a' := ?_) #[true, true, true, true, true, true, true, false, false, false, false, false, false, false, false] rfl rfl (any_of HT_.out (by kernel_rfl)) (fun _ _ _ h => h) (Or.inr ⟨by rfl, rfl⟩) ?_ ?_
               rotate_left
               ·simp only [Act.put, List.setIfInBounds_toArray, List.set_cons_zero, List.set_cons_succ, i64_w, i32_w]
                rfl
               refine pure_ (i := 7) (N := some 59) (v := undef) (a' := ?_) #[true, true, true, true, true, true, true, true, false, false, false, false, false, false, false] rfl rfl (any_of HT_.out (by kernel_rfl)) (fun _ _ _ h => h) (Or.inr ⟨by rfl, rfl⟩) ?_ ?_
               rotate_left
               ·simp only [Act.put, List.setIfInBounds_toArray, List.set_cons_zero, List.set_cons_succ, i64_w, i32_w]
                rfl
               refine pure_ (i := 8) (N := some 60) (v := undef) (a' := ?_) #[true, true, true, true, true, true, true, true, true, false, false, false, false, false, false] rfl rfl (any_of HT_.out (by kernel_rfl)) (fun _ _ _ h => h) (Or.inr ⟨by rfl, rfl⟩) ?_ ?_
               rotate_left
               ·simp only [Act.put, List.setIfInBounds_toArray, List.set_cons_zero, List.set_cons_succ, i64_w, i32_w]
                rfl
               refine pure_ (i := 9) (N := some 61) (v := undef) (a' := ?_) #[true, true, true, true, true, true, true, true, true, true, false, false, false, false, false] rfl rfl (any_of HT_.out (by kernel_rfl)) (fun _ _ _ h => h) (Or.inr ⟨by rfl, rfl⟩) ?_ ?_
               rotate_left
               ·simp only [Act.put, List.setIfInBounds_toArray, List.set_cons_zero, List.set_cons_succ, i64_w, i32_w]
                rfl
               refine pure_ (i := 10) (N := some 62) (v := undef) (a' := ?_) #[true, true, true, true, true, true, true, true, true, true, true, false, false, false, false] rfl rfl (any_of HT_.out (by kernel_rfl)) (fun _ _ _ h => h) (Or.inr ⟨by rfl, rfl⟩) ?_ ?_
               rotate_left
               ·simp only [Act.put, List.setIfInBounds_toArray, List.set_cons_zero, List.set_cons_succ, i64_w, i32_w]
                rfl
               refine pure_ (i := 11) (N := some 63) (v := undef) (a' := ?_) #[true, true, true, true, true, true, true, true, true, true, true, true, false, false, false] rfl rfl (any_of HT_.out (by kernel_rfl)) (fun _ _ _ h => h) (Or.inr ⟨by rfl, rfl⟩) ?_ ?_
               rotate_left
               ·simp only [Act.put, List.setIfInBounds_toArray, List.set_cons_zero, List.set_cons_succ, i64_w, i32_w]
                rfl
               refine pure_ (i := 12) (N := some 64) (v := undef) (a' := ?_) #[true, true, true, true, true, true, true, true, true, true, true, true, true, false, false] rfl rfl (any_of HT_.out (by kernel_rfl)) (fun _ _ _ h => h) (Or.inr ⟨by rfl, rfl⟩) ?_ ?_
               rotate_left
               ·simp only [Act.put, List.setIfInBounds_toArray, List.set_cons_zero, List.set_cons_succ, i64_w, i32_w]
                rfl
               refine pure_ (i := 13) (N := some 65) (v := undef) (a' := ?_) #[true, true, true, true, true, true, true, true, true, true, true, true, true, true, false] rfl rfl (any_of HT_.out (by kernel_rfl)) (fun _ _ _ h => h) (Or.inr ⟨by rfl, rfl⟩) ?_ ?_
               rotate_left
               ·simp only [Act.put, List.setIfInBounds_toArray, List.set_cons_zero, List.set_cons_succ, i64_w, i32_w]
                rfl
               refine pure_ (i := 14) (N := some 66) (v := ?_) (a' := ?_) #[true, true, true, true, true, true, true, true, true, true, true, true, true, true, true] rfl rfl (any_of HT_.out (by kernel_rfl)) (fun _ _ _ h => h) (Or.inl ⟨by rfl, ?_⟩) ?_ ?_
               rotate_left
               ·intro w'
                go_simp
                with_reducible rfl
               rotate_left
               ·simp only [Act.put, List.setIfInBounds_toArray, List.set_cons_zero, List.set_cons_succ, i64_w, i32_w]
                rfl
               refine done_ (done_of HT_.out (by kernel_rfl)) ?_
               obtain ⟨Ao45, co45, eo45⟩ := Kd.N_slice HO_12.out
               subst eo45
               try go_wp2
               have n0_ := Aside0.mk (Kd.N_drew HO_11.out)
               have n1_ := Aside0.mk (Kd.N_drew HO_12.out)
               have n2_ := Aside0.mk (Kd.R_drew HO_13.out)
               have n3_ := Aside0.mk (below_drew1 HB.out)
               clear HO_11
               clear HO_12
               clear HO_13
               clear HB
               have HO_11 := n0_
               have HO_12 := n1_
               have HO_13 := n2_
               have HB := n3_
               clear n0_ n1_ n2_ n3_
               obtain ⟨Ao47, co47, eo47⟩ := Kd.N_slice HO_11.out
               (first | subst eo47 | (injection eo47 with f1_ f2_ f3_; have f4_ := f1_.symm; have f5_ := f3_.symm; clear f1_ f2_ f3_; subst f4_; subst f5_))
               have p476 : 0 ≤ (x45_2 : Int) := DT
               have q476 : x45_2 < (t456.length : Int) := DT
               obtain ⟨ad476, A476_0, c476_0, e476, hx476_0, hl476_0, hi476_0⟩ := at_L9 (Kd.N_reads' HO_11.out).2.2 x45_2 p476 q476
               cases e476
               obtain ⟨ce476, hce476, hMe476, hcc476⟩ := Kd.N_get HO_11.out [] x45_2 p476 (by first | exact q476 | exact DT | (have e_ := (Kd.N_reads' HO_11.out).1; omega))
               obtain ⟨ua476_0, uc476_0, rfl, ul476_0, ge476_0⟩ := Kd.FK_slice_open hMe476
               have hv476_0 := hcc476 0 _ rfl
               rw [Nat.add_zero, show ((Kd.slice 3 (Kd.int .i64))).sz = 1 from rfl, Nat.mul_one] at hv476_0
               replace hv476_0 := Option.some.inj (hv476_0.symm.trans hx476_0)
               injection hv476_0 with hva_ hvn_ hvc_
               rw [hva_] at ge476_0
               rw [hvc_] at ul476_0
               have HL476_0 := Aside0.mk (show Kd.V (Kd.int .i64) 3 _ w.heap.size _ _ (rd_L9 t456 x45_2) from Kd.V_mk ul476_0 ge476_0)
               clear hva_ hvn_ hvc_ ge476_0 ul476_0
               clear hcc476 hce476
               have HR476_0 := Aside0.mk hi476_0
               have HC476_0 := Aside0.mk hl476_0
               clear hi476_0 hl476_0
               replace p476 := eq_true p476
               replace q476 := eq_true q476
               have p483 : 0 ≤ (x45_2 : Int) := DT
               have q483 : x45_2 < (l1.length : Int) := DT
               obtain ⟨ad483, e483, hx483_0⟩ := Kd.at_string HR1.out x45_2 p483 q483
               have hw483_0 := hx483_0
               cases e483
               replace hx483_0 := (HB.out.cell (World.block_lt_of_cell? w _ hx483_0)).trans hx483_0
               replace p483 := eq_true p483
               replace q483 := eq_true q483
               refine start_ (n := 16) (S := fun w' => w'.cell? (ad476.add (x45_2).toNat) = some (.slice A476_0 (rd_L9 t456 x45_2).length c476_0) ∧ w'.cell? (ad483.add (x45_2).toNat) = some (.string (rdOf ByteArray.empty l1 x45_2))) (ds := []) #[false, false, false, false, false, false, false, false, false, false, false, false, false, false, false, false] (by kernel_rfl) rfl rfl ⟨hx476_0, ((HB.out.cell (World.block_lt_of_cell? w _ hw483_0)).trans hw483_0)⟩ (fun hHeld => ?_); refine with_tabW impl_Decode.tab13 impl_Decode.bits13 (fun HT_ HW_ => ?_)
               generalize w43.drew = w46 at HO_11 HO_12 HO_13 HB HL476_0 HR476_0 hx476_0 hx483_0 hHeld ⊢
               refine pure_ (i := 0) (N := some 67) (v := ?_) (a' := ?_) #[true, false, false, false, false, false, false, false, false, false, false, false, false, false, false, false] rfl rfl (any_of HT_.out (by kernel_rfl)) (fun _ _ _ h => h) (Or.inl ⟨by rfl, ?_⟩) ?_ ?_
               rotate_left
               ·intro w'
                go_simp
                with_reducible rfl
               rotate_left
               ·simp only [Act.put, List.setIfInBounds_toArray, List.set_cons_zero, List.set_cons_succ, i64_w, i32_w]
                rfl
               refine pure_ (i := 1) (N := some 68) (v := ?_) (a' := ?_) #[true, true, false, false, false, false, false, false, false, false, false, false, false, false, false, false] rfl rfl (any_of HT_.out (by kernel_rfl)) (fun _ _ _ h => h) (Or.inl ⟨by rfl, ?_⟩) ?_ ?_
               rotate_left
               ·intro w'
                go_simp
                with_reducible rfl
               rotate_left
               ·simp only [Act.put, List.setIfInBounds_toArray, List.set_cons_zero, List.set_cons_succ, i64_w, i32_w]
                rfl
               refine pure_ (i := 2) (N := some 69) (v := ?_) (a' := ?_) #[true, true, true, false, false, false, false, false, false, false, false, false, false, false, false, false] rfl rfl (any_of HT_.out (by kernel_rfl)) (fun _ _ _ h => h) (Or.inl ⟨by rfl, ?_⟩) ?_ ?_
               rotate_left
               ·intro w'
                go_simp
                with_reducible rfl
               rotate_left
               ·simp only [Act.put, List.setIfInBounds_toArray, List.set_cons_zero, List.set_cons_succ, i64_w, i32_w]
                rfl
               refine pure_ (i := 3) (N := some 70) (v := ?_) (a' := ?_) #[true, true, true, true, false, false, false, false, false, false, false, false, false, false, false, false] rfl rfl (any_of HT_.out (by kernel_rfl)) (fun _ _ _ h => h) (Or.inl ⟨by rfl, ?_⟩) ?_ ?_
               rotate_left
               ·intro w'
                go_simp
                with_reducible rfl
               rotate_left
               ·simp only [Act.put, List.setIfInBounds_toArray, List.set_cons_zero, List.set_cons_succ, i64_w, i32_w]
                rfl
               refine pure_ (i := 7) (N := some 74) (v := ?_) (a' := ?_) #[true, true, true, true, false, false, false, true, false, false, false, false, false, false, false, false] rfl rfl (any_of HT_.out (by kernel_rfl)) (fun _ _ _ h => h) (Or.inl ⟨by rfl, ?_⟩) ?_ ?_
               rotate_left
               ·intro w'
                go_simp
                with_reducible rfl
               rotate_left
               ·simp only [Act.put, List.setIfInBounds_toArray, List.set_cons_zero, List.set_cons_succ, i64_w, i32_w]
                rfl
               refine pure_ (i := 8) (N := some 75) (v := ?_) (a' := ?_) #[true, true, true, true, false, false, false, true, true, false, false, false, false, false, false, false] rfl rfl (any_of HT_.out (by kernel_rfl)) (fun _ _ _ h => h) (Or.inl ⟨by rfl, ?_⟩) ?_ ?_
               rotate_left
               ·intro w'
                go_simp
                with_reducible rfl
               rotate_left
               ·simp only [Act.put, List.setIfInBounds_toArray, List.set_cons_zero, List.set_cons_succ, i64_w, i32_w]
                rfl
               refine pure_ (i := 9) (N := some 76) (v := ?_) (a' := ?_) #[true, true, true, true, false, false, false, true, true, true, false, false, false, false, false, false] rfl rfl (any_of HT_.out (by kernel_rfl)) (fun _ _ _ h => h) (Or.inl ⟨by rfl, ?_⟩) ?_ ?_
               rotate_left
               ·intro w'
                go_simp
                with_reducible rfl
               rotate_left
               ·simp only [Act.put, List.setIfInBounds_toArray, List.set_cons_zero, List.set_cons_succ, i64_w, i32_w]
                rfl
               refine pure_ (i := 10) (N := some 77) (v := ?_) (a' := ?_) #[true, true, true, true, false, false, false, true, true, true, true, false, false, false, false, false] rfl rfl (any_of HT_.out (by kernel_rfl)) (fun _ _ _ h => h) (Or.inl ⟨by rfl, ?_⟩) ?_ ?_
               rotate_left
               ·intro w'
                go_simp
                with_reducible rfl
               rotate_left
               ·simp only [Act.put, List.setIfInBounds_toArray, List.set_cons_zero, List.set_cons_succ, i64_w, i32_w]
                rfl
               refine take_ (i := 4) (N := some 71) (v := ?_) (a' := ?_) #[true, true, true, true, true, false, false, true, true, true, true, false, false, false, false, false] rfl rfl (take_ofW HT_.out HW_.out (by kernel_rfl)) (fun _ _ _ h => h) (Or.inl ⟨by rfl, ?_⟩) hHeld ?_ ?_
               rotate_left
               ·rintro w' ⟨s0, s1⟩
                go_simp
                with_reducible rfl
               rotate_left
               ·simp only [Act.put, List.setIfInBounds_toArray, List.set_cons_zero, List.set_cons_succ, i64_w, i32_w]
                rfl
               refine take_ (i := 11) (N := some 78) (v := ?_) (a' := ?_) #[true, true, true, true, true, false, false, true, true, true, true, true, false, false, false, false] rfl rfl (take_ofW HT_.out HW_.out (by kernel_rfl)) (fun _ _ _ h => h) (Or.inl ⟨by rfl, ?_⟩) hHeld ?_ ?_
               rotate_left
               ·rintro w' ⟨s0, s1⟩
                go_simp
                with_reducible rfl
               rotate_left
               ·simp only [Act.put, List.setIfInBounds_toArray, List.set_cons_zero, List.set_cons_succ, i64_w, i32_w]
                rfl
               refine join_ (σ := Value × Value × Value) 3 #[true, true, true, true, true, true, true, true, true, true, true, true, true, false, false, false] (fun s_ => [(72, s_.1), (73, s_.2.1), (79, s_.2.2)]) (fun s_ w' => (w'.cell? (ad476.add (x45_2).toNat) = some (.slice A476_0 (rd_L9 t456 x45_2).length c476_0) ∧ w'.cell? (ad483.add (x45_2).toNat) = some (.string (rdOf ByteArray.empty l1 x45_2))) ∧ (Kd.V (Kd.int .i64) 3 w' w.heap.size (fun k_ => some k_ ≠ (s_.1 : Value).ownBlock ∧ some k_ ≠ (s_.2.1 : Value).ownBlock ∧ some k_ ≠ (s_.2.2 : Value).ownBlock ∧ some k_ ≠ (.slice (some ad476) t456.length co47 : Value).ownBlock ∧ some k_ ≠ (.slice Ao44 x13_2.length co44 : Value).ownBlock) (.slice A476_0 (rd_L9 t456 x45_2).length c476_0) (rd_L9 t456 x45_2)) ∧ (Kd.N (Kd.slice 3 (Kd.int .i64)) 52 w' w.heap.size (fun k_ => some k_ ≠ (s_.2.1 : Value).ownBlock ∧ some k_ ≠ (s_.2.2 : Value).ownBlock ∧ some k_ ≠ (.slice (some ad476) t456.length co47 : Value).ownBlock ∧ some k_ ≠ (.slice Ao44 x13_2.length co44 : Value).ownBlock) s_.1 y477) ∧ (Kd.N (Kd.slice 3 (Kd.int .i64)) 52 w' w.heap.size (fun k_ => some k_ ≠ (s_.2.2 : Value).ownBlock ∧ some k_ ≠ (.slice (some ad476) t456.length co47 : Value).ownBlock ∧ some k_ ≠ (.slice Ao44 x13_2.length co44 : Value).ownBlock) s_.2.1 y480) ∧ (Kd.R Kd.string 9 w' w.heap.size (fun k_ => some k_ ≠ (.slice Ao44 x13_2.length co44 : Value).ownBlock) s_.2.2 y484) ∧ (Kd.N (Kd.slice 3 (Kd.int .i64)) 52 w' w.heap.size (fun k_ => some k_ ≠ (s_.1 : Value).ownBlock ∧ some k_ ≠ (s_.2.1 : Value).ownBlock ∧ some k_ ≠ (s_.2.2 : Value).ownBlock ∧ some k_ ≠ (.slice Ao44 x13_2.length co44 : Value).ownBlock) (.slice (some ad476) t456.length co47) t456) ∧ (Kd.R Kd.string 9 w' w.heap.size (fun k_ => some k_ ≠ (s_.2.2 : Value).ownBlock) (.slice Ao44 x13_2.length co44) x13_2) ∧ (Below w.heap.size w w')) ?_ ?_
               rotate_left
               ·intro hCont
                refine two_ (i := 5) (j := 12) (Ni := some 72) (Nj := some 79) #[true, true, true, true, true, true, false, true, true, true, true, true, false, false, false, false] #[true, true, true, true, true, false, false, true, true, true, true, true, true, false, false, false] rfl rfl rfl rfl (two_of HT_.out (by kernel_rfl)) (by decide) (by decide) (fun K hK => ?_) (fun K hK => ?_)
                ·skip
                 refine Kd.N_lit_step (Kd.slice 3 (Kd.int .i64)) _ 52 ?hg (N' := 72) ?hd (xs := ([rd_L9 t456 x45_2] : List (List Int))) (inner := [.slice A476_0 (rd_L9 t456 x45_2).length c476_0]) (ok := (fun k_ => some k_ ≠ (.slice (some ad476) t456.length co47 : Value).ownBlock ∧ some k_ ≠ (.slice Ao45 x12_2.length co45 : Value).ownBlock ∧ some k_ ≠ (.slice Ao44 x13_2.length co44 : Value).ownBlock)) (okp := (fun k_ => some k_ ≠ (.slice (some ad476) t456.length co47 : Value).ownBlock ∧ some k_ ≠ (.slice Ao45 x12_2.length co45 : Value).ownBlock ∧ some k_ ≠ (.slice Ao44 x13_2.length co44 : Value).ownBlock)) ?hr ?hp (fun _ hk => hk) ((show ∀ k_, w46.heap.size ≤ k_ → (fun k_ => some k_ ≠ (.slice (some ad476) t456.length co47 : Value).ownBlock ∧ some k_ ≠ (.slice Ao45 x12_2.length co45 : Value).ownBlock ∧ some k_ ≠ (.slice Ao44 x13_2.length co44 : Value).ownBlock) k_ from fun k_ hk => ⟨Kd.fresh' (Kd.N_lt (by (with_reducible repeat (first | apply Kd.N_alloc | apply Kd.N_drewN | apply Kd.N_drew)); exact HO_11.out)) k_ hk, Kd.fresh' (Kd.N_lt (by (with_reducible repeat (first | apply Kd.N_alloc | apply Kd.N_drewN | apply Kd.N_drew)); exact HO_12.out)) k_ hk, Kd.fresh' (Kd.R_lt (RR HO_13.out)) k_ hk⟩) _ (Nat.le_refl _)) (Below.refl _ _) (Nat.le_refl _) (by simp) ?_; (case hd => rfl); (case hg => rfl); (case hr => first | (go_simp; done) | (go_simp; rfl)); (case hp => exact (Reps.one (show Kd.FK (Kd.slice 3 (Kd.int .i64)) _ _ (rd_L9 t456 x45_2) [.slice A476_0 (rd_L9 t456 x45_2).length c476_0] from (Kd.FK_slice_mk (Kd.V_reads' (Kd.V_mono (ok' := (fun k_ => some k_ ≠ (.slice (some ad476) t456.length co47 : Value).ownBlock ∧ some k_ ≠ (.slice Ao45 x12_2.length co45 : Value).ownBlock ∧ some k_ ≠ (.slice Ao44 x13_2.length co44 : Value).ownBlock)) (HL476_0.out) (fun k_ hk => ⟨hk.2, ⟨hk.1.1, hk.1.2⟩⟩))).2.1 (Kd.V_F (Kd.V_mono (ok' := (fun k_ => some k_ ≠ (.slice (some ad476) t456.length co47 : Value).ownBlock ∧ some k_ ≠ (.slice Ao45 x12_2.length co45 : Value).ownBlock ∧ some k_ ≠ (.slice Ao44 x13_2.length co44 : Value).ownBlock)) (HL476_0.out) (fun k_ hk => ⟨hk.2, ⟨hk.1.1, hk.1.2⟩⟩))))) (Reps.none _ _)))
                 intro v478 w48 ho49 hb hg_ hnew_
                 have HS0_ := (hb.cell (World.block_lt_of_cell? _ _ (hHeld.1))).trans (hHeld.1)
                 clear hg_ hnew_
                 (first | rw [← Ny477.out] at ho49 | (simp only [Int.reduceToNat] at ho49; rw [← Ny477.out] at ho49))
                 have n0_ := Aside0.mk (Kd.N_elder' (by (with_reducible repeat (first | apply Kd.N_alloc | apply Kd.N_drewN | apply Kd.N_drew)); exact HO_11.out) (Kd.N_base ho49) hb)
                 have n1_ := Aside0.mk (Kd.N_elder' (by (with_reducible repeat (first | apply Kd.N_alloc | apply Kd.N_drewN | apply Kd.N_drew)); exact HO_12.out) (Kd.N_base ho49) hb)
                 have n2_ := Aside0.mk (Kd.R_below (RR HO_13.out) hb)
                 have n3_ := Aside0.mk (Kd.V_elder' (by (with_reducible repeat (first | apply Kd.V_alloc | apply Kd.V_drewN | apply Kd.V_drew)); exact HL476_0.out) (Kd.N_base ho49) hb)
                 have n4_ := Aside0.mk (Kd.N_lower ho49 (below_size (BB HB.out)))
                 have n5_ := Aside0.mk (Kd.C_below (by repeat (first | (with_reducible exact HR476_0.out) | (with_reducible refine Kd.C_alloc ?_ _) | (with_reducible refine Kd.C_drewN ?_ _) | (with_reducible refine Kd.C_drew ?_) | exact HR476_0.out)) hb)
                 have n6_ := Aside0.mk (below_step (BB HB.out) hb)
                 clear HO_11
                 clear HO_12
                 clear HO_13
                 clear HL476_0
                 clear HR476_0
                 clear HB
                 have HO_11 := n0_
                 have HO_12 := n1_
                 have HO_13 := n2_
                 have HL476_0 := n3_
                 have HO479 := n4_
                 have HR476_0 := n5_
                 have HB := n6_
                 clear n0_ n1_ n2_ n3_ n4_ n5_ n6_
                 clear hb ho49
                 obtain ⟨Ao51, co51, eo51⟩ := Kd.N_slice HO479.out
                 (first | subst eo51 | (injection eo51 with f1_ f2_ f3_; have f4_ := f1_.symm; have f5_ := f3_.symm; clear f1_ f2_ f3_; subst f4_; subst f5_))
                 refine hK.out _ _ ⟨HS0_, ((HB.out.cell (World.block_lt_of_cell? w _ hw483_0)).trans hw483_0)⟩ (fun hHeld => ?_)
                 clear hK K
                 refine norm_ (a' := ?_) ?_ ?_
                 rotate_left
                 ·show Act.put _ (some 72) _ = _
                  simp only [Act.put, List.setIfInBounds_toArray, List.set_cons_zero, List.set_cons_succ, i64_w, i32_w]
                  rfl
                 refine two_ (i := 6) (j := 12) (Ni := some 73) (Nj := some 79) #[true, true, true, true, true, true, true, true, true, true, true, true, false, false, false, false] #[true, true, true, true, true, true, false, true, true, true, true, true, true, false, false, false] rfl rfl rfl rfl (two_of HT_.out (by kernel_rfl)) (by decide) (by decide) (fun K hK => ?_) (fun K hK => ?_)
                 ·skip
                  refine Kd.N_append_rows_step (Kd.slice 3 (Kd.int .i64)) (w0 := w) w.heap.size (by rfl) (.tmp 67) (.tmp 72) 50 52 (.slice none 0 0) 24 rfl Try.underlying50 info52 rfl (by decide) (by omega) (.slice Ao45 x12_2.length co45) x12_2 y477 _ _ _ (fun k_ => some k_ ≠ (.slice (some ad476) t456.length co47 : Value).ownBlock ∧ some k_ ≠ (.slice Ao44 x13_2.length co44 : Value).ownBlock) (fun k_ => ((fun k_ => some k_ ≠ (.slice (some ad476) t456.length co47 : Value).ownBlock ∧ some k_ ≠ (.slice Ao44 x13_2.length co44 : Value).ownBlock)) k_ ∧ some k_ ≠ (.slice Ao45 x12_2.length co45 : Value).ownBlock) rfl rfl ?aO ?aR (fun _ hk => hk) ?aF ?aB ?aS ?aL ?_
                  (case aR => exact (by skip; exact Kd.N_F (Kd.N_mono (ok' := (fun k_ => ((fun k_ => some k_ ≠ (.slice (some ad476) t456.length co47 : Value).ownBlock ∧ some k_ ≠ (.slice Ao44 x13_2.length co44 : Value).ownBlock)) k_ ∧ some k_ ≠ (.slice Ao45 x12_2.length co45 : Value).ownBlock)) (HO479.out) (fun k_ hk => ⟨⟨hk.1, hk.2.2⟩, hk.2.1⟩))))
                  (case aB => exact (BB HB.out))
                  (case aF => exact (fun k_ hk => ⟨Kd.fresh' (Kd.N_lt (by (with_reducible repeat (first | apply Kd.N_alloc | apply Kd.N_drewN | apply Kd.N_drew)); exact HO_11.out)) k_ hk, Kd.fresh' (Kd.R_lt (RR HO_13.out)) k_ hk⟩))
                  (case aO => exact (by (with_reducible repeat (first | apply Kd.N_alloc | apply Kd.N_drewN | apply Kd.N_drew)); exact Kd.N_mono HO_12.out (fun _ hk => ⟨hk.1.1, hk.1.2⟩)))
                  (case aS => exact (below_size (BB HB.out)))
                  (case aL => have := LMc40.out; omega)
                  intro v481 w50 ho hb hg hat
                  have HS0_ := Go.Proofs.YtahimindlnkmoaaW.PrintWords.cell_grown hg (hHeld.1) (by have h_ := HO_11.out.1 _ rfl; first | (rw [add_block]; (first | exact h_.1.1 | exact h_.1 | exact h_.1.2 | exact h_.2 | exact h_.2.1 | exact h_.2.2 | exact h_.1.1.1 | exact h_.1.1.2 | exact h_.1.2.1 | exact h_.1.2.2 | exact h_.2.2.1 | exact h_.2.2.2 | exact h_.2.1.1 | exact h_.2.1.2 | exact h_.1.1.1.1 | exact h_.1.1.1.2 | exact h_.2.2.2.1 | exact h_.2.2.2.2 | exact h_)) | (show some (Addr.add _ _).block ≠ _; rw [add_block]; (first | exact h_.1.1 | exact h_.1 | exact h_.1.2 | exact h_.2 | exact h_.2.1 | exact h_.2.2 | exact h_.1.1.1 | exact h_.1.1.2 | exact h_.1.2.1 | exact h_.1.2.2 | exact h_.2.2.1 | exact h_.2.2.2 | exact h_.2.1.1 | exact h_.2.1.2 | exact h_.1.1.1.1 | exact h_.1.1.1.2 | exact h_.2.2.2.1 | exact h_.2.2.2.2 | exact h_)) | (first | exact h_.1.1 | exact h_.1 | exact h_.1.2 | exact h_.2 | exact h_.2.1 | exact h_.2.2 | exact h_.1.1.1 | exact h_.1.1.2 | exact h_.1.2.1 | exact h_.1.2.2 | exact h_.2.2.1 | exact h_.2.2.2 | exact h_.2.1.1 | exact h_.2.1.2 | exact h_.1.1.1.1 | exact h_.1.1.1.2 | exact h_.2.2.2.1 | exact h_.2.2.2.2 | exact h_))
                  rw [← Ny480.out] at ho
                  have n0_ := Aside0.mk (Kd.N_afterv (ok := (fun k_ => some k_ ≠ (.slice Ao44 x13_2.length co44 : Value).ownBlock ∧ some k_ ≠ (.slice Ao51 y477.length co51 : Value).ownBlock)) (by (with_reducible repeat (first | apply Kd.N_alloc | apply Kd.N_drewN | apply Kd.N_drew)); exact Kd.N_mono HO_11.out (fun _ hk => ⟨⟨hk.1.2, hk.2⟩, hk.1.1⟩)) hg hat)
                  have n1_ := Aside0.mk (Kd.R_over' (RR HO_13.out) (Kd.N_typed (by (with_reducible repeat (first | apply Kd.N_alloc | apply Kd.N_drewN | apply Kd.N_drew)); exact HO_12.out)) (by decide) hg)
                  have n2_ := Aside0.mk (Kd.V_afterv (ok := (fun k_ => some k_ ≠ (.slice (some ad476) t456.length co47 : Value).ownBlock ∧ some k_ ≠ (.slice Ao44 x13_2.length co44 : Value).ownBlock ∧ some k_ ≠ (.slice Ao51 y477.length co51 : Value).ownBlock)) (by (with_reducible repeat (first | apply Kd.V_alloc | apply Kd.V_drewN | apply Kd.V_drew)); exact Kd.V_mono HL476_0.out (by first | exact (fun _ hk => ⟨⟨hk.1.2, ⟨hk.1.1.2, hk.2⟩⟩, hk.1.1.1⟩) | exact (fun _ hk => PT hk))) hg hat)
                  have n3_ := Aside0.mk (Kd.N_afterv (ok := (fun k_ => some k_ ≠ (.slice (some ad476) t456.length co47 : Value).ownBlock ∧ some k_ ≠ (.slice Ao44 x13_2.length co44 : Value).ownBlock)) (by (with_reducible repeat (first | apply Kd.N_alloc | apply Kd.N_drewN | apply Kd.N_drew)); exact Kd.N_mono HO479.out (fun _ hk => ⟨⟨hk.1, hk.2.2⟩, hk.2.1⟩)) hg hat)
                  have n4_ := Aside0.mk (hb)
                  have n5_ := Aside0.mk (ho)
                  clear HO_11
                  clear HO_13
                  clear HL476_0
                  clear HO479
                  clear HB
                  clear HO_12
                  have HO_11 := n0_
                  have HO_13 := n1_
                  have HL476_0 := n2_
                  have HO479 := n3_
                  have HB := n4_
                  have HO482 := n5_
                  clear n0_ n1_ n2_ n3_ n4_ n5_
                  clear ho hb hg hat
                  refine hK.out _ _ ⟨HS0_, ((HB.out.cell (World.block_lt_of_cell? w _ hw483_0)).trans hw483_0)⟩ (fun hHeld => ?_)
                  clear hK K
                  refine norm_ (a' := ?_) ?_ ?_
                  rotate_left
                  ·show Act.put _ (some 73) _ = _
                   simp only [Act.put, List.setIfInBounds_toArray, List.set_cons_zero, List.set_cons_succ, i64_w, i32_w]
                   rfl
                  refine one_ (i := 12) (N := some 79) #[true, true, true, true, true, true, true, true, true, true, true, true, true, false, false, false] rfl rfl (one_of HT_.out (by kernel_rfl)) (by decide) (fun K hK => ?_)
                  refine Kd.R_lit_step Kd.string _ 9 ?hg (N := 79) ?hd (xs := ([rdOf ByteArray.empty l1 x45_2] : List ByteArray)) (inner := [.string (rdOf ByteArray.empty l1 x45_2)]) (ok := fun _ => True) (okp := fun _ => True) ?hr ?hp (fun _ hk => hk) trivial (Below.refl _ _) (Nat.le_refl _) (by simp) ?_; (case hd => rfl); (case hg => rfl); (case hr => first | (go_simp; done) | (go_simp; rfl)); (case hp => exact (Reps.one (show Kd.M Kd.string _ _ _ (rdOf ByteArray.empty l1 x45_2) [.string (rdOf ByteArray.empty l1 x45_2)] from rfl) (Reps.none _ _)))
                  intro v485 w52 ho53 hb hg_ hnew_
                  have HS0_ := (hb.cell (World.block_lt_of_cell? _ _ (hHeld.1))).trans (hHeld.1)
                  clear hg_ hnew_
                  (first | rw [← Ny484.out] at ho53 | (simp only [Int.reduceToNat] at ho53; rw [← Ny484.out] at ho53))
                  have n0_ := Aside0.mk (Kd.N_elder' (by (with_reducible repeat (first | apply Kd.N_alloc | apply Kd.N_drewN | apply Kd.N_drew)); exact HO_11.out) (Kd.R_base ho53) hb)
                  have n1_ := Aside0.mk (Kd.R_elder' (RR HO_13.out) (Kd.R_base ho53) hb)
                  have n2_ := Aside0.mk (Kd.V_elder' (by (with_reducible repeat (first | apply Kd.V_alloc | apply Kd.V_drewN | apply Kd.V_drew)); exact HL476_0.out) (Kd.R_base ho53) hb)
                  have n3_ := Aside0.mk (Kd.N_elder' (by (with_reducible repeat (first | apply Kd.N_alloc | apply Kd.N_drewN | apply Kd.N_drew)); exact HO479.out) (Kd.R_base ho53) hb)
                  have n4_ := Aside0.mk (Kd.N_elder' (by (with_reducible repeat (first | apply Kd.N_alloc | apply Kd.N_drewN | apply Kd.N_drew)); exact HO482.out) (Kd.R_base ho53) hb)
                  have n5_ := Aside0.mk (Kd.R_lower (Kd.R_new' ho53 (Kd.R_lt (RR HO_13.out))) (below_size (BB HB.out)))
                  have n6_ := Aside0.mk (below_step (BB HB.out) hb)
                  clear HO_11
                  clear HO_13
                  clear HL476_0
                  clear HO479
                  clear HO482
                  clear HB
                  have HO_11 := n0_
                  have HO_13 := n1_
                  have HL476_0 := n2_
                  have HO479 := n3_
                  have HO482 := n4_
                  have HO486 := n5_
                  have HB := n6_
                  clear n0_ n1_ n2_ n3_ n4_ n5_ n6_
                  clear hb ho53
                  refine hK.out _ _ ⟨HS0_, ((HB.out.cell (World.block_lt_of_cell? w _ hw483_0)).trans hw483_0)⟩ (fun hHeld => ?_)
                  clear hK K
                  refine norm_ (a' := ?_) ?_ ?_
                  rotate_left
                  ·show Act.put _ (some 79) _ = _
                   simp only [Act.put, List.setIfInBounds_toArray, List.set_cons_zero, List.set_cons_succ, i64_w, i32_w]
                   rfl
                  exact norm_ (by simp only [putAll, Act.put, List.setIfInBounds_toArray, List.set_cons_zero, List.set_cons_succ]) (hCont (.slice Ao51 y477.length co51, v481, v485) _ ⟨hHeld, (by (with_reducible repeat (first | apply Kd.V_alloc | apply Kd.V_drewN | apply Kd.V_drew)); exact Kd.V_mono HL476_0.out (by first | exact (fun _ hk => ⟨hk.1.1.2.2, ⟨hk.1.2, ⟨hk.2, ⟨hk.1.1.1, hk.1.1.2.1⟩⟩⟩⟩) | exact (fun _ hk => PT hk))), (by (with_reducible repeat (first | apply Kd.N_alloc | apply Kd.N_drewN | apply Kd.N_drew)); exact Kd.N_mono HO479.out (fun _ hk => ⟨hk.1.2, ⟨hk.2, ⟨hk.1.1.1, hk.1.1.2⟩⟩⟩)), (by (with_reducible repeat (first | apply Kd.N_alloc | apply Kd.N_drewN | apply Kd.N_drew)); exact Kd.N_mono HO482.out (fun _ hk => ⟨hk.2, ⟨hk.1.1, hk.1.2⟩⟩)), (by (with_reducible repeat (first | apply Kd.R_alloc | apply Kd.R_drewN | apply Kd.R_drew)); exact Kd.R_mono HO486.out (fun _ hk => hk.2)), (by (with_reducible repeat (first | apply Kd.N_alloc | apply Kd.N_drewN | apply Kd.N_drew)); exact Kd.N_mono HO_11.out (fun _ hk => ⟨hk.1.1.2, ⟨hk.1.2, ⟨hk.2, hk.1.1.1⟩⟩⟩)), (by (with_reducible repeat (first | apply Kd.R_alloc | apply Kd.R_drewN | apply Kd.R_drew)); exact Kd.R_mono HO_13.out (fun _ hk => hk.2)), (BB HB.out)⟩)
                 ·skip
                  refine Kd.R_lit_step Kd.string _ 9 ?hg (N := 79) ?hd (xs := ([rdOf ByteArray.empty l1 x45_2] : List ByteArray)) (inner := [.string (rdOf ByteArray.empty l1 x45_2)]) (ok := fun _ => True) (okp := fun _ => True) ?hr ?hp (fun _ hk => hk) trivial (Below.refl _ _) (Nat.le_refl _) (by simp) ?_; (case hd => rfl); (case hg => rfl); (case hr => first | (go_simp; done) | (go_simp; rfl)); (case hp => exact (Reps.one (show Kd.M Kd.string _ _ _ (rdOf ByteArray.empty l1 x45_2) [.string (rdOf ByteArray.empty l1 x45_2)] from rfl) (Reps.none _ _)))
                  intro v485 w50 ho51 hb hg_ hnew_
                  have HS0_ := (hb.cell (World.block_lt_of_cell? _ _ (hHeld.1))).trans (hHeld.1)
                  clear hg_ hnew_
                  (first | rw [← Ny484.out] at ho51 | (simp only [Int.reduceToNat] at ho51; rw [← Ny484.out] at ho51))
                  have n0_ := Aside0.mk (Kd.N_elder' (by (with_reducible repeat (first | apply Kd.N_alloc | apply Kd.N_drewN | apply Kd.N_drew)); exact HO_11.out) (Kd.R_base ho51) hb)
                  have n1_ := Aside0.mk (Kd.N_elder' (by (with_reducible repeat (first | apply Kd.N_alloc | apply Kd.N_drewN | apply Kd.N_drew)); exact HO_12.out) (Kd.R_base ho51) hb)
                  have n2_ := Aside0.mk (Kd.R_elder' (RR HO_13.out) (Kd.R_base ho51) hb)
                  have n3_ := Aside0.mk (Kd.V_elder' (by (with_reducible repeat (first | apply Kd.V_alloc | apply Kd.V_drewN | apply Kd.V_drew)); exact HL476_0.out) (Kd.R_base ho51) hb)
                  have n4_ := Aside0.mk (Kd.N_elder' (by (with_reducible repeat (first | apply Kd.N_alloc | apply Kd.N_drewN | apply Kd.N_drew)); exact HO479.out) (Kd.R_base ho51) hb)
                  have n5_ := Aside0.mk (Kd.R_lower (Kd.R_new' ho51 (Kd.R_lt (RR HO_13.out))) (below_size (BB HB.out)))
                  have n6_ := Aside0.mk (Kd.C_below (by repeat (first | (with_reducible exact HR476_0.out) | (with_reducible refine Kd.C_alloc ?_ _) | (with_reducible refine Kd.C_drewN ?_ _) | (with_reducible refine Kd.C_drew ?_) | exact HR476_0.out)) hb)
                  have n7_ := Aside0.mk (below_step (BB HB.out) hb)
                  clear HO_11
                  clear HO_12
                  clear HO_13
                  clear HL476_0
                  clear HO479
                  clear HR476_0
                  clear HB
                  have HO_11 := n0_
                  have HO_12 := n1_
                  have HO_13 := n2_
                  have HL476_0 := n3_
                  have HO479 := n4_
                  have HO486 := n5_
                  have HR476_0 := n6_
                  have HB := n7_
                  clear n0_ n1_ n2_ n3_ n4_ n5_ n6_ n7_
                  clear hb ho51
                  obtain ⟨Ao53, co53, eo53⟩ := Kd.N_slice HO479.out
                  (first | subst eo53 | (injection eo53 with f1_ f2_ f3_; have f4_ := f1_.symm; have f5_ := f3_.symm; clear f1_ f2_ f3_; subst f4_; subst f5_))
                  refine hK.out _ _ ⟨HS0_, ((HB.out.cell (World.block_lt_of_cell? w _ hw483_0)).trans hw483_0)⟩ (fun hHeld => ?_)
                  clear hK K
                  refine norm_ (a' := ?_) ?_ ?_
                  rotate_left
                  ·show Act.put _ (some 79) _ = _
                   simp only [Act.put, List.setIfInBounds_toArray, List.set_cons_zero, List.set_cons_succ, i64_w, i32_w]
                   rfl
                  refine one_ (i := 6) (N := some 73) #[true, true, true, true, true, true, true, true, true, true, true, true, true, false, false, false] rfl rfl (one_of HT_.out (by kernel_rfl)) (by decide) (fun K hK => ?_)
                  refine Kd.N_append_rows_step (Kd.slice 3 (Kd.int .i64)) (w0 := w) w.heap.size (by rfl) (.tmp 67) (.tmp 72) 50 52 (.slice none 0 0) 24 rfl Try.underlying50 info52 rfl (by decide) (by omega) (.slice Ao45 x12_2.length co45) x12_2 y477 _ _ _ (fun k_ => some k_ ≠ (.slice (some ad476) t456.length co47 : Value).ownBlock ∧ some k_ ≠ (.slice Ao44 x13_2.length co44 : Value).ownBlock ∧ some k_ ≠ (v485 : Value).ownBlock) (fun k_ => ((fun k_ => some k_ ≠ (.slice (some ad476) t456.length co47 : Value).ownBlock ∧ some k_ ≠ (.slice Ao44 x13_2.length co44 : Value).ownBlock ∧ some k_ ≠ (v485 : Value).ownBlock)) k_ ∧ some k_ ≠ (.slice Ao45 x12_2.length co45 : Value).ownBlock) rfl rfl ?aO ?aR (fun _ hk => hk) ?aF ?aB ?aS ?aL ?_
                  (case aR => exact (by skip; exact Kd.N_F (Kd.N_mono (ok' := (fun k_ => ((fun k_ => some k_ ≠ (.slice (some ad476) t456.length co47 : Value).ownBlock ∧ some k_ ≠ (.slice Ao44 x13_2.length co44 : Value).ownBlock ∧ some k_ ≠ (v485 : Value).ownBlock)) k_ ∧ some k_ ≠ (.slice Ao45 x12_2.length co45 : Value).ownBlock)) (HO479.out) (fun k_ hk => ⟨⟨hk.1.1, ⟨hk.1.2.2, hk.2⟩⟩, hk.1.2.1⟩))))
                  (case aB => exact (BB HB.out))
                  (case aF => exact (fun k_ hk => ⟨Kd.fresh' (Kd.N_lt (by (with_reducible repeat (first | apply Kd.N_alloc | apply Kd.N_drewN | apply Kd.N_drew)); exact HO_11.out)) k_ hk, Kd.fresh' (Kd.R_lt (RR HO_13.out)) k_ hk, Kd.fresh' (Kd.R_lt (RR HO486.out)) k_ hk⟩))
                  (case aO => exact (by (with_reducible repeat (first | apply Kd.N_alloc | apply Kd.N_drewN | apply Kd.N_drew)); exact Kd.N_mono HO_12.out (fun _ hk => ⟨hk.1.1.1, ⟨hk.1.1.2, hk.2⟩⟩)))
                  (case aS => exact (below_size (BB HB.out)))
                  (case aL => have := LMc40.out; omega)
                  intro v481 w52 ho hb hg hat
                  have HS0_ := Go.Proofs.YtahimindlnkmoaaW.PrintWords.cell_grown hg (hHeld.1) (by have h_ := HO_11.out.1 _ rfl; first | (rw [add_block]; (first | exact h_.1.1 | exact h_.1 | exact h_.1.2 | exact h_.2 | exact h_.2.1 | exact h_.2.2 | exact h_.1.1.1 | exact h_.1.1.2 | exact h_.1.2.1 | exact h_.1.2.2 | exact h_.2.2.1 | exact h_.2.2.2 | exact h_.2.1.1 | exact h_.2.1.2 | exact h_.1.1.1.1 | exact h_.1.1.1.2 | exact h_.2.2.2.1 | exact h_.2.2.2.2 | exact h_)) | (show some (Addr.add _ _).block ≠ _; rw [add_block]; (first | exact h_.1.1 | exact h_.1 | exact h_.1.2 | exact h_.2 | exact h_.2.1 | exact h_.2.2 | exact h_.1.1.1 | exact h_.1.1.2 | exact h_.1.2.1 | exact h_.1.2.2 | exact h_.2.2.1 | exact h_.2.2.2 | exact h_.2.1.1 | exact h_.2.1.2 | exact h_.1.1.1.1 | exact h_.1.1.1.2 | exact h_.2.2.2.1 | exact h_.2.2.2.2 | exact h_)) | (first | exact h_.1.1 | exact h_.1 | exact h_.1.2 | exact h_.2 | exact h_.2.1 | exact h_.2.2 | exact h_.1.1.1 | exact h_.1.1.2 | exact h_.1.2.1 | exact h_.1.2.2 | exact h_.2.2.1 | exact h_.2.2.2 | exact h_.2.1.1 | exact h_.2.1.2 | exact h_.1.1.1.1 | exact h_.1.1.1.2 | exact h_.2.2.2.1 | exact h_.2.2.2.2 | exact h_))
                  rw [← Ny480.out] at ho
                  have n0_ := Aside0.mk (Kd.N_afterv (ok := (fun k_ => some k_ ≠ (.slice Ao44 x13_2.length co44 : Value).ownBlock ∧ some k_ ≠ (.slice Ao53 y477.length co53 : Value).ownBlock ∧ some k_ ≠ (v485 : Value).ownBlock)) (by (with_reducible repeat (first | apply Kd.N_alloc | apply Kd.N_drewN | apply Kd.N_drew)); exact Kd.N_mono HO_11.out (fun _ hk => ⟨⟨hk.1.1.2, ⟨hk.1.2, hk.2⟩⟩, hk.1.1.1⟩)) hg hat)
                  have n1_ := Aside0.mk (Kd.R_over' (RR HO_13.out) (Kd.N_typed (by (with_reducible repeat (first | apply Kd.N_alloc | apply Kd.N_drewN | apply Kd.N_drew)); exact HO_12.out)) (by decide) hg)
                  have n2_ := Aside0.mk (Kd.V_afterv (ok := (fun k_ => some k_ ≠ (.slice (some ad476) t456.length co47 : Value).ownBlock ∧ some k_ ≠ (.slice Ao44 x13_2.length co44 : Value).ownBlock ∧ some k_ ≠ (.slice Ao53 y477.length co53 : Value).ownBlock ∧ some k_ ≠ (v485 : Value).ownBlock)) (by (with_reducible repeat (first | apply Kd.V_alloc | apply Kd.V_drewN | apply Kd.V_drew)); exact Kd.V_mono HL476_0.out (by first | exact (fun _ hk => ⟨⟨hk.1.1.2, ⟨hk.1.1.1.2, ⟨hk.1.2, hk.2⟩⟩⟩, hk.1.1.1.1⟩) | exact (fun _ hk => PT hk))) hg hat)
                  have n3_ := Aside0.mk (Kd.N_afterv (ok := (fun k_ => some k_ ≠ (.slice (some ad476) t456.length co47 : Value).ownBlock ∧ some k_ ≠ (.slice Ao44 x13_2.length co44 : Value).ownBlock ∧ some k_ ≠ (v485 : Value).ownBlock)) (by (with_reducible repeat (first | apply Kd.N_alloc | apply Kd.N_drewN | apply Kd.N_drew)); exact Kd.N_mono HO479.out (fun _ hk => ⟨⟨hk.1.1, ⟨hk.1.2.2, hk.2⟩⟩, hk.1.2.1⟩)) hg hat)
                  have n4_ := Aside0.mk (Kd.R_over' (RR HO486.out) (Kd.N_typed (by (with_reducible repeat (first | apply Kd.N_alloc | apply Kd.N_drewN | apply Kd.N_drew)); exact HO_12.out)) (by decide) hg)
                  have n5_ := Aside0.mk (hb)
                  have n6_ := Aside0.mk (ho)
                  clear HO_11
                  clear HO_13
                  clear HL476_0
                  clear HO479
                  clear HO486
                  clear HB
                  clear HO_12
                  have HO_11 := n0_
                  have HO_13 := n1_
                  have HL476_0 := n2_
                  have HO479 := n3_
                  have HO486 := n4_
                  have HB := n5_
                  have HO482 := n6_
                  clear n0_ n1_ n2_ n3_ n4_ n5_ n6_
                  clear ho hb hg hat
                  refine hK.out _ _ ⟨HS0_, ((HB.out.cell (World.block_lt_of_cell? w _ hw483_0)).trans hw483_0)⟩ (fun hHeld => ?_)
                  clear hK K
                  refine norm_ (a' := ?_) ?_ ?_
                  rotate_left
                  ·show Act.put _ (some 73) _ = _
                   simp only [Act.put, List.setIfInBounds_toArray, List.set_cons_zero, List.set_cons_succ, i64_w, i32_w]
                   rfl
                  exact norm_ (by simp only [putAll, Act.put, List.setIfInBounds_toArray, List.set_cons_zero, List.set_cons_succ]) (hCont (.slice Ao53 y477.length co53, v481, v485) _ ⟨hHeld, (by (with_reducible repeat (first | apply Kd.V_alloc | apply Kd.V_drewN | apply Kd.V_drew)); exact Kd.V_mono HL476_0.out (by first | exact (fun _ hk => ⟨hk.1.2.2.1, ⟨hk.2, ⟨hk.1.2.2.2, ⟨hk.1.1, hk.1.2.1⟩⟩⟩⟩) | exact (fun _ hk => PT hk))), (by (with_reducible repeat (first | apply Kd.N_alloc | apply Kd.N_drewN | apply Kd.N_drew)); exact Kd.N_mono HO479.out (fun _ hk => ⟨hk.2, ⟨hk.1.2.2, ⟨hk.1.1, hk.1.2.1⟩⟩⟩)), (by (with_reducible repeat (first | apply Kd.N_alloc | apply Kd.N_drewN | apply Kd.N_drew)); exact Kd.N_mono HO482.out (fun _ hk => ⟨hk.2.2, ⟨hk.1, hk.2.1⟩⟩)), (by (with_reducible repeat (first | apply Kd.R_alloc | apply Kd.R_drewN | apply Kd.R_drew)); exact Kd.R_mono HO486.out (fun _ hk => hk.2)), (by (with_reducible repeat (first | apply Kd.N_alloc | apply Kd.N_drewN | apply Kd.N_drew)); exact Kd.N_mono HO_11.out (fun _ hk => ⟨hk.1.2.1, ⟨hk.2, ⟨hk.1.2.2, hk.1.1⟩⟩⟩)), (by (with_reducible repeat (first | apply Kd.R_alloc | apply Kd.R_drewN | apply Kd.R_drew)); exact Kd.R_mono HO_13.out (fun _ hk => hk.2)), (BB HB.out)⟩)
                ·skip
                 refine Kd.R_lit_step Kd.string _ 9 ?hg (N := 79) ?hd (xs := ([rdOf ByteArray.empty l1 x45_2] : List ByteArray)) (inner := [.string (rdOf ByteArray.empty l1 x45_2)]) (ok := fun _ => True) (okp := fun _ => True) ?hr ?hp (fun _ hk => hk) trivial (Below.refl _ _) (Nat.le_refl _) (by simp) ?_; (case hd => rfl); (case hg => rfl); (case hr => first | (go_simp; done) | (go_simp; rfl)); (case hp => exact (Reps.one (show Kd.M Kd.string _ _ _ (rdOf ByteArray.empty l1 x45_2) [.string (rdOf ByteArray.empty l1 x45_2)] from rfl) (Reps.none _ _)))
                 intro v485 w48 ho49 hb hg_ hnew_
                 have HS0_ := (hb.cell (World.block_lt_of_cell? _ _ (hHeld.1))).trans (hHeld.1)
                 clear hg_ hnew_
                 (first | rw [← Ny484.out] at ho49 | (simp only [Int.reduceToNat] at ho49; rw [← Ny484.out] at ho49))
                 have n0_ := Aside0.mk (Kd.N_elder' (by (with_reducible repeat (first | apply Kd.N_alloc | apply Kd.N_drewN | apply Kd.N_drew)); exact HO_11.out) (Kd.R_base ho49) hb)
                 have n1_ := Aside0.mk (Kd.N_elder' (by (with_reducible repeat (first | apply Kd.N_alloc | apply Kd.N_drewN | apply Kd.N_drew)); exact HO_12.out) (Kd.R_base ho49) hb)
                 have n2_ := Aside0.mk (Kd.R_elder' (RR HO_13.out) (Kd.R_base ho49) hb)
                 have n3_ := Aside0.mk (Kd.V_elder' (by (with_reducible repeat (first | apply Kd.V_alloc | apply Kd.V_drewN | apply Kd.V_drew)); exact HL476_0.out) (Kd.R_base ho49) hb)
                 have n4_ := Aside0.mk (Kd.R_lower (Kd.R_new' ho49 (Kd.R_lt (RR HO_13.out))) (below_size (BB HB.out)))
                 have n5_ := Aside0.mk (Kd.C_below (by repeat (first | (with_reducible exact HR476_0.out) | (with_reducible refine Kd.C_alloc ?_ _) | (with_reducible refine Kd.C_drewN ?_ _) | (with_reducible refine Kd.C_drew ?_) | exact HR476_0.out)) hb)
                 have n6_ := Aside0.mk (below_step (BB HB.out) hb)
                 clear HO_11
                 clear HO_12
                 clear HO_13
                 clear HL476_0
                 clear HR476_0
                 clear HB
                 have HO_11 := n0_
                 have HO_12 := n1_
                 have HO_13 := n2_
                 have HL476_0 := n3_
                 have HO486 := n4_
                 have HR476_0 := n5_
                 have HB := n6_
                 clear n0_ n1_ n2_ n3_ n4_ n5_ n6_
                 clear hb ho49
                 refine hK.out _ _ ⟨HS0_, ((HB.out.cell (World.block_lt_of_cell? w _ hw483_0)).trans hw483_0)⟩ (fun hHeld => ?_)
                 clear hK K
                 refine norm_ (a' := ?_) ?_ ?_
                 rotate_left
                 ·show Act.put _ (some 79) _ = _
                  simp only [Act.put, List.setIfInBounds_toArray, List.set_cons_zero, List.set_cons_succ, i64_w, i32_w]
                  rfl
                 refine one_ (i := 5) (N := some 72) #[true, true, true, true, true, true, false, true, true, true, true, true, true, false, false, false] rfl rfl (one_of HT_.out (by kernel_rfl)) (by decide) (fun K hK => ?_)
                 refine Kd.N_lit_step (Kd.slice 3 (Kd.int .i64)) _ 52 ?hg (N' := 72) ?hd (xs := ([rd_L9 t456 x45_2] : List (List Int))) (inner := [.slice A476_0 (rd_L9 t456 x45_2).length c476_0]) (ok := (fun k_ => some k_ ≠ (.slice (some ad476) t456.length co47 : Value).ownBlock ∧ some k_ ≠ (.slice Ao45 x12_2.length co45 : Value).ownBlock ∧ some k_ ≠ (.slice Ao44 x13_2.length co44 : Value).ownBlock ∧ some k_ ≠ (v485 : Value).ownBlock)) (okp := (fun k_ => some k_ ≠ (.slice (some ad476) t456.length co47 : Value).ownBlock ∧ some k_ ≠ (.slice Ao45 x12_2.length co45 : Value).ownBlock ∧ some k_ ≠ (.slice Ao44 x13_2.length co44 : Value).ownBlock ∧ some k_ ≠ (v485 : Value).ownBlock)) ?hr ?hp (fun _ hk => hk) ((show ∀ k_, w48.heap.size ≤ k_ → (fun k_ => some k_ ≠ (.slice (some ad476) t456.length co47 : Value).ownBlock ∧ some k_ ≠ (.slice Ao45 x12_2.length co45 : Value).ownBlock ∧ some k_ ≠ (.slice Ao44 x13_2.length co44 : Value).ownBlock ∧ some k_ ≠ (v485 : Value).ownBlock) k_ from fun k_ hk => ⟨Kd.fresh' (Kd.N_lt (by (with_reducible repeat (first | apply Kd.N_alloc | apply Kd.N_drewN | apply Kd.N_drew)); exact HO_11.out)) k_ hk, Kd.fresh' (Kd.N_lt (by (with_reducible repeat (first | apply Kd.N_alloc | apply Kd.N_drewN | apply Kd.N_drew)); exact HO_12.out)) k_ hk, Kd.fresh' (Kd.R_lt (RR HO_13.out)) k_ hk, Kd.fresh' (Kd.R_lt (RR HO486.out)) k_ hk⟩) _ (Nat.le_refl _)) (Below.refl _ _) (Nat.le_refl _) (by simp) ?_; (case hd => rfl); (case hg => rfl); (case hr => first | (go_simp; done) | (go_simp; rfl)); (case hp => exact (Reps.one (show Kd.FK (Kd.slice 3 (Kd.int .i64)) _ _ (rd_L9 t456 x45_2) [.slice A476_0 (rd_L9 t456 x45_2).length c476_0] from (Kd.FK_slice_mk (Kd.V_reads' (Kd.V_mono (ok' := (fun k_ => some k_ ≠ (.slice (some ad476) t456.length co47 : Value).ownBlock ∧ some k_ ≠ (.slice Ao45 x12_2.length co45 : Value).ownBlock ∧ some k_ ≠ (.slice Ao44 x13_2.length co44 : Value).ownBlock ∧ some k_ ≠ (v485 : Value).ownBlock)) (HL476_0.out) (fun k_ hk => ⟨hk.1.2, ⟨hk.1.1.1, ⟨hk.1.1.2, hk.2⟩⟩⟩))).2.1 (Kd.V_F (Kd.V_mono (ok' := (fun k_ => some k_ ≠ (.slice (some ad476) t456.length co47 : Value).ownBlock ∧ some k_ ≠ (.slice Ao45 x12_2.length co45 : Value).ownBlock ∧ some k_ ≠ (.slice Ao44 x13_2.length co44 : Value).ownBlock ∧ some k_ ≠ (v485 : Value).ownBlock)) (HL476_0.out) (fun k_ hk => ⟨hk.1.2, ⟨hk.1.1.1, ⟨hk.1.1.2, hk.2⟩⟩⟩))))) (Reps.none _ _)))
                 intro v478 w50 ho51 hb hg_ hnew_
                 have HS0_ := (hb.cell (World.block_lt_of_cell? _ _ (hHeld.1))).trans (hHeld.1)
                 clear hg_ hnew_
                 (first | rw [← Ny477.out] at ho51 | (simp only [Int.reduceToNat] at ho51; rw [← Ny477.out] at ho51))
                 have n0_ := Aside0.mk (Kd.N_elder' (by (with_reducible repeat (first | apply Kd.N_alloc | apply Kd.N_drewN | apply Kd.N_drew)); exact HO_11.out) (Kd.N_base ho51) hb)
                 have n1_ := Aside0.mk (Kd.N_elder' (by (with_reducible repeat (first | apply Kd.N_alloc | apply Kd.N_drewN | apply Kd.N_drew)); exact HO_12.out) (Kd.N_base ho51) hb)
                 have n2_ := Aside0.mk (Kd.R_below (RR HO_13.out) hb)
                 have n3_ := Aside0.mk (Kd.V_elder' (by (with_reducible repeat (first | apply Kd.V_alloc | apply Kd.V_drewN | apply Kd.V_drew)); exact HL476_0.out) (Kd.N_base ho51) hb)
                 have n4_ := Aside0.mk (Kd.R_below (RR HO486.out) hb)
                 have n5_ := Aside0.mk (Kd.N_lower ho51 (below_size (BB HB.out)))
                 have n6_ := Aside0.mk (Kd.C_below (by repeat (first | (with_reducible exact HR476_0.out) | (with_reducible refine Kd.C_alloc ?_ _) | (with_reducible refine Kd.C_drewN ?_ _) | (with_reducible refine Kd.C_drew ?_) | exact HR476_0.out)) hb)
                 have n7_ := Aside0.mk (below_step (BB HB.out) hb)
                 clear HO_11
                 clear HO_12
                 clear HO_13
                 clear HL476_0
                 clear HO486
                 clear HR476_0
                 clear HB
                 have HO_11 := n0_
                 have HO_12 := n1_
                 have HO_13 := n2_
                 have HL476_0 := n3_
                 have HO486 := n4_
                 have HO479 := n5_
                 have HR476_0 := n6_
                 have HB := n7_
                 clear n0_ n1_ n2_ n3_ n4_ n5_ n6_ n7_
                 clear hb ho51
                 obtain ⟨Ao53, co53, eo53⟩ := Kd.N_slice HO479.out
                 (first | subst eo53 | (injection eo53 with f1_ f2_ f3_; have f4_ := f1_.symm; have f5_ := f3_.symm; clear f1_ f2_ f3_; subst f4_; subst f5_))
                 refine hK.out _ _ ⟨HS0_, ((HB.out.cell (World.block_lt_of_cell? w _ hw483_0)).trans hw483_0)⟩ (fun hHeld => ?_)
                 clear hK K
                 refine norm_ (a' := ?_) ?_ ?_
                 rotate_left
                 ·show Act.put _ (some 72) _ = _
                  simp only [Act.put, List.setIfInBounds_toArray, List.set_cons_zero, List.set_cons_succ, i64_w, i32_w]
                  rfl
                 refine one_ (i := 6) (N := some 73) #[true, true, true, true, true, true, true, true, true, true, true, true, true, false, false, false] rfl rfl (one_of HT_.out (by kernel_rfl)) (by decide) (fun K hK => ?_)
                 refine Kd.N_append_rows_step (Kd.slice 3 (Kd.int .i64)) (w0 := w) w.heap.size (by rfl) (.tmp 67) (.tmp 72) 50 52 (.slice none 0 0) 24 rfl Try.underlying50 info52 rfl (by decide) (by omega) (.slice Ao45 x12_2.length co45) x12_2 y477 _ _ _ (fun k_ => some k_ ≠ (.slice (some ad476) t456.length co47 : Value).ownBlock ∧ some k_ ≠ (.slice Ao44 x13_2.length co44 : Value).ownBlock ∧ some k_ ≠ (v485 : Value).ownBlock) (fun k_ => ((fun k_ => some k_ ≠ (.slice (some ad476) t456.length co47 : Value).ownBlock ∧ some k_ ≠ (.slice Ao44 x13_2.length co44 : Value).ownBlock ∧ some k_ ≠ (v485 : Value).ownBlock)) k_ ∧ some k_ ≠ (.slice Ao45 x12_2.length co45 : Value).ownBlock) rfl rfl ?aO ?aR (fun _ hk => hk) ?aF ?aB ?aS ?aL ?_
                 (case aR => exact (by skip; exact Kd.N_F (Kd.N_mono (ok' := (fun k_ => ((fun k_ => some k_ ≠ (.slice (some ad476) t456.length co47 : Value).ownBlock ∧ some k_ ≠ (.slice Ao44 x13_2.length co44 : Value).ownBlock ∧ some k_ ≠ (v485 : Value).ownBlock)) k_ ∧ some k_ ≠ (.slice Ao45 x12_2.length co45 : Value).ownBlock)) (HO479.out) (fun k_ hk => ⟨⟨hk.1, ⟨hk.2.2.1, hk.2.2.2⟩⟩, hk.2.1⟩))))
                 (case aB => exact (BB HB.out))
                 (case aF => exact (fun k_ hk => ⟨Kd.fresh' (Kd.N_lt (by (with_reducible repeat (first | apply Kd.N_alloc | apply Kd.N_drewN | apply Kd.N_drew)); exact HO_11.out)) k_ hk, Kd.fresh' (Kd.R_lt (RR HO_13.out)) k_ hk, Kd.fresh' (Kd.R_lt (RR HO486.out)) k_ hk⟩))
                 (case aO => exact (by (with_reducible repeat (first | apply Kd.N_alloc | apply Kd.N_drewN | apply Kd.N_drew)); exact Kd.N_mono HO_12.out (fun _ hk => ⟨hk.1.1.1, ⟨hk.1.1.2, hk.1.2⟩⟩)))
                 (case aS => exact (below_size (BB HB.out)))
                 (case aL => have := LMc40.out; omega)
                 intro v481 w52 ho hb hg hat
                 have HS0_ := Go.Proofs.YtahimindlnkmoaaW.PrintWords.cell_grown hg (hHeld.1) (by have h_ := HO_11.out.1 _ rfl; first | (rw [add_block]; (first | exact h_.1.1 | exact h_.1 | exact h_.1.2 | exact h_.2 | exact h_.2.1 | exact h_.2.2 | exact h_.1.1.1 | exact h_.1.1.2 | exact h_.1.2.1 | exact h_.1.2.2 | exact h_.2.2.1 | exact h_.2.2.2 | exact h_.2.1.1 | exact h_.2.1.2 | exact h_.1.1.1.1 | exact h_.1.1.1.2 | exact h_.2.2.2.1 | exact h_.2.2.2.2 | exact h_)) | (show some (Addr.add _ _).block ≠ _; rw [add_block]; (first | exact h_.1.1 | exact h_.1 | exact h_.1.2 | exact h_.2 | exact h_.2.1 | exact h_.2.2 | exact h_.1.1.1 | exact h_.1.1.2 | exact h_.1.2.1 | exact h_.1.2.2 | exact h_.2.2.1 | exact h_.2.2.2 | exact h_.2.1.1 | exact h_.2.1.2 | exact h_.1.1.1.1 | exact h_.1.1.1.2 | exact h_.2.2.2.1 | exact h_.2.2.2.2 | exact h_)) | (first | exact h_.1.1 | exact h_.1 | exact h_.1.2 | exact h_.2 | exact h_.2.1 | exact h_.2.2 | exact h_.1.1.1 | exact h_.1.1.2 | exact h_.1.2.1 | exact h_.1.2.2 | exact h_.2.2.1 | exact h_.2.2.2 | exact h_.2.1.1 | exact h_.2.1.2 | exact h_.1.1.1.1 | exact h_.1.1.1.2 | exact h_.2.2.2.1 | exact h_.2.2.2.2 | exact h_))
                 rw [← Ny480.out] at ho
                 have n0_ := Aside0.mk (Kd.N_afterv (ok := (fun k_ => some k_ ≠ (.slice Ao44 x13_2.length co44 : Value).ownBlock ∧ some k_ ≠ (v485 : Value).ownBlock ∧ some k_ ≠ (.slice Ao53 y477.length co53 : Value).ownBlock)) (by (with_reducible repeat (first | apply Kd.N_alloc | apply Kd.N_drewN | apply Kd.N_drew)); exact Kd.N_mono HO_11.out (fun _ hk => ⟨⟨hk.1.1.2, ⟨hk.1.2, hk.2⟩⟩, hk.1.1.1⟩)) hg hat)
                 have n1_ := Aside0.mk (Kd.R_over' (RR HO_13.out) (Kd.N_typed (by (with_reducible repeat (first | apply Kd.N_alloc | apply Kd.N_drewN | apply Kd.N_drew)); exact HO_12.out)) (by decide) hg)
                 have n2_ := Aside0.mk (Kd.V_afterv (ok := (fun k_ => some k_ ≠ (.slice (some ad476) t456.length co47 : Value).ownBlock ∧ some k_ ≠ (.slice Ao44 x13_2.length co44 : Value).ownBlock ∧ some k_ ≠ (v485 : Value).ownBlock ∧ some k_ ≠ (.slice Ao53 y477.length co53 : Value).ownBlock)) (by (with_reducible repeat (first | apply Kd.V_alloc | apply Kd.V_drewN | apply Kd.V_drew)); exact Kd.V_mono HL476_0.out (by first | exact (fun _ hk => ⟨⟨hk.1.1.2, ⟨hk.1.1.1.2, ⟨hk.1.2, hk.2⟩⟩⟩, hk.1.1.1.1⟩) | exact (fun _ hk => PT hk))) hg hat)
                 have n3_ := Aside0.mk (Kd.R_over' (RR HO486.out) (Kd.N_typed (by (with_reducible repeat (first | apply Kd.N_alloc | apply Kd.N_drewN | apply Kd.N_drew)); exact HO_12.out)) (by decide) hg)
                 have n4_ := Aside0.mk (Kd.N_afterv (ok := (fun k_ => some k_ ≠ (.slice (some ad476) t456.length co47 : Value).ownBlock ∧ some k_ ≠ (.slice Ao44 x13_2.length co44 : Value).ownBlock ∧ some k_ ≠ (v485 : Value).ownBlock)) (by (with_reducible repeat (first | apply Kd.N_alloc | apply Kd.N_drewN | apply Kd.N_drew)); exact Kd.N_mono HO479.out (fun _ hk => ⟨⟨hk.1, ⟨hk.2.2.1, hk.2.2.2⟩⟩, hk.2.1⟩)) hg hat)
                 have n5_ := Aside0.mk (hb)
                 have n6_ := Aside0.mk (ho)
                 clear HO_11
                 clear HO_13
                 clear HL476_0
                 clear HO486
                 clear HO479
                 clear HB
                 clear HO_12
                 have HO_11 := n0_
                 have HO_13 := n1_
                 have HL476_0 := n2_
                 have HO486 := n3_
                 have HO479 := n4_
                 have HB := n5_
                 have HO482 := n6_
                 clear n0_ n1_ n2_ n3_ n4_ n5_ n6_
                 clear ho hb hg hat
                 refine hK.out _ _ ⟨HS0_, ((HB.out.cell (World.block_lt_of_cell? w _ hw483_0)).trans hw483_0)⟩ (fun hHeld => ?_)
                 clear hK K
                 refine norm_ (a' := ?_) ?_ ?_
                 rotate_left
                 ·show Act.put _ (some 73) _ = _
                  simp only [Act.put, List.setIfInBounds_toArray, List.set_cons_zero, List.set_cons_succ, i64_w, i32_w]
                  rfl
                 exact norm_ (by simp only [putAll, Act.put, List.setIfInBounds_toArray, List.set_cons_zero, List.set_cons_succ]) (hCont (.slice Ao53 y477.length co53, v481, v485) _ ⟨hHeld, (by (with_reducible repeat (first | apply Kd.V_alloc | apply Kd.V_drewN | apply Kd.V_drew)); exact Kd.V_mono HL476_0.out (by first | exact (fun _ hk => ⟨hk.1.2.2.2, ⟨hk.2, ⟨hk.1.2.2.1, ⟨hk.1.1, hk.1.2.1⟩⟩⟩⟩) | exact (fun _ hk => PT hk))), (by (with_reducible repeat (first | apply Kd.N_alloc | apply Kd.N_drewN | apply Kd.N_drew)); exact Kd.N_mono HO479.out (fun _ hk => ⟨hk.2, ⟨hk.1.2.2, ⟨hk.1.1, hk.1.2.1⟩⟩⟩)), (by (with_reducible repeat (first | apply Kd.N_alloc | apply Kd.N_drewN | apply Kd.N_drew)); exact Kd.N_mono HO482.out (fun _ hk => ⟨hk.2.2, ⟨hk.1, hk.2.1⟩⟩)), (by (with_reducible repeat (first | apply Kd.R_alloc | apply Kd.R_drewN | apply Kd.R_drew)); exact Kd.R_mono HO486.out (fun _ hk => hk.2)), (by (with_reducible repeat (first | apply Kd.N_alloc | apply Kd.N_drewN | apply Kd.N_drew)); exact Kd.N_mono HO_11.out (fun _ hk => ⟨hk.1.2.2, ⟨hk.2, ⟨hk.1.2.1, hk.1.1⟩⟩⟩)), (by (with_reducible repeat (first | apply Kd.R_alloc | apply Kd.R_drewN | apply Kd.R_drew)); exact Kd.R_mono HO_13.out (fun _ hk => hk.2)), (BB HB.out)⟩)
               rintro ⟨v478, v481, v485⟩ w54 ⟨hS_, h0_, h1_, h2_, h3_, h4_, h5_, h6_⟩
               have n0_ : Aside0 (Kd.V (Kd.int .i64) 3 w54 w.heap.size (fun k_ => some k_ ≠ (v478 : Value).ownBlock ∧ some k_ ≠ (v481 : Value).ownBlock ∧ some k_ ≠ (v485 : Value).ownBlock ∧ some k_ ≠ (.slice (some ad476) t456.length co47 : Value).ownBlock ∧ some k_ ≠ (.slice Ao44 x13_2.length co44 : Value).ownBlock) (.slice A476_0 (rd_L9 t456 x45_2).length c476_0) (rd_L9 t456 x45_2)) := ⟨h0_⟩
               have n1_ : Aside0 (Kd.N (Kd.slice 3 (Kd.int .i64)) 52 w54 w.heap.size (fun k_ => some k_ ≠ (v481 : Value).ownBlock ∧ some k_ ≠ (v485 : Value).ownBlock ∧ some k_ ≠ (.slice (some ad476) t456.length co47 : Value).ownBlock ∧ some k_ ≠ (.slice Ao44 x13_2.length co44 : Value).ownBlock) v478 y477) := ⟨h1_⟩
               have n2_ : Aside0 (Kd.N (Kd.slice 3 (Kd.int .i64)) 52 w54 w.heap.size (fun k_ => some k_ ≠ (v485 : Value).ownBlock ∧ some k_ ≠ (.slice (some ad476) t456.length co47 : Value).ownBlock ∧ some k_ ≠ (.slice Ao44 x13_2.length co44 : Value).ownBlock) v481 y480) := ⟨h2_⟩
               have n3_ : Aside0 (Kd.R Kd.string 9 w54 w.heap.size (fun k_ => some k_ ≠ (.slice Ao44 x13_2.length co44 : Value).ownBlock) v485 y484) := ⟨h3_⟩
               have n4_ : Aside0 (Kd.N (Kd.slice 3 (Kd.int .i64)) 52 w54 w.heap.size (fun k_ => some k_ ≠ (v478 : Value).ownBlock ∧ some k_ ≠ (v481 : Value).ownBlock ∧ some k_ ≠ (v485 : Value).ownBlock ∧ some k_ ≠ (.slice Ao44 x13_2.length co44 : Value).ownBlock) (.slice (some ad476) t456.length co47) t456) := ⟨h4_⟩
               have n5_ : Aside0 (Kd.R Kd.string 9 w54 w.heap.size (fun k_ => some k_ ≠ (v485 : Value).ownBlock) (.slice Ao44 x13_2.length co44) x13_2) := ⟨h5_⟩
               have n6_ : Aside0 (Below w.heap.size w w54) := ⟨h6_⟩
               clear HO_11
               clear HO_12
               clear HO_13
               clear HB
               clear h0_ h1_ h2_ h3_ h4_ h5_ h6_
               have HL476_0 := n0_
               have HO479 := n1_
               have HO482 := n2_
               have HO486 := n3_
               have HO_11 := n4_
               have HO_13 := n5_
               have HB := n6_
               clear n0_ n1_ n2_ n3_ n4_ n5_ n6_
               have hHeld : w54.cell? (ad476.add (x45_2).toNat) = some (.slice A476_0 (rd_L9 t456 x45_2).length c476_0) ∧ w54.cell? (ad483.add (x45_2).toNat) = some (.string (rdOf ByteArray.empty l1 x45_2)) := hS_
               obtain ⟨Ao56, co56, eo56⟩ := Kd.R_slice HO486.out
               (first | subst eo56 | (injection eo56 with f1_ f2_ f3_; have f4_ := f1_.symm; have f5_ := f3_.symm; clear f1_ f2_ f3_; subst f4_; subst f5_))
               refine norm_ (a' := ?_) ?_ ?_
               rotate_left
               ·simp only [putAll, Act.put, List.setIfInBounds_toArray, List.set_cons_zero, List.set_cons_succ]
                rfl
               refine one_ (i := 13) (N := some 80) #[true, true, true, true, true, true, true, true, true, true, true, true, true, true, false, false] rfl rfl (one_of HT_.out (by kernel_rfl)) (by decide) (fun K hK => ?_)
               refine Kd.R_append_rows_step Kd.string (w0 := w) w.heap.size (by rfl) (.tmp 74) (.tmp 79) 34 9 (.string ⟨#[]⟩) 16 rfl Try.underlying34 info9 rfl (by decide) (by omega) (.slice Ao44 x13_2.length co44) x13_2 y484 _ _ _ (fun k_ => some k_ ≠ (.slice Ao56 y484.length co56 : Value).ownBlock) (fun _ => False) rfl rfl ?aO ?aR (fun _ _ h => h) (fun _ h => h.elim) ?aF ?aB ?aS ?aL ?_
               (case aR => exact CC (Kd.R_reads' HO486.out).2.2)
               (case aB => exact (BB HB.out))
               (case aF => exact (fun k_ hk => Kd.fresh' (Kd.R_lt (RR HO486.out)) k_ hk))
               (case aO => exact (RR HO_13.out))
               (case aS => exact (below_size (BB HB.out)))
               (case aL => have := LMc42.out; omega)
               intro v488 w55 ho hb hg hat
               have HS0_ := Go.Proofs.YtahimindlnkmoaaW.PrintWords.cell_grown hg (hHeld.1) (by have h_ := HO_11.out.1 _ rfl; first | (rw [add_block]; (first | exact h_.1.1 | exact h_.1 | exact h_.1.2 | exact h_.2 | exact h_.2.1 | exact h_.2.2 | exact h_.1.1.1 | exact h_.1.1.2 | exact h_.1.2.1 | exact h_.1.2.2 | exact h_.2.2.1 | exact h_.2.2.2 | exact h_.2.1.1 | exact h_.2.1.2 | exact h_.1.1.1.1 | exact h_.1.1.1.2 | exact h_.2.2.2.1 | exact h_.2.2.2.2 | exact h_)) | (show some (Addr.add _ _).block ≠ _; rw [add_block]; (first | exact h_.1.1 | exact h_.1 | exact h_.1.2 | exact h_.2 | exact h_.2.1 | exact h_.2.2 | exact h_.1.1.1 | exact h_.1.1.2 | exact h_.1.2.1 | exact h_.1.2.2 | exact h_.2.2.1 | exact h_.2.2.2 | exact h_.2.1.1 | exact h_.2.1.2 | exact h_.1.1.1.1 | exact h_.1.1.1.2 | exact h_.2.2.2.1 | exact h_.2.2.2.2 | exact h_)) | (first | exact h_.1.1 | exact h_.1 | exact h_.1.2 | exact h_.2 | exact h_.2.1 | exact h_.2.2 | exact h_.1.1.1 | exact h_.1.1.2 | exact h_.1.2.1 | exact h_.1.2.2 | exact h_.2.2.1 | exact h_.2.2.2 | exact h_.2.1.1 | exact h_.2.1.2 | exact h_.1.1.1.1 | exact h_.1.1.1.2 | exact h_.2.2.2.1 | exact h_.2.2.2.2 | exact h_))
               rw [← Ny487.out] at ho
               have n0_ := Aside0.mk (Kd.N_afterv (ok := (fun k_ => some k_ ≠ (v478 : Value).ownBlock ∧ some k_ ≠ (v481 : Value).ownBlock ∧ some k_ ≠ (.slice Ao56 y484.length co56 : Value).ownBlock)) (by (with_reducible repeat (first | apply Kd.N_alloc | apply Kd.N_drewN | apply Kd.N_drew)); exact Kd.N_mono HO_11.out (fun _ hk => ⟨⟨hk.1, ⟨hk.2.1, hk.2.2.1⟩⟩, hk.2.2.2⟩)) hg hat)
               have n1_ := Aside0.mk (Kd.V_afterv (ok := (fun k_ => some k_ ≠ (.slice (some ad476) t456.length co47 : Value).ownBlock ∧ some k_ ≠ (v478 : Value).ownBlock ∧ some k_ ≠ (v481 : Value).ownBlock ∧ some k_ ≠ (.slice Ao56 y484.length co56 : Value).ownBlock)) (by (with_reducible repeat (first | apply Kd.V_alloc | apply Kd.V_drewN | apply Kd.V_drew)); exact Kd.V_mono HL476_0.out (by first | exact (fun _ hk => ⟨⟨hk.2.2.2.1, ⟨hk.1, ⟨hk.2.1, hk.2.2.1⟩⟩⟩, hk.2.2.2.2⟩) | exact (fun _ hk => PT hk))) hg hat)
               have n2_ := Aside0.mk (Kd.N_afterv (ok := (fun k_ => some k_ ≠ (.slice (some ad476) t456.length co47 : Value).ownBlock ∧ some k_ ≠ (v481 : Value).ownBlock ∧ some k_ ≠ (.slice Ao56 y484.length co56 : Value).ownBlock)) (by (with_reducible repeat (first | apply Kd.N_alloc | apply Kd.N_drewN | apply Kd.N_drew)); exact Kd.N_mono HO479.out (fun _ hk => ⟨⟨hk.2.2.1, ⟨hk.1, hk.2.1⟩⟩, hk.2.2.2⟩)) hg hat)
               have n3_ := Aside0.mk (Kd.N_afterv (ok := (fun k_ => some k_ ≠ (.slice (some ad476) t456.length co47 : Value).ownBlock ∧ some k_ ≠ (.slice Ao56 y484.length co56 : Value).ownBlock)) (by (with_reducible repeat (first | apply Kd.N_alloc | apply Kd.N_drewN | apply Kd.N_drew)); exact Kd.N_mono HO482.out (fun _ hk => ⟨⟨hk.2.1, hk.1⟩, hk.2.2⟩)) hg hat)
               have n4_ := Aside0.mk (Kd.R_after (ok := (fun _ => True)) (by (with_reducible repeat (first | apply Kd.R_alloc | apply Kd.R_drewN | apply Kd.R_drew)); exact Kd.R_mono HO486.out (fun _ hk => ⟨trivial, hk⟩)) hg hat)
               have n5_ := Aside0.mk (hb)
               have n6_ := Aside0.mk (ho)
               clear HO_11
               clear HL476_0
               clear HO479
               clear HO482
               clear HO486
               clear HB
               clear HO_13
               have HO_11 := n0_
               have HL476_0 := n1_
               have HO479 := n2_
               have HO482 := n3_
               have HO486 := n4_
               have HB := n5_
               have HO489 := n6_
               clear n0_ n1_ n2_ n3_ n4_ n5_ n6_
               clear ho hb hg hat
               refine hK.out _ _ ⟨HS0_, ((HB.out.cell (World.block_lt_of_cell? w _ hw483_0)).trans hw483_0)⟩ (fun hHeld => ?_)
               clear hK K
               refine norm_ (a' := ?_) ?_ ?_
               rotate_left
               ·show Act.put _ (some 80) _ = _
                simp only [Act.put, List.setIfInBounds_toArray, List.set_cons_zero, List.set_cons_succ, i64_w, i32_w]
                rfl
               refine pure_ (i := 14) (N := some 12) (v := ?_) (a' := ?_) #[true, true, true, true, true, true, true, true, true, true, true, true, true, true, true, false] rfl rfl (any_of HT_.out (by kernel_rfl)) (fun _ _ _ h => h) (Or.inl ⟨by rfl, ?_⟩) ?_ ?_
               rotate_left
               ·intro w'
                go_simp
                with_reducible rfl
               rotate_left
               ·simp only [Act.put, List.setIfInBounds_toArray, List.set_cons_zero, List.set_cons_succ, i64_w, i32_w]
                rfl
               refine pure_ (i := 15) (N := some 13) (v := ?_) (a' := ?_) #[true, true, true, true, true, true, true, true, true, true, true, true, true, true, true, true] rfl rfl (any_of HT_.out (by kernel_rfl)) (fun _ _ _ h => h) (Or.inl ⟨by rfl, ?_⟩) ?_ ?_
               rotate_left
               ·intro w'
                go_simp
                with_reducible rfl
               rotate_left
               ·simp only [Act.put, List.setIfInBounds_toArray, List.set_cons_zero, List.set_cons_succ, i64_w, i32_w]
                rfl
               refine done_ (done_of HT_.out (by kernel_rfl)) ?_
               try go_wp2
               go_roundg k2
               case measure => have := HJ4.out; have := HK2.out; omega
               case rel => exact ⟨(y480), (y487), (wrap64 (x45_2 + 1)), FR, H', ⟨by have := HJ4.out; have := HK2.out; omega⟩, ⟨by (with_reducible repeat (first | apply Kd.N_alloc | apply Kd.N_drewN | apply Kd.N_drew)); exact Kd.N_mono HO_11.out (fun _ hk => ⟨hk.1.2.1, hk.2⟩)⟩, ⟨by (with_reducible repeat (first | apply Kd.N_alloc | apply Kd.N_drewN | apply Kd.N_drew)); exact Kd.N_mono HO482.out (fun _ hk => ⟨hk.1.1, hk.2⟩)⟩, ⟨by (with_reducible repeat (first | apply Kd.R_alloc | apply Kd.R_drewN | apply Kd.R_drew)); exact Kd.R_mono HO489.out (fun _ hk => trivial)⟩, ⟨(BB HB.out)⟩⟩
              ·rw [if_neg c42] at H
               exact absurd H (by simp)
             ·rw [if_neg c41] at H
              exact absurd H (by simp)
            ·rw [if_neg c40] at H
             exact absurd H (by simp)
           ·rw [if_neg c39] at H
            exact absurd H (by simp)
         ·replace c15 := Bool.eq_false_iff.mpr c15
          subst c15
          have H1 : (impl_Decode.l0 k2 l1 t453 t456 x12_2 x13_2 l2 (l2.length : Int) (wrap64 (x45_2 + 1))) = some (r1, r2) := by rw [if_neg (show ¬ (false = true) by decide)] at H; exact H
          clear H
          have H := H1
          clear H1
          have H' := Aside0.mk H
          clear H
          have p459 : 0 ≤ (x45_2 : Int) := DT
          have q459 : x45_2 < (l2.length : Int) := DT
          obtain ⟨ad459, e459, hx459_0⟩ := Kd.at_bool HR2.out x45_2 p459 q459
          (try rw [← Nbq14.out] at hx459_0)
          cases e459
          replace hx459_0 := (HB.out.cell (World.block_lt_of_cell? w _ hx459_0)).trans hx459_0
          replace p459 := eq_true p459
          replace q459 := eq_true q459
          go_wp2
          go_roundg k2
          case measure => have := HJ4.out; have := HK2.out; omega
          case rel => exact ⟨(x12_2), (x13_2), (wrap64 (x45_2 + 1)), FR, H', ⟨by have := HJ4.out; have := HK2.out; omega⟩, ⟨by (with_reducible repeat (first | apply Kd.N_alloc | apply Kd.N_drewN | apply Kd.N_drew)); exact HO_11.out⟩, ⟨by (with_reducible repeat (first | apply Kd.N_alloc | apply Kd.N_drewN | apply Kd.N_drew)); exact HO_12.out⟩, ⟨(RR HO_13.out)⟩, ⟨(BB HB.out)⟩⟩
        ·rw [if_neg c13] at H
         exact absurd H (by simp)
       ·rw [if_neg c12] at H
        exact absurd H (by simp)
      ·rw [if_neg c11] at H
       have c11b0 : decide (x45_2 < (l2.length : Int)) = false := decide_eq_false c11
       clear c11
       by_cases c57 : (x13_2.length : Int) < t453
       ·rw [if_pos c57] at H
        have c57b0 : decide ((x13_2.length : Int) < t453) = true := decide_eq_true c57
        clear c57
        simp only [Option.some.injEq, Prod.mk.injEq] at H
        obtain ⟨rfl, rfl⟩ := H
        obtain ⟨Ao58, co58, eo58⟩ := Kd.R_slice HO_13.out
        subst eo58
        go_wp2
        go_ret2
        exact ⟨_, ER, by first | exact Kd.R_nil _ _ _ _ _ | exact Kd.N_nil _ _ _ _ _ | exact Kd.V_nil _ _ _ _ _ | exact Kd.Q_nil _ _ _ _ _ | exact Kd.S_nil _ _ _ _ _, (BB HB.out)⟩
       ·rw [if_neg c57] at H
        have c57b0 : decide ((x13_2.length : Int) < t453) = false := decide_eq_false c57
        clear c57
        by_cases c59 : 0 ≤ t453
        ·rw [if_pos c59] at H
         have c59b0 := eq_true c59
         have c59b1 : decide (0 ≤ t453) = true := decide_eq_true c59
         clear c59
         by_cases c60 : t453 ≤ (x12_2.length : Int)
         ·rw [if_pos c60] at H
          have c60b0 := eq_true c60
          have c60b1 : decide (t453 ≤ (x12_2.length : Int)) = true := decide_eq_true c60
          clear c60
          obtain ⟨y490, hy490⟩ : ∃ y_ : List (List Int), y_ = (x12_2.take (t453 : Int).toNat) := ⟨_, rfl⟩
          replace H : ((impl_InvM.f k2 y490).bind fun bt495 => (if bt495.2 = true then (if t453 ≤ (x13_2.length : Int) then ((impl_ApplyM.f k2 bt495.1 (x13_2.take (t453 : Int).toNat)).bind fun t504 => (some (t504, true))) else (none)) else (some (([] : List ByteArray), false)))) = some (r1, r2) := by first | (rw [hy490]; with_reducible exact H) | (have H2_ := (Option.bind_some _ _).symm.trans H; rw [hy490]; with_reducible exact H2_) | (have H2_ := (Option.bind_some _ _).symm.trans H; with_reducible exact H2_) | with_reducible exact H | (rw [hy490]; exact H) | exact H
          have Ny490 := Aside0.mk hy490
          clear hy490
          replace H := Option.bind_eq_some_iff.mp H
          obtain ⟨⟨t495, t496⟩, A610, H⟩ := H
          replace H : (if t496 = true then (if t453 ≤ (x13_2.length : Int) then ((impl_ApplyM.f k2 t495 (x13_2.take (t453 : Int).toNat)).bind fun t504 => (some (t504, true))) else (none)) else (some (([] : List ByteArray), false))) = some (r1, r2) := H
          have A61 := Aside0.mk A610
          clear A610
          by_cases c62 : t496 = true
          ·subst c62
           have H1 : (if t453 ≤ (x13_2.length : Int) then ((impl_ApplyM.f k2 t495 (x13_2.take (t453 : Int).toNat)).bind fun t504 => (some (t504, true))) else (none)) = some (r1, r2) := by rw [if_pos rfl] at H; exact H
           clear H
           have H := H1
           clear H1
           have c63b0 := eq_true (DT : 0 ≤ t453)
           by_cases c64 : t453 ≤ (x13_2.length : Int)
           ·rw [if_pos c64] at H
            have c64b0 := eq_true c64
            have c64b1 : decide (t453 ≤ (x13_2.length : Int)) = true := decide_eq_true c64
            clear c64
            obtain ⟨y499, hy499⟩ : ∃ y_ : List ByteArray, y_ = (x13_2.take (t453 : Int).toNat) := ⟨_, rfl⟩
            replace H : ((impl_ApplyM.f k2 t495 y499).bind fun t504 => (some (t504, true))) = some (r1, r2) := by first | (rw [hy499]; with_reducible exact H) | (have H2_ := (Option.bind_some _ _).symm.trans H; rw [hy499]; with_reducible exact H2_) | (have H2_ := (Option.bind_some _ _).symm.trans H; with_reducible exact H2_) | with_reducible exact H | (rw [hy499]; exact H) | exact H
            have Ny499 := Aside0.mk hy499
            clear hy499
            replace H := Option.bind_eq_some_iff.mp H
            obtain ⟨t504, A650, H⟩ := H
            replace H : (some (t504, true)) = some (r1, r2) := H
            have A65 := Aside0.mk A650
            clear A650
            simp only [Option.some.injEq, Prod.mk.injEq] at H
            obtain ⟨rfl, rfl⟩ := H
            obtain ⟨Ao66, co66, eo66⟩ := Kd.R_slice HO_13.out
            subst eo66
            obtain ⟨Ao68, co68, eo68⟩ := Kd.N_slice HO_12.out
            subst eo68
            have q67 : (t453 : Int) ≤ ((x12_2.length : Int) : Int) := DT
            obtain ⟨i067, hi067, _, hsz67, _⟩ := info_parts info52
            have hroom67 : x12_2.length ≤ co68 := (Kd.N_reads' HO_12.out).2.1
            have hC67 : Kd.F (Kd.slice 3 (Kd.int .i64)) _ _ Ao68 x12_2.length x12_2 := (Kd.V_at (base := w.heap.size) (Kd.N_V HO_12.out)).2.2
            have hcut67 := cut_to (P := Try.prog) 50 52 .i64 Try.underlying50 hi067 Ao68 x12_2.length co68 t453 DT q67 hroom67
            have hr67 := Kd.F_take (m := (t453 : Int).toNat) hC67 (by omega)
            have hy67 : y490.length = (t453 : Int).toNat := (by rw [Ny490.out, List.length_take]; omega)
            rw [← Ny490.out] at hr67
            rw [← hy67] at hcut67
            have HO494 := Aside0.mk (show Kd.V (Kd.slice 3 (Kd.int .i64)) 52 _ w.heap.size _ (.slice Ao68 y490.length co68) y490 from Kd.V_mk (by omega) hr67)
            have HC494 := Aside0.mk (show y490.length ≤ co68 from by omega)
            clear hr67 hC67 hroom67 hi067 hsz67
            have KY67 := Aside0.mk hy67
            clear hy67
            replace q67 := eq_true q67
            go_wp2_with (first | ((with_reducible refine gate_callee (f := 31) rfl ?_); refine GL (some 90) rfl rfl Try.func31 #[.slice Ao68 y490.length co68] rfl ?_; (with_reducible refine (impl_InvM.calls k2 _ _ y490 t495 true _ ?side1 ?side2 A61.out).mono ?_); (case side1 => exact CC (Kd.V_reads' HO494.out).2.2); (case side2 => exact (Kd.V_reads' HO494.out).2.1); rintro e w69 ⟨v497, rfl, ⟨Ao71, co71, rfl, hcq_, hCq_⟩, hb⟩; refine ⟨_, rfl, ?_⟩; have HcQ_ := Aside0.mk hcq_; have HCQ_ := Aside0.mk hCq_; clear hcq_ hCq_; have n2_ := Aside0.mk (Kd.R_below (RR HO_13.out) hb); have n5_ := Aside0.mk (below_step (BB HB.out) hb); clear HO_11; clear HO_12; clear HO_13; clear HO494; clear HB; have HO_13 := n2_; have HB := n5_; clear n2_ n5_; (try clear hb); have q70 : (t453 : Int) ≤ ((x13_2.length : Int) : Int) := DT; obtain ⟨i070, hi070, _, hsz70, _⟩ := info_parts info9; have hroom70 : x13_2.length ≤ co66 := (Kd.R_reads' HO_13.out).2.1; have hC70 : Kd.F Kd.string _ _ Ao66 x13_2.length x13_2 := (Kd.V_at (base := w.heap.size) (Kd.R_V (HO_13.out))).2.2; have hcut70 := cut_to (P := Try.prog) 34 9 .i64 Try.underlying34 hi070 Ao66 x13_2.length co66 t453 DT q70 hroom70; have hr70 := Kd.F_take (m := (t453 : Int).toNat) hC70 (by omega); have hy70 : y499.length = (t453 : Int).toNat := (by rw [Ny499.out, List.length_take]; omega); rw [← Ny499.out] at hr70; rw [← hy70] at hcut70; have HO503 := Aside0.mk (show Kd.V Kd.string 9 _ w.heap.size _ (.slice Ao66 y499.length co66) y499 from Kd.V_mk (by omega) hr70); have HC503 := Aside0.mk (show y499.length ≤ co66 from by omega); clear hr70 hC70 hroom70 hi070 hsz70; have KY70 := Aside0.mk hy70; clear hy70; replace q70 := eq_true q70) | ((with_reducible refine gate_callee (f := 32) rfl ?_); refine GL (some 99) rfl rfl Try.func32 #[.slice Ao71 t495.length co71, .slice Ao66 y499.length co66] rfl ?_; (with_reducible refine (impl_ApplyM.calls k2 _ _ t495 _ _ y499 t504 _ ?side1 ?side2 ?side3 ?side4 A65.out).mono ?_); (case side1 => exact CC HCQ_.out); (case side2 => exact HcQ_.out); (case side3 => exact CC (Kd.V_reads' HO503.out).2.2); (case side4 => exact (Kd.V_reads' HO503.out).2.1); rintro e w72 ⟨v505, rfl, ho0, hb⟩; refine ⟨_, rfl, ?_⟩; have n6_ := Aside0.mk (Kd.R_lower (Kd.R_new' ho0 (Kd.R_lt (RR HO_13.out))) (below_size (BB HB.out))); have n7_ := Aside0.mk (below_step (BB HB.out) hb); clear HB; have HO506 := n6_; have HB := n7_; clear n6_ n7_; (try clear hb); (try clear ho0)))
            go_ret2
            exact ⟨_, ER, by (with_reducible repeat (first | apply Kd.R_alloc | apply Kd.R_drewN | apply Kd.R_drew)); exact Kd.R_mono HO506.out (fun _ hk => trivial), (BB HB.out)⟩
           ·rw [if_neg c64] at H
            exact absurd H (by simp)
          ·replace c62 := Bool.eq_false_iff.mpr c62
           subst c62
           have H1 : (some (([] : List ByteArray), false)) = some (r1, r2) := by rw [if_neg (show ¬ (false = true) by decide)] at H; exact H
           clear H
           have H := H1
           clear H1
           simp only [Option.some.injEq, Prod.mk.injEq] at H
           obtain ⟨rfl, rfl⟩ := H
           obtain ⟨Ao73, co73, eo73⟩ := Kd.R_slice HO_13.out
           subst eo73
           obtain ⟨Ao75, co75, eo75⟩ := Kd.N_slice HO_12.out
           subst eo75
           have q74 : (t453 : Int) ≤ ((x12_2.length : Int) : Int) := DT
           obtain ⟨i074, hi074, _, hsz74, _⟩ := info_parts info52
           have hroom74 : x12_2.length ≤ co75 := (Kd.N_reads' HO_12.out).2.1
           have hC74 : Kd.F (Kd.slice 3 (Kd.int .i64)) _ _ Ao75 x12_2.length x12_2 := (Kd.V_at (base := w.heap.size) (Kd.N_V HO_12.out)).2.2
           have hcut74 := cut_to (P := Try.prog) 50 52 .i64 Try.underlying50 hi074 Ao75 x12_2.length co75 t453 DT q74 hroom74
           have hr74 := Kd.F_take (m := (t453 : Int).toNat) hC74 (by omega)
           have hy74 : y490.length = (t453 : Int).toNat := (by rw [Ny490.out, List.length_take]; omega)
           rw [← Ny490.out] at hr74
           rw [← hy74] at hcut74
           have HO494 := Aside0.mk (show Kd.V (Kd.slice 3 (Kd.int .i64)) 52 _ w.heap.size _ (.slice Ao75 y490.length co75) y490 from Kd.V_mk (by omega) hr74)
           have HC494 := Aside0.mk (show y490.length ≤ co75 from by omega)
           clear hr74 hC74 hroom74 hi074 hsz74
           have KY74 := Aside0.mk hy74
           clear hy74
           replace q74 := eq_true q74
           go_wp2_with (first | ((with_reducible refine gate_callee (f := 31) rfl ?_); refine GL (some 90) rfl rfl Try.func31 #[.slice Ao75 y490.length co75] rfl ?_; (with_reducible refine (impl_InvM.calls k2 _ _ y490 t495 false _ ?side1 ?side2 A61.out).mono ?_); (case side1 => exact CC (Kd.V_reads' HO494.out).2.2); (case side2 => exact (Kd.V_reads' HO494.out).2.1); rintro e w76 ⟨v497, rfl, ⟨Ao_, co_, rfl, hcq_, hCq_⟩, hb⟩; refine ⟨_, rfl, ?_⟩; have HcQ_ := Aside0.mk hcq_; have HCQ_ := Aside0.mk hCq_; clear hcq_ hCq_; have n2_ := Aside0.mk (Kd.R_below (RR HO_13.out) hb); have n5_ := Aside0.mk (below_step (BB HB.out) hb); clear HO_11; clear HO_12; clear HO_13; clear HO494; clear HB; have HO_13 := n2_; have HB := n5_; clear n2_ n5_; (try clear hb)))
           go_ret2
           exact ⟨_, ER, by first | exact Kd.R_nil _ _ _ _ _ | exact Kd.N_nil _ _ _ _ _ | exact Kd.V_nil _ _ _ _ _ | exact Kd.Q_nil _ _ _ _ _ | exact Kd.S_nil _ _ _ _ _, (BB HB.out)⟩
         ·rw [if_neg c60] at H
          exact absurd H (by simp)
        ·rw [if_neg c59] at H
         exact absurd H (by simp)

end Go.Proofs.Ytahimindlnkmoaa.Pr

namespace Go.Proofs.Ytahimindlnkmoaa.Pr
open Go.RowKit Go.Proofs.YtahimindlnkmoaaW.PrintWords Go.Proofs.YtahimindlnkmoaaW.PrintLast Go.Proofs.YtahimindlnkmoaaW.PrintMore
attribute [local go_sem] max2_int min2_int max_two min_two max_three min_three max_four min_four
set_option linter.unusedVariables false
set_option linter.unusedSimpArgs false
def impl_GroupSize.f (a0 : Int) : Option (Int) := (impl_SchemaOf.f a0).bind fun bt507 => (some (wrap64 ((wrap64 (bt507.1 * 4)) * 2)))
set_option maxHeartbeats 8000000 in
set_option maxRecDepth 100000 in
theorem impl_GroupSize.calls (a0 : Int) (r : Int) (w : World) (h : impl_GroupSize.f a0 = some r) :
  Calls Try.prog 34 #[.int .i64 a0] w fun e w' => e = .returned (.int .i64 r) ∧ Drawn0 w w' := by
 have H : ((impl_SchemaOf.f a0).bind fun bt507 => (some (wrap64 ((wrap64 (bt507.1 * 4)) * 2)))) = some r := h
 clear h
 replace H := Option.bind_eq_some_iff.mp H
 obtain ⟨⟨t507, t508, t509⟩, A20, H⟩ := H
 replace H : (some (wrap64 ((wrap64 (t507 * 4)) * 2))) = some r := H
 have A2 := Aside0.mk A20
 clear A20
 obtain rfl := Option.some.inj H
 go_enter Try.func34, Try.ntmps34
 go_wp2_with (first | ((with_reducible refine gate_callee (f := 28) rfl ?_); refine GL (some 8) rfl rfl Try.func28 #[.int .i64 a0] rfl ?_; (with_reducible refine (impl_SchemaOf.calls a0 t507 t508 t509 _ A2.out).mono ?_); rintro e w' ⟨rfl, ⟨nd, rfl⟩⟩; refine ⟨_, rfl, ?_⟩))
 go_ret
 exact ⟨FR, by repeat (first | exact Drawn0.refl _ | apply Drawn0.step)⟩

end Go.Proofs.Ytahimindlnkmoaa.Pr

namespace Go.Proofs.Ytahimindlnkmoaa.Pr
open Go.RowKit Go.Proofs.YtahimindlnkmoaaW.PrintWords Go.Proofs.YtahimindlnkmoaaW.PrintLast Go.Proofs.YtahimindlnkmoaaW.PrintMore
attribute [local go_sem] max2_int min2_int max_two min_two max_three min_three max_four min_four
set_option linter.unusedVariables false
set_option linter.unusedSimpArgs false
def impl_PlaceOf.j0 : Nat → Int → Int → Int → Bool → Option (Int × Int × Int)
 | 0, _, _, _, _ => none
 | k + 1, x0, x1, x7, x24 => if x24 = true then (some (0, 0, 0)) else ((impl_GroupSize.f x0).bind fun t514 => (if t514 = 0 then (none) else ((impl_GroupSize.f x0).bind fun t515 => (if t515 = 0 then (none) else (if x7 = 0 then (none) else (some (wrap64 (Int.tdiv x1 t515), Int.tmod (wrap64 (Int.tdiv (Int.tmod x1 t514) 4)) x7, wrap64 ((wrap64 ((wrap64 (Int.tdiv (wrap64 (Int.tdiv (Int.tmod x1 t514) 4)) x7)) * 4)) + (Int.tmod (Int.tmod x1 t514) 4)))))))))
def impl_PlaceOf.f (k : Nat) (a0 : Int) (a1 : Int) : Option (Int × Int × Int) := (impl_SchemaOf.f a0).bind fun bt510 => (if bt510.2.2 = true then ((impl_within.f a1 0 100000).bind fun t513 => (impl_PlaceOf.j0 k a0 a1 bt510.1 (!t513))) else (impl_PlaceOf.j0 k a0 a1 bt510.1 true))
set_option maxHeartbeats 8000000 in
set_option maxRecDepth 100000 in
theorem impl_PlaceOf.calls (k : Nat) (a0 : Int) (a1 : Int) (r1 : Int) (r2 : Int) (r3 : Int) (w : World) (h : impl_PlaceOf.f k a0 a1 = some (r1, r2, r3)) :
  Calls Try.prog 35 #[.int .i64 a0, .int .i64 a1] w fun e w' => e = .returned (.tuple #[.int .i64 r1, .int .i64 r2, .int .i64 r3]) ∧ Drawn0 w w' := by
 have H : ((impl_SchemaOf.f a0).bind fun bt510 => (if bt510.2.2 = true then ((impl_within.f a1 0 100000).bind fun t513 => (impl_PlaceOf.j0 k a0 a1 bt510.1 (!t513))) else (impl_PlaceOf.j0 k a0 a1 bt510.1 true))) = some (r1, r2, r3) := h
 clear h
 replace H := Option.bind_eq_some_iff.mp H
 obtain ⟨⟨t510, t511, t512⟩, A30, H⟩ := H
 replace H : (if t512 = true then ((impl_within.f a1 0 100000).bind fun t513 => (impl_PlaceOf.j0 k a0 a1 t510 (!t513))) else (impl_PlaceOf.j0 k a0 a1 t510 true)) = some (r1, r2, r3) := H
 have A3 := Aside0.mk A30
 clear A30
 have HC4 := Aside0.mk H
 clear H
 go_enter Try.func35, Try.ntmps35
 go_upto_region 2 with (first | (go_at_call 28; (with_reducible refine (impl_SchemaOf.calls a0 t510 t511 t512 _ A3.out).mono ?_); rintro e w' ⟨rfl, ⟨nd, rfl⟩⟩; (try first | exact ⟨rfl, _, World.drewN_drewN _ _ _⟩ | exact ⟨rfl, _, Eq.trans (World.drewN_drewN _ _ _) (congrArg (World.drewN _) (Nat.add_assoc _ _ _))⟩)))
 repeat (go_quiet (first | (go_at_call 28; (with_reducible refine (impl_SchemaOf.calls a0 t510 t511 t512 _ A3.out).mono ?_); rintro e w' ⟨rfl, ⟨nd, rfl⟩⟩; (try first | exact ⟨rfl, _, World.drewN_drewN _ _ _⟩ | exact ⟨rfl, _, Eq.trans (World.drewN_drewN _ _ _) (congrArg (World.drewN _) (Nat.add_assoc _ _ _))⟩))); go_upto_region 2 with (first | (go_at_call 28; (with_reducible refine (impl_SchemaOf.calls a0 t510 t511 t512 _ A3.out).mono ?_); rintro e w' ⟨rfl, ⟨nd, rfl⟩⟩; (try first | exact ⟨rfl, _, World.drewN_drewN _ _ _⟩ | exact ⟨rfl, _, Eq.trans (World.drewN_drewN _ _ _) (congrArg (World.drewN _) (Nat.add_assoc _ _ _))⟩))))
 (try simp only [Act.put, List.setIfInBounds_toArray, List.set_cons_zero, List.set_cons_succ])
 go_cut [24] (fun v24 wc => ∃ (kq : Nat) (x24_3 : Bool), v24 = .bool x24_3 ∧ Aside0 (impl_PlaceOf.j0 kq a0 a1 t510 x24_3 = some (r1, r2, r3)) ∧ Aside0 (kq ≤ k) ∧ Drawn0 w wc)
 case first =>
  have H := HC4.out
  clear HC4
  by_cases c5 : t512 = true
  ·subst c5
   have H1 : ((impl_within.f a1 0 100000).bind fun t513 => (impl_PlaceOf.j0 k a0 a1 t510 (!t513))) = some (r1, r2, r3) := by rw [if_pos rfl] at H; exact H
   clear H
   have H := H1
   clear H1
   replace H := Option.bind_eq_some_iff.mp H
   obtain ⟨t513, A60, H⟩ := H
   replace H : (impl_PlaceOf.j0 k a0 a1 t510 (!t513)) = some (r1, r2, r3) := H
   have A6 := Aside0.mk A60
   clear A60
   have H' := Aside0.mk H
   clear H
   go_wp2_with (first | (go_at_call 33; (with_reducible refine (impl_within.calls a1 0 100000 t513 _ A6.out).mono ?_); rintro e w' ⟨rfl, ⟨nd, rfl⟩⟩; (try first | exact ⟨rfl, _, World.drewN_drewN _ _ _⟩ | exact ⟨rfl, _, Eq.trans (World.drewN_drewN _ _ _) (congrArg (World.drewN _) (Nat.add_assoc _ _ _))⟩)))
   repeat (go_quiet (first | (go_at_call 33; (with_reducible refine (impl_within.calls a1 0 100000 t513 _ A6.out).mono ?_); rintro e w' ⟨rfl, ⟨nd, rfl⟩⟩; (try first | exact ⟨rfl, _, World.drewN_drewN _ _ _⟩ | exact ⟨rfl, _, Eq.trans (World.drewN_drewN _ _ _) (congrArg (World.drewN _) (Nat.add_assoc _ _ _))⟩))); try go_wp2_with (first | (go_at_call 33; (with_reducible refine (impl_within.calls a1 0 100000 t513 _ A6.out).mono ?_); rintro e w' ⟨rfl, ⟨nd, rfl⟩⟩; (try first | exact ⟨rfl, _, World.drewN_drewN _ _ _⟩ | exact ⟨rfl, _, Eq.trans (World.drewN_drewN _ _ _) (congrArg (World.drewN _) (Nat.add_assoc _ _ _))⟩))))
   go_meet
   case rel => exact ⟨_, (!t513), FR, H', ⟨by first | omega | exact Nat.le_refl _⟩, by repeat (first | exact Drawn0.refl _ | apply Drawn0.step)⟩
  ·replace c5 := Bool.eq_false_iff.mpr c5
   subst c5
   have H1 : (impl_PlaceOf.j0 k a0 a1 t510 true) = some (r1, r2, r3) := by rw [if_neg (show ¬ (false = true) by decide)] at H; exact H
   clear H
   have H := H1
   clear H1
   have H' := Aside0.mk H
   clear H
   go_wp2
   repeat (go_quiet (fail); try go_wp2)
   go_meet
   case rel => exact ⟨_, (true), FR, H', ⟨by first | omega | exact Nat.le_refl _⟩, by repeat (first | exact Drawn0.refl _ | apply Drawn0.step)⟩
 case rest =>
  clear HC4
  try clear p2
  try clear c3
  try clear c5
  obtain ⟨kq, x24_3, rfl, HA, HJ3, ⟨mc3, rfl⟩⟩ := hcut
  cases kq with
  | zero => exact absurd HA.out (by simp [impl_PlaceOf.j0])
  | succ kj3 =>
   have H := HA.out
   clear HA
   simp only [impl_PlaceOf.j0] at H
   by_cases c7 : x24_3 = true
   ·subst c7
    have H1 : (some (0, 0, 0)) = some (r1, r2, r3) := by rw [if_pos rfl] at H; exact H
    clear H
    have H := H1
    clear H1
    simp only [Option.some.injEq, Prod.mk.injEq] at H
    obtain ⟨rfl, rfl, rfl⟩ := H
    go_wp2
    repeat (go_quiet (fail); try go_wp2)
    go_ret3
    exact ⟨FR, by repeat (first | exact Drawn0.refl _ | apply Drawn0.step)⟩
   ·replace c7 := Bool.eq_false_iff.mpr c7
    subst c7
    have H1 : ((impl_GroupSize.f a0).bind fun t514 => (if t514 = 0 then (none) else ((impl_GroupSize.f a0).bind fun t515 => (if t515 = 0 then (none) else (if t510 = 0 then (none) else (some (wrap64 (Int.tdiv a1 t515), Int.tmod (wrap64 (Int.tdiv (Int.tmod a1 t514) 4)) t510, wrap64 ((wrap64 ((wrap64 (Int.tdiv (wrap64 (Int.tdiv (Int.tmod a1 t514) 4)) t510)) * 4)) + (Int.tmod (Int.tmod a1 t514) 4))))))))) = some (r1, r2, r3) := by rw [if_neg (show ¬ (false = true) by decide)] at H; exact H
    clear H
    have H := H1
    clear H1
    replace H := Option.bind_eq_some_iff.mp H
    obtain ⟨t514, A80, H⟩ := H
    replace H : (if t514 = 0 then (none) else ((impl_GroupSize.f a0).bind fun t515 => (if t515 = 0 then (none) else (if t510 = 0 then (none) else (some (wrap64 (Int.tdiv a1 t515), Int.tmod (wrap64 (Int.tdiv (Int.tmod a1 t514) 4)) t510, wrap64 ((wrap64 ((wrap64 (Int.tdiv (wrap64 (Int.tdiv (Int.tmod a1 t514) 4)) t510)) * 4)) + (Int.tmod (Int.tmod a1 t514) 4)))))))) = some (r1, r2, r3) := H
    have A8 := Aside0.mk A80
    clear A80
    by_cases c9 : t514 = 0
    ·rw [if_pos c9] at H
     exact absurd H (by simp)
    ·rw [if_neg c9] at H
     have c9b0 : (t514 == 0) = false := beq_eq_false_iff_ne.mpr c9
     have c9b1 : (t514 != 0) = true := bne_iff_ne.mpr c9
     replace H := Option.bind_eq_some_iff.mp H
     obtain ⟨t515, A100, H⟩ := H
     replace H : (if t515 = 0 then (none) else (if t510 = 0 then (none) else (some (wrap64 (Int.tdiv a1 t515), Int.tmod (wrap64 (Int.tdiv (Int.tmod a1 t514) 4)) t510, wrap64 ((wrap64 ((wrap64 (Int.tdiv (wrap64 (Int.tdiv (Int.tmod a1 t514) 4)) t510)) * 4)) + (Int.tmod (Int.tmod a1 t514) 4)))))) = some (r1, r2, r3) := H
     have A10 := Aside0.mk A100
     have tw_t515 := Option.some.inj (A10.out.symm.trans A8.out)
     clear A100
     by_cases c11 : t515 = 0
     ·rw [if_pos c11] at H
      exact absurd H (by simp)
     ·rw [if_neg c11] at H
      have c11b0 : (t515 == 0) = false := beq_eq_false_iff_ne.mpr c11
      have c11b1 : (t515 != 0) = true := bne_iff_ne.mpr c11
      by_cases c12 : t510 = 0
      ·rw [if_pos c12] at H
       exact absurd H (by simp)
      ·rw [if_neg c12] at H
       have c12b0 : (t510 == 0) = false := beq_eq_false_iff_ne.mpr c12
       have c12b1 : (t510 != 0) = true := bne_iff_ne.mpr c12
       simp only [Option.some.injEq, Prod.mk.injEq] at H
       obtain ⟨rfl, rfl, rfl⟩ := H
       go_wp2_with (first | (go_at_call 34; (with_reducible refine (impl_GroupSize.calls a0 t514 _ A8.out).mono ?_); rintro e w' ⟨rfl, ⟨nd, rfl⟩⟩; (try first | exact ⟨rfl, _, World.drewN_drewN _ _ _⟩ | exact ⟨rfl, _, Eq.trans (World.drewN_drewN _ _ _) (congrArg (World.drewN _) (Nat.add_assoc _ _ _))⟩)) | (go_at_call 34; (with_reducible refine (impl_GroupSize.calls a0 t515 _ A10.out).mono ?_); rintro e w' ⟨rfl, ⟨nd, rfl⟩⟩; (try first | exact ⟨rfl, _, World.drewN_drewN _ _ _⟩ | exact ⟨rfl, _, Eq.trans (World.drewN_drewN _ _ _) (congrArg (World.drewN _) (Nat.add_assoc _ _ _))⟩)))
       repeat (go_quiet (first | (go_at_call 34; (with_reducible refine (impl_GroupSize.calls a0 t514 _ A8.out).mono ?_); rintro e w' ⟨rfl, ⟨nd, rfl⟩⟩; (try first | exact ⟨rfl, _, World.drewN_drewN _ _ _⟩ | exact ⟨rfl, _, Eq.trans (World.drewN_drewN _ _ _) (congrArg (World.drewN _) (Nat.add_assoc _ _ _))⟩)) | (go_at_call 34; (with_reducible refine (impl_GroupSize.calls a0 t515 _ A10.out).mono ?_); rintro e w' ⟨rfl, ⟨nd, rfl⟩⟩; (try first | exact ⟨rfl, _, World.drewN_drewN _ _ _⟩ | exact ⟨rfl, _, Eq.trans (World.drewN_drewN _ _ _) (congrArg (World.drewN _) (Nat.add_assoc _ _ _))⟩))); try go_wp2_with (first | (go_at_call 34; (with_reducible refine (impl_GroupSize.calls a0 t514 _ A8.out).mono ?_); rintro e w' ⟨rfl, ⟨nd, rfl⟩⟩; (try first | exact ⟨rfl, _, World.drewN_drewN _ _ _⟩ | exact ⟨rfl, _, Eq.trans (World.drewN_drewN _ _ _) (congrArg (World.drewN _) (Nat.add_assoc _ _ _))⟩)) | (go_at_call 34; (with_reducible refine (impl_GroupSize.calls a0 t515 _ A10.out).mono ?_); rintro e w' ⟨rfl, ⟨nd, rfl⟩⟩; (try first | exact ⟨rfl, _, World.drewN_drewN _ _ _⟩ | exact ⟨rfl, _, Eq.trans (World.drewN_drewN _ _ _) (congrArg (World.drewN _) (Nat.add_assoc _ _ _))⟩))))
       go_ret3
       exact ⟨FR, by repeat (first | exact Drawn0.refl _ | apply Drawn0.step)⟩

end Go.Proofs.Ytahimindlnkmoaa.Pr

namespace Go.Proofs.Ytahimindlnkmoaa.Pr
open Go.RowKit Go.Proofs.YtahimindlnkmoaaW.PrintWords Go.Proofs.YtahimindlnkmoaaW.PrintLast Go.Proofs.YtahimindlnkmoaaW.PrintMore
attribute [local go_sem] max2_int min2_int max_two min_two max_three min_three max_four min_four
set_option linter.unusedVariables false
set_option linter.unusedSimpArgs false
mutual
def impl_JoinUnits.j0 : Nat → Int → List ByteArray → Int → Bool → Option (ByteArray × Bool)
 | 0, _, _, _, _ => none
 | k + 1, x0, x1, x2, x36 => if x36 = true then (some ((⟨#[]⟩ : ByteArray), false)) else (if 0 ≤ x2 then (if (x2 : Int).toNat ≤ 281474976710656 then ((some (List.replicate (x2 : Int).toNat 0 : List Int)).bind fun y521 => (impl_JoinUnits.l0 k x0 x1 y521 (y521.length : Int) 0)) else (none)) else (none))
def impl_JoinUnits.l0 : Nat → Int → List ByteArray → List Int → Int → Int → Option (ByteArray × Bool)
 | 0, _, _, _, _, _ => none
 | k + 1, x0, x1, x11, x40, x41 => if x41 < x40 then ((impl_PlaceOf.f k x0 x41).bind fun bt524 => (if 0 ≤ bt524.2.1 then (if bt524.2.1 < (x1.length : Int) then (if bt524.2.2 < ((rdOf ByteArray.empty x1 bt524.2.1).size : Int) then (if 0 ≤ bt524.2.2 then (if 0 ≤ x41 then (if x41 < (x11.length : Int) then (impl_JoinUnits.l0 k x0 x1 (x11.set (x41 : Int).toNat (bt (rdOf ByteArray.empty x1 bt524.2.1) bt524.2.2)) x40 (wrap64 (x41 + 1))) else (none)) else (none)) else (none)) else (impl_JoinUnits.l0 k x0 x1 x11 x40 (wrap64 (x41 + 1)))) else (none)) else (none))) else (some (strOfNums x11, true))
end
def impl_JoinUnits.f (k : Nat) (a0 : Int) (l1 : List ByteArray) (a2 : Int) : Option (ByteArray × Bool) := (impl_SchemaOf.f a0).bind fun bt516 => (if bt516.2.2 = true then (if (l1.length : Int) = bt516.1 then ((impl_GroupSize.f a0).bind fun t519 => ((impl_within.f a2 0 t519).bind fun t520 => (impl_JoinUnits.j0 k a0 l1 a2 (!t520)))) else (impl_JoinUnits.j0 k a0 l1 a2 true)) else (impl_JoinUnits.j0 k a0 l1 a2 true))
set_option maxHeartbeats 8000000 in
set_option maxRecDepth 100000 in
theorem impl_JoinUnits.calls (k : Nat) (a0 : Int) (A1 : Option Addr) (c1 : Nat) (l1 : List ByteArray) (a2 : Int) (r1 : ByteArray) (r2 : Bool) (w : World) (hr1 : Kd.C Kd.string w A1 l1.length l1) (hc1 : l1.length ≤ c1) (h : impl_JoinUnits.f k a0 l1 a2 = some (r1, r2)) :
  Calls Try.prog 16 #[.int .i64 a0, .slice A1 l1.length c1, .int .i64 a2] w fun e w' => e = .returned (.tuple #[.string r1, .bool r2]) ∧ Below w.heap.size w w' := by
 have HR1 := Aside0.mk hr1
 have HC1 := Aside0.mk hc1
 clear hr1 hc1
 have HB := Aside0.mk (Below.refl w.heap.size w)
 have H : ((impl_SchemaOf.f a0).bind fun bt516 => (if bt516.2.2 = true then (if (l1.length : Int) = bt516.1 then ((impl_GroupSize.f a0).bind fun t519 => ((impl_within.f a2 0 t519).bind fun t520 => (impl_JoinUnits.j0 k a0 l1 a2 (!t520)))) else (impl_JoinUnits.j0 k a0 l1 a2 true)) else (impl_JoinUnits.j0 k a0 l1 a2 true))) = some (r1, r2) := h
 clear h
 replace H := Option.bind_eq_some_iff.mp H
 obtain ⟨⟨t516, t517, t518⟩, A40, H⟩ := H
 replace H : (if t518 = true then (if (l1.length : Int) = t516 then ((impl_GroupSize.f a0).bind fun t519 => ((impl_within.f a2 0 t519).bind fun t520 => (impl_JoinUnits.j0 k a0 l1 a2 (!t520)))) else (impl_JoinUnits.j0 k a0 l1 a2 true)) else (impl_JoinUnits.j0 k a0 l1 a2 true)) = some (r1, r2) := H
 have A4 := Aside0.mk A40
 clear A40
 have HC5 := Aside0.mk H
 clear H
 go_enter Try.func16, Try.ntmps16
 go_upto_region 2 with (first | ((with_reducible refine gate_callee (f := 28) rfl ?_); refine GL (some 18) rfl rfl Try.func28 #[.int .i64 a0] rfl ?_; (with_reducible refine (impl_SchemaOf.calls a0 t516 t517 t518 _ A4.out).mono ?_); rintro e w' ⟨rfl, ⟨nd, rfl⟩⟩; refine ⟨_, rfl, ?_⟩))
 (try simp only [Act.put, List.setIfInBounds_toArray, List.set_cons_zero, List.set_cons_succ])
 go_cut [36] (fun v36 wc => ∃ (kq : Nat) (x36_4 : Bool), v36 = .bool x36_4 ∧ Aside0 (impl_JoinUnits.j0 kq a0 l1 a2 x36_4 = some (r1, r2)) ∧ Aside0 (kq ≤ k) ∧ Aside0 (Below w.heap.size w wc))
 case first =>
  have H := HC5.out
  clear HC5
  by_cases c6 : t518 = true
  ·subst c6
   have H1 : (if (l1.length : Int) = t516 then ((impl_GroupSize.f a0).bind fun t519 => ((impl_within.f a2 0 t519).bind fun t520 => (impl_JoinUnits.j0 k a0 l1 a2 (!t520)))) else (impl_JoinUnits.j0 k a0 l1 a2 true)) = some (r1, r2) := by rw [if_pos rfl] at H; exact H
   clear H
   have H := H1
   clear H1
   by_cases c7 : (l1.length : Int) = t516
   ·rw [if_pos c7] at H
    have c7b0 : ((l1.length : Int) == t516) = true := beq_iff_eq.mpr c7
    have c7b1 : ((l1.length : Int) != t516) = false := bne_eq_false_iff_eq.mpr c7
    clear c7
    (first | rw [c7b0] | (simp only [i64_w, i32_w]; rw [c7b0]) | skip)
    replace H := Option.bind_eq_some_iff.mp H
    obtain ⟨t519, A80, H⟩ := H
    replace H : ((impl_within.f a2 0 t519).bind fun t520 => (impl_JoinUnits.j0 k a0 l1 a2 (!t520))) = some (r1, r2) := H
    have A8 := Aside0.mk A80
    clear A80
    replace H := Option.bind_eq_some_iff.mp H
    obtain ⟨t520, A90, H⟩ := H
    replace H : (impl_JoinUnits.j0 k a0 l1 a2 (!t520)) = some (r1, r2) := H
    have A9 := Aside0.mk A90
    clear A90
    have H' := Aside0.mk H
    clear H
    go_wp2_with (first | (go_at_call 34; (with_reducible refine (impl_GroupSize.calls a0 t519 _ A8.out).mono ?_); rintro e w' ⟨rfl, ⟨nd, rfl⟩⟩) | (go_at_call 33; (with_reducible refine (impl_within.calls a2 0 t519 t520 _ A9.out).mono ?_); rintro e w' ⟨rfl, ⟨nd, rfl⟩⟩))
    go_meet
    case rel => exact ⟨_, (!t520), FR, H', ⟨by first | omega | exact Nat.le_refl _⟩, ⟨(BB HB.out)⟩⟩
   ·rw [if_neg c7] at H
    have c7b0 : ((l1.length : Int) == t516) = false := beq_eq_false_iff_ne.mpr c7
    have c7b1 : ((l1.length : Int) != t516) = true := bne_iff_ne.mpr c7
    (first | rw [c7b0] | (simp only [i64_w, i32_w]; rw [c7b0]) | skip)
    have H' := Aside0.mk H
    clear H
    go_wp2
    go_meet
    case rel => exact ⟨_, (true), FR, H', ⟨by first | omega | exact Nat.le_refl _⟩, ⟨(BB HB.out)⟩⟩
  ·replace c6 := Bool.eq_false_iff.mpr c6
   subst c6
   have H1 : (impl_JoinUnits.j0 k a0 l1 a2 true) = some (r1, r2) := by rw [if_neg (show ¬ (false = true) by decide)] at H; exact H
   clear H
   have H := H1
   clear H1
   have H' := Aside0.mk H
   clear H
   go_wp2
   go_meet
   case rel => exact ⟨_, (true), FR, H', ⟨by first | omega | exact Nat.le_refl _⟩, ⟨(BB HB.out)⟩⟩
 case rest =>
  clear HC5
  try clear c1
  try clear c2
  try clear p2
  try clear c6
  try clear c7
  try clear c7b0
  try clear c7b1
  obtain ⟨kq, x36_4, rfl, HA, HJ4, HB⟩ := hcut
  cases kq with
  | zero => exact absurd HA.out (by simp [impl_JoinUnits.j0])
  | succ kj4 =>
   have H := HA.out
   clear HA
   simp only [impl_JoinUnits.j0] at H
   by_cases c10 : x36_4 = true
   ·subst c10
    have H1 : (some ((⟨#[]⟩ : ByteArray), false)) = some (r1, r2) := by rw [if_pos rfl] at H; exact H
    clear H
    have H := H1
    clear H1
    simp only [Option.some.injEq, Prod.mk.injEq] at H
    obtain ⟨rfl, rfl⟩ := H
    go_wp2
    go_ret2
    exact ⟨ER, (BB HB.out)⟩
   ·replace c10 := Bool.eq_false_iff.mpr c10
    subst c10
    have H1 : (if 0 ≤ a2 then (if (a2 : Int).toNat ≤ 281474976710656 then ((some (List.replicate (a2 : Int).toNat 0 : List Int)).bind fun y521 => (impl_JoinUnits.l0 kj4 a0 l1 y521 (y521.length : Int) 0)) else (none)) else (none)) = some (r1, r2) := by rw [if_neg (show ¬ (false = true) by decide)] at H; exact H
    clear H
    have H := H1
    clear H1
    by_cases c11 : 0 ≤ a2
    ·rw [if_pos c11] at H
     have c11b0 := eq_true c11
     have c11b1 : decide (0 ≤ a2) = true := decide_eq_true c11
     clear c11
     by_cases c12 : (a2 : Int).toNat ≤ 281474976710656
     ·rw [if_pos c12] at H
      have c12b0 := eq_true c12
      have c12b1 : decide ((a2 : Int).toNat ≤ 281474976710656) = true := decide_eq_true c12
      clear c12
      obtain ⟨y521, hy521⟩ : ∃ y_ : List Int, y_ = (List.replicate (a2 : Int).toNat 0) := ⟨_, rfl⟩
      replace H : (impl_JoinUnits.l0 kj4 a0 l1 y521 (y521.length : Int) 0) = some (r1, r2) := by first | (rw [hy521]; with_reducible exact H) | (have H2_ := (Option.bind_some _ _).symm.trans H; rw [hy521]; with_reducible exact H2_) | (have H2_ := (Option.bind_some _ _).symm.trans H; with_reducible exact H2_) | with_reducible exact H | (rw [hy521]; exact H) | exact H
      have Ny521 := Aside0.mk hy521
      clear hy521
      have H' := Aside0.mk H
      clear H
      go_wp2_with (first | ((with_reducible refine gate_dst (N := 38) rfl ?_); (try (refine gate_guard (by rfl) ?_; dsimp only)); refine Kd.R_make (Kd.int .u8) _ 5 rfl (N := 38) rfl 58 _ _ rfl a2 rfl rfl Try.underlying58 (.int .u8 0) 1 info5 rfl (by decide) (by omega) 0 (ok := fun _ => True) (okp := fun _ => True) rfl (fun _ hk => hk) trivial DT (Nat.le_trans (Nat.mul_le_mul_right _ (DT : a2.toNat ≤ 281474976710656)) (by omega)) (Below.refl _ _) (Nat.le_refl _) ?_; intro v522 w13 ho14 hb hg_ hnew_; clear hg_ hnew_; (first | rw [← Ny521.out] at ho14 | (simp only [Int.reduceToNat] at ho14; rw [← Ny521.out] at ho14)); have HO523 := Aside0.mk (Kd.R_lower ho14 (below_size (BB HB.out))); replace HB := Aside0.mk (below_step (BB HB.out) hb); clear hb ho14; obtain ⟨Ao15, co15, eo15⟩ := Kd.R_slice HO523.out; subst eo15))
      go_loopg [41] kj4 (fun kq v41 w' => ∃ (x11_2 : List Int) (x41_2 : Int), v41 = .int .i64 x41_2 ∧ Aside0 (impl_JoinUnits.l0 kq a0 l1 x11_2 (y521.length : Int) x41_2 = some (r1, r2)) ∧ Aside0 (kq ≤ kj4) ∧ Aside0 (Kd.R (Kd.int .u8) 5 w' w.heap.size (fun _ => True) (.slice Ao15 y521.length co15) x11_2) ∧ Aside0 (Below w.heap.size w w'))
      case atStart => exact ⟨(y521), (0), FR, H', ⟨Nat.le_refl _⟩, ⟨(RR HO523.out)⟩, ⟨(BB HB.out)⟩⟩
      case round =>
       clear H'
       try clear c1
       try clear c2
       try clear p2
       try clear c6
       try clear c7
       try clear c7b0
       try clear c7b1
       try clear c10
       try clear c11
       try clear c11b0
       try clear c11b1
       try clear c12
       try clear c12b0
       try clear c12b1
       try clear p2
       obtain ⟨x11_2, x41_2, rfl, HA, HK2, HO_11, HB⟩ := hrel
       have hl11_2 := (Kd.R_reads' HO_11.out).1
       rw [hl11_2] at HO_11
       (try simp only [hl11_2])
       cases gk with
       | zero => exact absurd HA.out (by simp [impl_JoinUnits.l0])
       | succ k2 =>
        have H := HA.out
        clear HA
        simp only [impl_JoinUnits.l0] at H
        by_cases c16 : x41_2 < (y521.length : Int)
        ·rw [if_pos c16] at H
         have c16b0 : decide (x41_2 < (y521.length : Int)) = true := decide_eq_true c16
         (try (have c16b0_hl11_2 := c16b0; rw [hl11_2] at c16b0_hl11_2))
         clear c16
         replace H := Option.bind_eq_some_iff.mp H
         obtain ⟨⟨t524, t525, t526⟩, A170, H⟩ := H
         replace H : (if 0 ≤ t525 then (if t525 < (l1.length : Int) then (if t526 < ((rdOf ByteArray.empty l1 t525).size : Int) then (if 0 ≤ t526 then (if 0 ≤ x41_2 then (if x41_2 < (x11_2.length : Int) then (impl_JoinUnits.l0 k2 a0 l1 (x11_2.set (x41_2 : Int).toNat (bt (rdOf ByteArray.empty l1 t525) t526)) (y521.length : Int) (wrap64 (x41_2 + 1))) else (none)) else (none)) else (none)) else (impl_JoinUnits.l0 k2 a0 l1 x11_2 (y521.length : Int) (wrap64 (x41_2 + 1)))) else (none)) else (none)) = some (r1, r2) := H
         have A17 := Aside0.mk A170
         clear A170
         by_cases c18 : 0 ≤ t525
         ·rw [if_pos c18] at H
          have c18b0 : decide (0 ≤ t525) = true := decide_eq_true c18
          clear c18
          by_cases c19 : t525 < (l1.length : Int)
          ·rw [if_pos c19] at H
           have c19b0 : decide (t525 < (l1.length : Int)) = true := decide_eq_true c19
           (try (have c19b0_hl11_2 := c19b0; rw [hl11_2] at c19b0_hl11_2))
           clear c19
           by_cases c20 : t526 < ((rdOf ByteArray.empty l1 t525).size : Int)
           ·rw [if_pos c20] at H
            have c20b0 : decide (t526 < ((rdOf ByteArray.empty l1 t525).size : Int)) = true := decide_eq_true c20
            clear c20
            by_cases c21 : 0 ≤ t526
            ·rw [if_pos c21] at H
             have c21b0 : decide (0 ≤ t526) = true := decide_eq_true c21
             clear c21
             by_cases c23 : 0 ≤ x41_2
             ·rw [if_pos c23] at H
              have c23b0 : decide (0 ≤ x41_2) = true := decide_eq_true c23
              clear c23
              by_cases c24 : x41_2 < (x11_2.length : Int)
              ·rw [if_pos c24] at H
               have c24b0 : decide (x41_2 < (x11_2.length : Int)) = true := decide_eq_true c24
               (try (have c24b0_hl11_2 := c24b0; rw [hl11_2] at c24b0_hl11_2))
               clear c24
               obtain ⟨y529, hy529⟩ : ∃ y_ : List Int, y_ = (x11_2.set (x41_2 : Int).toNat (bt (rdOf ByteArray.empty l1 t525) t526)) := ⟨_, rfl⟩
               replace H : (impl_JoinUnits.l0 k2 a0 l1 y529 (y521.length : Int) (wrap64 (x41_2 + 1))) = some (r1, r2) := by first | (rw [hy529]; with_reducible exact H) | (have H2_ := (Option.bind_some _ _).symm.trans H; rw [hy529]; with_reducible exact H2_) | (have H2_ := (Option.bind_some _ _).symm.trans H; with_reducible exact H2_) | with_reducible exact H | (rw [hy529]; exact H) | exact H
               have Ny529 := Aside0.mk hy529
               clear hy529
               have H' := Aside0.mk H
               clear H
               go_wp2_with (first | ((with_reducible refine gate_callee (f := 35) rfl ?_); refine GL (some 47) rfl rfl Try.func35 #[.int .i64 a0, .int .i64 x41_2] rfl ?_; (with_reducible refine (impl_PlaceOf.calls k2 a0 x41_2 t524 t525 t526 _ A17.out).mono ?_); rintro e w' ⟨rfl, ⟨nd, rfl⟩⟩; refine ⟨_, rfl, ?_⟩; (try (rw [drewN_self wr]; generalize hq_ : World.drewN wr _ = wr; have n0_ : Aside0 (Kd.R (Kd.int .u8) 5 wr w.heap.size (fun _ => True) (.slice Ao15 x11_2.length co15) x11_2) := ⟨by rw [← hq_]; exact (RR HO_11.out)⟩; have n1_ : Aside0 (Below w.heap.size w wr) := ⟨by rw [← hq_]; exact (BB HB.out)⟩; clear HO_11 HB hq_; have HO_11 := n0_; have HB := n1_; clear n0_ n1_)); have p527 : 0 ≤ (t525 : Int) := DT; have q527 : t525 < (l1.length : Int) := DT; obtain ⟨ad527, e527, hx527_0⟩ := Kd.at_string HR1.out t525 p527 q527; cases e527; replace hx527_0 := (HB.out.cell (World.block_lt_of_cell? w _ hx527_0)).trans hx527_0; replace p527 := eq_true p527; replace q527 := eq_true q527; have p528 : 0 ≤ (t525 : Int) := DT; have q528 : t525 < (l1.length : Int) := DT; obtain ⟨ad528, e528, hx528_0⟩ := Kd.at_string HR1.out t525 p528 q528; obtain rfl : ad527 = ad528 := (by injection e528); replace hx528_0 := (HB.out.cell (World.block_lt_of_cell? w _ hx528_0)).trans hx528_0; replace p528 := eq_true p528; replace q528 := eq_true q528; have p22 : 0 ≤ (t526 : Int) := DT; have q22 : t526 < ((rdOf ByteArray.empty l1 t525).size : Int) := DT; have hx22 := bt_at (rdOf ByteArray.empty l1 t525) t526; replace p22 := eq_true p22; replace q22 := eq_true q22; have p25 : 0 ≤ (x41_2 : Int) := DT; have q25 : (x41_2 : Int) < ((x11_2.length : Int) : Int) := DT; obtain ⟨go25, co25, eo25, gb25, gl25, cl25, HG25⟩ := Kd.R_form HO_11.out (by omega); (first | cases eo25 | (injection eo25 with ea_ en_ ec_; (first | subst ea_ | (injection ea_ with ea_; subst ea_)); subst ec_; clear en_)); have GB25 := Aside0.mk gb25; have GG25 := Aside0.mk HG25; clear gb25 gl25 HG25; obtain ⟨hx25_0, hf25_0⟩ := Kd.R_celln 0 HO_11.out (x41_2 : Int) p25 q25; replace p25 := eq_true p25; replace q25 := eq_true q25; obtain ⟨hy26_, hz26_⟩ := Kd.R_celln 0 HO_11.out (x41_2 : Int) DT DT; have HP26 := Kd.R_putg HO_11.out (x41_2 : Int) (bt (rdOf ByteArray.empty l1 t525) t526)) | ((with_reducible refine gate_store (t := 5) (p := 66) rfl ?_); refine store_event (t := 5) (p := 66) (v := ?vo_w27) (w1 := (wr.setCell ⟨go25, (x41_2 : Int).toNat, none⟩ (.int .u8 (bt (rdOf ByteArray.empty l1 t525) t526)))) ?hg ?ho ?hn ?hr ?_; (case ho => rfl); (case hg => rfl); (case hn => rfl); (case hr => first | (go_simp; done) | (go_simp; rfl)); intro w27 hw; have hg : wr.grownBy w27 (some go25) := (by rw [hw]; exact HP26.2); have hp_ : Kd.R (Kd.int .u8) 5 w27 w.heap.size (fun _ => True) (.slice (some ⟨go25, 0, none⟩) x11_2.length co15) y529 := (by rw [hw, Ny529.out]; exact HP26.1); clear HP26; have n0_ := Aside0.mk (hp_); have n1_ := Aside0.mk ((by rw [hw]; exact below_set (HB.out) GB25.out : Below w.heap.size w w27)); clear HO_11; clear HB; have HO_11 := n0_; have HB := n1_; clear n0_ n1_; clear hg hw hp_))
               (try simp only [← hl11_2])
               go_roundg k2
               case measure => have := HJ4.out; have := HK2.out; omega
               case rel => exact ⟨(y529), (wrap64 (x41_2 + 1)), FR, H', ⟨by have := HJ4.out; have := HK2.out; omega⟩, ⟨by (try simp only [hl11_2]); (with_reducible repeat (first | apply Kd.R_alloc | apply Kd.R_drewN | apply Kd.R_drew)); exact HO_11.out⟩, ⟨(BB HB.out)⟩⟩
              ·rw [if_neg c24] at H
               exact absurd H (by simp)
             ·rw [if_neg c23] at H
              exact absurd H (by simp)
            ·rw [if_neg c21] at H
             exact absurd H (by simp)
           ·rw [if_neg c20] at H
            have c20b0 : decide (t526 < ((rdOf ByteArray.empty l1 t525).size : Int)) = false := decide_eq_false c20
            clear c20
            have H' := Aside0.mk H
            clear H
            go_wp2_with (first | ((with_reducible refine gate_callee (f := 35) rfl ?_); refine GL (some 47) rfl rfl Try.func35 #[.int .i64 a0, .int .i64 x41_2] rfl ?_; (with_reducible refine (impl_PlaceOf.calls k2 a0 x41_2 t524 t525 t526 _ A17.out).mono ?_); rintro e w' ⟨rfl, ⟨nd, rfl⟩⟩; refine ⟨_, rfl, ?_⟩; have p527 : 0 ≤ (t525 : Int) := DT; have q527 : t525 < (l1.length : Int) := DT; obtain ⟨ad527, e527, hx527_0⟩ := Kd.at_string HR1.out t525 p527 q527; cases e527; replace hx527_0 := (HB.out.cell (World.block_lt_of_cell? w _ hx527_0)).trans hx527_0; replace p527 := eq_true p527; replace q527 := eq_true q527))
            (try simp only [← hl11_2])
            go_roundg k2
            case measure => have := HJ4.out; have := HK2.out; omega
            case rel => exact ⟨(x11_2), (wrap64 (x41_2 + 1)), FR, H', ⟨by have := HJ4.out; have := HK2.out; omega⟩, ⟨by (try simp only [hl11_2]); (with_reducible repeat (first | apply Kd.R_alloc | apply Kd.R_drewN | apply Kd.R_drew)); exact HO_11.out⟩, ⟨(BB HB.out)⟩⟩
          ·rw [if_neg c19] at H
           exact absurd H (by simp)
         ·rw [if_neg c18] at H
          exact absurd H (by simp)
        ·rw [if_neg c16] at H
         have c16b0 : decide (x41_2 < (y521.length : Int)) = false := decide_eq_false c16
         (try (have c16b0_hl11_2 := c16b0; rw [hl11_2] at c16b0_hl11_2))
         clear c16
         simp only [Option.some.injEq, Prod.mk.injEq] at H
         obtain ⟨rfl, rfl⟩ := H
         have hcv28 := own_string (P := Try.prog) Try.underlying58 Try.underlying5 Try.underlying9 (Kd.own_of_R HO_11.out)
         go_wp2
         go_ret2
         exact ⟨ER, (BB HB.out)⟩
     ·rw [if_neg c12] at H
      exact absurd H (by simp)
    ·rw [if_neg c11] at H
     exact absurd H (by simp)

end Go.Proofs.Ytahimindlnkmoaa.Pr

namespace Go.Proofs.Ytahimindlnkmoaa.Pr
open Go.RowKit Go.Proofs.YtahimindlnkmoaaW.PrintWords Go.Proofs.YtahimindlnkmoaaW.PrintLast Go.Proofs.YtahimindlnkmoaaW.PrintMore
attribute [local go_sem] max2_int min2_int max_two min_two max_three min_three max_four min_four
set_option linter.unusedVariables false
set_option linter.unusedSimpArgs false
def impl_ReadGroup.f (k : Nat) (l0 : List (S43)) (a1 : Int) (a2 : Int) (a3 : Int) : Option (ByteArray × Bool) := (impl_UnitsOf.f k l0 a1 a2).bind fun bt530 => ((impl_Decode.f k a1 bt530.1 bt530.2).bind fun bt536 => (if bt536.2 = true then ((impl_JoinUnits.f k a1 bt536.1 a3).bind fun bt540 => (some (bt540.1, bt540.2))) else (some ((⟨#[]⟩ : ByteArray), false))))
set_option maxHeartbeats 8000000 in
set_option maxRecDepth 100000 in
theorem impl_ReadGroup.calls (k : Nat) (A0 : Option Addr) (c0 : Nat) (l0 : List (S43)) (a1 : Int) (a2 : Int) (a3 : Int) (r1 : ByteArray) (r2 : Bool) (w : World) (hr0 : Kd.C k43 w A0 l0.length l0) (hc0 : l0.length ≤ c0) (h : impl_ReadGroup.f k l0 a1 a2 a3 = some (r1, r2)) :
  Calls Try.prog 7 #[.slice A0 l0.length c0, .int .i64 a1, .int .i64 a2, .int .i64 a3] w fun e w' => e = .returned (.tuple #[.string r1, .bool r2]) ∧ Below w.heap.size w w' := by
 have HR0 := Aside0.mk hr0
 have HC0 := Aside0.mk hc0
 clear hr0 hc0
 have HB := Aside0.mk (Below.refl w.heap.size w)
 have H : ((impl_UnitsOf.f k l0 a1 a2).bind fun bt530 => ((impl_Decode.f k a1 bt530.1 bt530.2).bind fun bt536 => (if bt536.2 = true then ((impl_JoinUnits.f k a1 bt536.1 a3).bind fun bt540 => (some (bt540.1, bt540.2))) else (some ((⟨#[]⟩ : ByteArray), false))))) = some (r1, r2) := h
 clear h
 replace H := Option.bind_eq_some_iff.mp H
 obtain ⟨⟨t530, t531⟩, A50, H⟩ := H
 replace H : ((impl_Decode.f k a1 t530 t531).bind fun bt536 => (if bt536.2 = true then ((impl_JoinUnits.f k a1 bt536.1 a3).bind fun bt540 => (some (bt540.1, bt540.2))) else (some ((⟨#[]⟩ : ByteArray), false)))) = some (r1, r2) := H
 have A5 := Aside0.mk A50
 clear A50
 replace H := Option.bind_eq_some_iff.mp H
 obtain ⟨⟨t536, t537⟩, A60, H⟩ := H
 replace H : (if t537 = true then ((impl_JoinUnits.f k a1 t536 a3).bind fun bt540 => (some (bt540.1, bt540.2))) else (some ((⟨#[]⟩ : ByteArray), false))) = some (r1, r2) := H
 have A6 := Aside0.mk A60
 clear A60
 by_cases c7 : t537 = true
 ·subst c7
  have H1 : ((impl_JoinUnits.f k a1 t536 a3).bind fun bt540 => (some (bt540.1, bt540.2))) = some (r1, r2) := by rw [if_pos rfl] at H; exact H
  clear H
  have H := H1
  clear H1
  replace H := Option.bind_eq_some_iff.mp H
  obtain ⟨⟨t540, t541⟩, A80, H⟩ := H
  replace H : (some (t540, t541)) = some (r1, r2) := H
  have A8 := Aside0.mk A80
  clear A80
  simp only [Option.some.injEq, Prod.mk.injEq] at H
  obtain ⟨rfl, rfl⟩ := H
  go_enter Try.func7, Try.ntmps7
  go_wp2_with (first | ((with_reducible refine gate_callee (f := 14) rfl ?_); refine GL (some 18) rfl rfl Try.func14 #[.slice A0 l0.length c0, .int .i64 a1, .int .i64 a2] rfl ?_; (with_reducible refine (impl_UnitsOf.calls k _ _ l0 a1 a2 t530 t531 _ ?side1 ?side2 A5.out).mono ?_); (case side1 => exact CC HR0.out); (case side2 => exact HC0.out); rintro e w9 ⟨v532, v534, rfl, ho0, ho1, hb⟩; refine ⟨_, rfl, ?_⟩; have HO533 := Aside0.mk (Kd.R_lower ho0 (below_size (BB HB.out))); have HO535 := Aside0.mk (Kd.R_lower ho1 (below_size (BB HB.out))); replace HB := Aside0.mk (below_step (BB HB.out) hb); (try clear hb); (try clear ho0); (try clear ho1); obtain ⟨Ao10, co10, eo10⟩ := Kd.R_slice HO533.out; subst eo10; obtain ⟨Ao11, co11, eo11⟩ := Kd.R_slice HO535.out; subst eo11) | ((with_reducible refine gate_callee (f := 15) rfl ?_); refine GL (some 25) rfl rfl Try.func15 #[.int .i64 a1, .slice Ao10 t530.length co10, .slice Ao11 t531.length co11] rfl ?_; (with_reducible refine (impl_Decode.calls k a1 _ _ t530 _ _ t531 t536 true _ ?side1 ?side2 ?side3 ?side4 A6.out).mono ?_); (case side1 => exact CC (Kd.R_reads' HO533.out).2.2); (case side2 => exact (Kd.R_reads' HO533.out).2.1); (case side3 => exact CC (Kd.R_reads' HO535.out).2.2); (case side4 => exact (Kd.R_reads' HO535.out).2.1); rintro e w12 ⟨v538, rfl, ho0, hb⟩; refine ⟨_, rfl, ?_⟩; have HO539 := Aside0.mk (Kd.R_lower (Kd.R_new' ho0 (Kd.R_lt (RR HO533.out))) (below_size (BB HB.out))); replace HO533 := Aside0.mk (Kd.R_elder' (RR HO533.out) (Kd.R_base ho0) hb); replace HO535 := Aside0.mk (Kd.R_below (RR HO535.out) hb); replace HB := Aside0.mk (below_step (BB HB.out) hb); (try clear hb); (try clear ho0); obtain ⟨Ao13, co13, eo13⟩ := Kd.R_slice HO539.out; subst eo13) | ((with_reducible refine gate_callee (f := 16) rfl ?_); refine GL (some 33) rfl rfl Try.func16 #[.int .i64 a1, .slice Ao13 t536.length co13, .int .i64 a3] rfl ?_; (with_reducible refine (impl_JoinUnits.calls k a1 _ _ t536 a3 t540 t541 _ ?side1 ?side2 A8.out).mono ?_); (case side1 => exact CC (Kd.R_reads' HO539.out).2.2); (case side2 => exact (Kd.R_reads' HO539.out).2.1); rintro e w14 ⟨rfl, hb⟩; refine ⟨_, rfl, ?_⟩; replace HO533 := Aside0.mk (Kd.R_below (RR HO533.out) hb); replace HO535 := Aside0.mk (Kd.R_below (RR HO535.out) hb); replace HO539 := Aside0.mk (Kd.R_below (RR HO539.out) hb); replace HB := Aside0.mk (below_step (BB HB.out) hb); (try clear hb)))
  go_ret2
  exact ⟨ER, (BB HB.out)⟩
 ·replace c7 := Bool.eq_false_iff.mpr c7
  subst c7
  have H1 : (some ((⟨#[]⟩ : ByteArray), false)) = some (r1, r2) := by rw [if_neg (show ¬ (false = true) by decide)] at H; exact H
  clear H
  have H := H1
  clear H1
  simp only [Option.some.injEq, Prod.mk.injEq] at H
  obtain ⟨rfl, rfl⟩ := H
  go_enter Try.func7, Try.ntmps7
  go_wp2_with (first | ((with_reducible refine gate_callee (f := 14) rfl ?_); refine GL (some 18) rfl rfl Try.func14 #[.slice A0 l0.length c0, .int .i64 a1, .int .i64 a2] rfl ?_; (with_reducible refine (impl_UnitsOf.calls k _ _ l0 a1 a2 t530 t531 _ ?side1 ?side2 A5.out).mono ?_); (case side1 => exact CC HR0.out); (case side2 => exact HC0.out); rintro e w15 ⟨v532, v534, rfl, ho0, ho1, hb⟩; refine ⟨_, rfl, ?_⟩; have HO533 := Aside0.mk (Kd.R_lower ho0 (below_size (BB HB.out))); have HO535 := Aside0.mk (Kd.R_lower ho1 (below_size (BB HB.out))); replace HB := Aside0.mk (below_step (BB HB.out) hb); (try clear hb); (try clear ho0); (try clear ho1); obtain ⟨Ao16, co16, eo16⟩ := Kd.R_slice HO533.out; subst eo16; obtain ⟨Ao17, co17, eo17⟩ := Kd.R_slice HO535.out; subst eo17) | ((with_reducible refine gate_callee (f := 15) rfl ?_); refine GL (some 25) rfl rfl Try.func15 #[.int .i64 a1, .slice Ao16 t530.length co16, .slice Ao17 t531.length co17] rfl ?_; (with_reducible refine (impl_Decode.calls k a1 _ _ t530 _ _ t531 t536 false _ ?side1 ?side2 ?side3 ?side4 A6.out).mono ?_); (case side1 => exact CC (Kd.R_reads' HO533.out).2.2); (case side2 => exact (Kd.R_reads' HO533.out).2.1); (case side3 => exact CC (Kd.R_reads' HO535.out).2.2); (case side4 => exact (Kd.R_reads' HO535.out).2.1); rintro e w18 ⟨v538, rfl, ho0, hb⟩; refine ⟨_, rfl, ?_⟩; have HO539 := Aside0.mk (Kd.R_lower (Kd.R_new' ho0 (Kd.R_lt (RR HO533.out))) (below_size (BB HB.out))); replace HO533 := Aside0.mk (Kd.R_elder' (RR HO533.out) (Kd.R_base ho0) hb); replace HO535 := Aside0.mk (Kd.R_below (RR HO535.out) hb); replace HB := Aside0.mk (below_step (BB HB.out) hb); (try clear hb); (try clear ho0)))
  go_ret2
  exact ⟨ER, (BB HB.out)⟩

end Go.Proofs.Ytahimindlnkmoaa.Pr

namespace Go.Proofs.Ytahimindlnkmoaa.Pr
open Go.RowKit Go.Proofs.YtahimindlnkmoaaW.PrintWords Go.Proofs.YtahimindlnkmoaaW.PrintLast Go.Proofs.YtahimindlnkmoaaW.PrintMore
attribute [local go_sem] max2_int min2_int max_two min_two max_three min_three max_four min_four
set_option linter.unusedVariables false
set_option linter.unusedSimpArgs false
def laws_FnExactReadGroup.j0 : Nat → List (S33) → List (S43) → Bool → Option (Bool)
 | 0, _, _, _ => none
 | k + 1, x0, x12, x46 => if x46 = true then (some false) else ((laws_toHostS.f k x0).bind fun t564 => ((laws_eqHostS.f k x12 t564).bind fun t567 => (if t567 = true then (some true) else (some false))))
def laws_FnExactReadGroup.f (k : Nat) (l0 : List (S33)) (a1 : Int) (a2 : Int) (a3 : Int) : Option (Bool) := (laws_szHostS.f k l0 1048576).bind fun t553 => (if t553 < 0 then (some true) else ((laws_toHostS.f k l0).bind fun t554 => ((spec_ReadGroup.f k t554 a1 a2 a3).bind fun bt557 => ((laws_toHostS.f k l0).bind fun t559 => ((impl_ReadGroup.f k t559 a1 a2 a3).bind fun bt562 => (if bt562.1.toList = bt557.1.toList then (laws_FnExactReadGroup.j0 k l0 t559 (bt562.2 != bt557.2)) else (laws_FnExactReadGroup.j0 k l0 t559 true)))))))
set_option maxHeartbeats 8000000 in
set_option maxRecDepth 100000 in
theorem laws_FnExactReadGroup.calls (k : Nat) (A0 : Option Addr) (c0 : Nat) (l0 : List (S33)) (a1 : Int) (a2 : Int) (a3 : Int) (r : Bool) (w : World) (hr0 : Kd.C k33 w A0 l0.length l0) (hc0 : l0.length ≤ c0) (h : laws_FnExactReadGroup.f k l0 a1 a2 a3 = some r) (hr_ : Aside0 (r = true) := by exact ⟨rfl⟩) :
  Calls Try.prog 3 #[.slice A0 l0.length c0, .int .i64 a1, .int .i64 a2, .int .i64 a3] w fun e w' => e = .returned (.bool r) ∧ Below w.heap.size w w' := by
 have HR0 := Aside0.mk hr0
 have HC0 := Aside0.mk hc0
 clear hr0 hc0
 have HB := Aside0.mk (Below.refl w.heap.size w)
 have H : ((laws_szHostS.f k l0 1048576).bind fun t553 => (if t553 < 0 then (some true) else ((laws_toHostS.f k l0).bind fun t554 => ((spec_ReadGroup.f k t554 a1 a2 a3).bind fun bt557 => ((laws_toHostS.f k l0).bind fun t559 => ((impl_ReadGroup.f k t559 a1 a2 a3).bind fun bt562 => (if bt562.1.toList = bt557.1.toList then (laws_FnExactReadGroup.j0 k l0 t559 (bt562.2 != bt557.2)) else (laws_FnExactReadGroup.j0 k l0 t559 true)))))))) = some r := h
 clear h
 replace H := Option.bind_eq_some_iff.mp H
 obtain ⟨t553, A50, H⟩ := H
 replace H : (if t553 < 0 then (some true) else ((laws_toHostS.f k l0).bind fun t554 => ((spec_ReadGroup.f k t554 a1 a2 a3).bind fun bt557 => ((laws_toHostS.f k l0).bind fun t559 => ((impl_ReadGroup.f k t559 a1 a2 a3).bind fun bt562 => (if bt562.1.toList = bt557.1.toList then (laws_FnExactReadGroup.j0 k l0 t559 (bt562.2 != bt557.2)) else (laws_FnExactReadGroup.j0 k l0 t559 true))))))) = some r := H
 have A5 := Aside0.mk A50
 clear A50
 by_cases c6 : t553 < 0
 ·rw [if_pos c6] at H
  have c6b0 : decide (t553 < 0) = true := decide_eq_true c6
  clear c6
  obtain rfl := Option.some.inj H
  go_enter Try.func3, Try.ntmps3
  go_wp2_with (first | ((with_reducible refine gate_callee (f := 4) rfl ?_); refine GL (some 17) rfl rfl Try.func4 #[.slice A0 l0.length c0, .int .i64 1048576] rfl ?_; (with_reducible refine (laws_szHostS.calls k _ _ l0 1048576 t553 _ ?side1 ?side2 A5.out).mono ?_); (case side1 => exact CC HR0.out); (case side2 => exact HC0.out); rintro e w7 ⟨rfl, hb⟩; refine ⟨_, rfl, ?_⟩; replace HB := Aside0.mk (below_step (BB HB.out) hb); (try clear hb)))
  go_ret
  exact ⟨ER, (BB HB.out)⟩
 ·rw [if_neg c6] at H
  have c6b0 : decide (t553 < 0) = false := decide_eq_false c6
  clear c6
  replace H := Option.bind_eq_some_iff.mp H
  obtain ⟨t554, A80, H⟩ := H
  replace H : ((spec_ReadGroup.f k t554 a1 a2 a3).bind fun bt557 => ((laws_toHostS.f k l0).bind fun t559 => ((impl_ReadGroup.f k t559 a1 a2 a3).bind fun bt562 => (if bt562.1.toList = bt557.1.toList then (laws_FnExactReadGroup.j0 k l0 t559 (bt562.2 != bt557.2)) else (laws_FnExactReadGroup.j0 k l0 t559 true))))) = some r := H
  have A8 := Aside0.mk A80
  clear A80
  replace H := Option.bind_eq_some_iff.mp H
  obtain ⟨⟨t557, t558⟩, A90, H⟩ := H
  replace H : ((laws_toHostS.f k l0).bind fun t559 => ((impl_ReadGroup.f k t559 a1 a2 a3).bind fun bt562 => (if bt562.1.toList = t557.toList then (laws_FnExactReadGroup.j0 k l0 t559 (bt562.2 != t558)) else (laws_FnExactReadGroup.j0 k l0 t559 true)))) = some r := H
  have A9 := Aside0.mk A90
  clear A90
  replace H := Option.bind_eq_some_iff.mp H
  obtain ⟨t559, A100, H⟩ := H
  replace H : ((impl_ReadGroup.f k t559 a1 a2 a3).bind fun bt562 => (if bt562.1.toList = t557.toList then (laws_FnExactReadGroup.j0 k l0 t559 (bt562.2 != t558)) else (laws_FnExactReadGroup.j0 k l0 t559 true))) = some r := H
  have A10 := Aside0.mk A100
  clear A100
  replace H := Option.bind_eq_some_iff.mp H
  obtain ⟨⟨t562, t563⟩, A110, H⟩ := H
  replace H : (if t562.toList = t557.toList then (laws_FnExactReadGroup.j0 k l0 t559 (t563 != t558)) else (laws_FnExactReadGroup.j0 k l0 t559 true)) = some r := H
  have A11 := Aside0.mk A110
  clear A110
  have HC12 := Aside0.mk H
  clear H
  go_enter Try.func3, Try.ntmps3
  go_upto_region 8 with (first | ((with_reducible refine gate_callee (f := 4) rfl ?_); refine GL (some 17) rfl rfl Try.func4 #[.slice A0 l0.length c0, .int .i64 1048576] rfl ?_; (with_reducible refine (laws_szHostS.calls k _ _ l0 1048576 t553 _ ?side1 ?side2 A5.out).mono ?_); (case side1 => exact CC HR0.out); (case side2 => exact HC0.out); rintro e w13 ⟨rfl, hb⟩; refine ⟨_, rfl, ?_⟩; replace HB := Aside0.mk (below_step (BB HB.out) hb); (try clear hb)) | ((with_reducible refine gate_callee (f := 6) rfl ?_); refine GL (some 22) rfl rfl Try.func6 #[.slice A0 l0.length c0] rfl ?_; (with_reducible refine (laws_toHostS.calls k _ _ l0 t554 _ ?side1 ?side2 A8.out).mono ?_); (case side1 => exact CC (Kd.C_below HR0.out HB.out)); (case side2 => exact HC0.out); rintro e w14 ⟨v555, rfl, ho0, hb⟩; refine ⟨_, rfl, ?_⟩; have HO556 := Aside0.mk (Kd.S_lower ho0 (below_size (BB HB.out))); replace HB := Aside0.mk (below_step (BB HB.out) hb); (try clear hb); (try clear ho0); obtain ⟨Ao15, co15, eo15⟩ := Kd.S_slice HO556.out; subst eo15) | ((with_reducible refine gate_callee (f := 5) rfl ?_); refine GL (some 26) rfl rfl Try.func5 #[.slice Ao15 t554.length co15, .int .i64 a1, .int .i64 a2, .int .i64 a3] rfl ?_; (with_reducible refine (spec_ReadGroup.calls k _ _ t554 a1 a2 a3 t557 t558 _ ?side1 ?side2 A9.out).mono ?_); (case side1 => exact CC (Kd.S_reads' HO556.out).2.2); (case side2 => exact (Kd.S_reads' HO556.out).2.1); rintro e w16 ⟨rfl, hb⟩; refine ⟨_, rfl, ?_⟩; replace HO556 := Aside0.mk (Kd.S_below (SS HO556.out) hb); replace HB := Aside0.mk (below_step (BB HB.out) hb); (try clear hb)) | ((with_reducible refine gate_callee (f := 6) rfl ?_); refine GL (some 30) rfl rfl Try.func6 #[.slice A0 l0.length c0] rfl ?_; (with_reducible refine (laws_toHostS.calls k _ _ l0 t559 _ ?side1 ?side2 A10.out).mono ?_); (case side1 => exact CC (Kd.C_below HR0.out HB.out)); (case side2 => exact HC0.out); rintro e w17 ⟨v560, rfl, ho0, hb⟩; refine ⟨_, rfl, ?_⟩; have HO561 := Aside0.mk (Kd.S_lower (Kd.S_new' ho0 (Kd.S_lt (SS HO556.out))) (below_size (BB HB.out))); replace HO556 := Aside0.mk (Kd.S_elder' (SS HO556.out) (Kd.S_base ho0) hb); replace HB := Aside0.mk (below_step (BB HB.out) hb); (try clear hb); (try clear ho0); obtain ⟨Ao18, co18, eo18⟩ := Kd.S_slice HO561.out; subst eo18) | ((with_reducible refine gate_callee (f := 7) rfl ?_); refine GL (some 36) rfl rfl Try.func7 #[.slice Ao18 t559.length co18, .int .i64 a1, .int .i64 a2, .int .i64 a3] rfl ?_; (with_reducible refine (impl_ReadGroup.calls k _ _ t559 a1 a2 a3 t562 t563 _ ?side1 ?side2 A11.out).mono ?_); (case side1 => exact CC (Kd.S_reads' HO561.out).2.2); (case side2 => exact (Kd.S_reads' HO561.out).2.1); rintro e w19 ⟨rfl, hb⟩; refine ⟨_, rfl, ?_⟩; replace HO556 := Aside0.mk (Kd.S_below (SS HO556.out) hb); replace HO561 := Aside0.mk (Kd.S_below (SS HO561.out) hb); replace HB := Aside0.mk (below_step (BB HB.out) hb); (try clear hb)))
  (try simp only [Act.put, List.setIfInBounds_toArray, List.set_cons_zero, List.set_cons_succ])
  go_cut [46] (fun v46 wc => ∃ (kq : Nat) (x46_11 : Bool), v46 = .bool x46_11 ∧ Aside0 (laws_FnExactReadGroup.j0 kq l0 t559 x46_11 = some r) ∧ Aside0 (kq ≤ k) ∧ Aside0 (Kd.S k43 43 wc w.heap.size (fun _ => True) (.slice Ao18 t559.length co18) t559) ∧ Aside0 (Below w.heap.size w wc))
  case first =>
   have H := HC12.out
   clear HC12
   by_cases c20 : t562.toList = t557.toList
   ·rw [if_pos c20] at H
    have c20b0 : (t562.toList == t557.toList) = true := beq_iff_eq.mpr c20
    have c20b1 : (t562.toList != t557.toList) = false := bne_eq_false_iff_eq.mpr c20
    clear c20
    (first | rw [c20b0] | (simp only [i64_w, i32_w]; rw [c20b0]) | skip)
    have H' := Aside0.mk H
    clear H
    go_wp2
    go_meet
    case rel => exact ⟨_, ((t563 != t558)), FR, H', ⟨by first | omega | exact Nat.le_refl _⟩, ⟨by (with_reducible repeat (first | apply Kd.S_alloc | apply Kd.S_drewN | apply Kd.S_drew)); exact Kd.S_mono HO561.out (fun _ hk => trivial)⟩, ⟨(BB HB.out)⟩⟩
   ·rw [if_neg c20] at H
    have c20b0 : (t562.toList == t557.toList) = false := beq_eq_false_iff_ne.mpr c20
    have c20b1 : (t562.toList != t557.toList) = true := bne_iff_ne.mpr c20
    (first | rw [c20b0] | (simp only [i64_w, i32_w]; rw [c20b0]) | skip)
    have H' := Aside0.mk H
    clear H
    go_wp2
    go_meet
    case rel => exact ⟨_, (true), FR, H', ⟨by first | omega | exact Nat.le_refl _⟩, ⟨by (with_reducible repeat (first | apply Kd.S_alloc | apply Kd.S_drewN | apply Kd.S_drew)); exact Kd.S_mono HO561.out (fun _ hk => trivial)⟩, ⟨(BB HB.out)⟩⟩
  case rest =>
   clear HC12
   try clear c2
   try clear p2
   try clear c3
   try clear c4
   try clear c5
   try clear c6
   try clear c6b0
   try clear c7
   try clear c20
   try clear c20b0
   try clear c20b1
   obtain ⟨kq, x46_11, rfl, HA, HJ11, HO_12, HB⟩ := hcut
   cases kq with
   | zero => exact absurd HA.out (by simp [laws_FnExactReadGroup.j0])
   | succ kj11 =>
    have H := HA.out
    clear HA
    simp only [laws_FnExactReadGroup.j0] at H
    by_cases c21 : x46_11 = true
    ·subst c21
     have H1 : (some false) = some r := by rw [if_pos rfl] at H; exact H
     clear H
     have H := H1
     clear H1
     exact absurd ((Option.some.inj H).trans hr_.out) (by decide)
    ·replace c21 := Bool.eq_false_iff.mpr c21
     subst c21
     have H1 : ((laws_toHostS.f kj11 l0).bind fun t564 => ((laws_eqHostS.f kj11 t559 t564).bind fun t567 => (if t567 = true then (some true) else (some false)))) = some r := by rw [if_neg (show ¬ (false = true) by decide)] at H; exact H
     clear H
     have H := H1
     clear H1
     replace H := Option.bind_eq_some_iff.mp H
     obtain ⟨t564, A220, H⟩ := H
     replace H : ((laws_eqHostS.f kj11 t559 t564).bind fun t567 => (if t567 = true then (some true) else (some false))) = some r := H
     have A22 := Aside0.mk A220
     clear A220
     replace H := Option.bind_eq_some_iff.mp H
     obtain ⟨t567, A230, H⟩ := H
     replace H : (if t567 = true then (some true) else (some false)) = some r := H
     have A23 := Aside0.mk A230
     clear A230
     by_cases c24 : t567 = true
     ·subst c24
      have H1 : (some true) = some r := by rw [if_pos rfl] at H; exact H
      clear H
      have H := H1
      clear H1
      obtain rfl := Option.some.inj H
      go_wp2_with (first | ((with_reducible refine gate_callee (f := 6) rfl ?_); refine GL (some 49) rfl rfl Try.func6 #[.slice A0 l0.length c0] rfl ?_; (with_reducible refine (laws_toHostS.calls kj11 _ _ l0 t564 _ ?side1 ?side2 A22.out).mono ?_); (case side1 => exact CC (Kd.C_below HR0.out HB.out)); (case side2 => exact HC0.out); rintro e w25 ⟨v565, rfl, ho0, hb⟩; refine ⟨_, rfl, ?_⟩; have HO566 := Aside0.mk (Kd.S_lower (Kd.S_new' ho0 (Kd.S_lt (SS HO_12.out))) (below_size (BB HB.out))); replace HO_12 := Aside0.mk (Kd.S_elder' (SS HO_12.out) (Kd.S_base ho0) hb); replace HB := Aside0.mk (below_step (BB HB.out) hb); (try clear hb); (try clear ho0); obtain ⟨Ao26, co26, eo26⟩ := Kd.S_slice HO566.out; subst eo26) | ((with_reducible refine gate_callee (f := 8) rfl ?_); refine GL (some 50) rfl rfl Try.func8 #[.slice Ao18 t559.length co18, .slice Ao26 t564.length co26] rfl ?_; (with_reducible refine (laws_eqHostS.calls kj11 _ _ t559 _ _ t564 true _ ?side1 ?side2 ?side3 ?side4 A23.out).mono ?_); (case side1 => exact CC (Kd.S_reads' HO_12.out).2.2); (case side2 => exact (Kd.S_reads' HO_12.out).2.1); (case side3 => exact CC (Kd.S_reads' HO566.out).2.2); (case side4 => exact (Kd.S_reads' HO566.out).2.1); rintro e w27 ⟨rfl, hb⟩; refine ⟨_, rfl, ?_⟩; replace HO_12 := Aside0.mk (Kd.S_below (SS HO_12.out) hb); replace HO566 := Aside0.mk (Kd.S_below (SS HO566.out) hb); replace HB := Aside0.mk (below_step (BB HB.out) hb); (try clear hb)))
      go_ret
      exact ⟨ER, (BB HB.out)⟩
     ·replace c24 := Bool.eq_false_iff.mpr c24
      subst c24
      have H1 : (some false) = some r := by rw [if_neg (show ¬ (false = true) by decide)] at H; exact H
      clear H
      have H := H1
      clear H1
      exact absurd ((Option.some.inj H).trans hr_.out) (by decide)

end Go.Proofs.Ytahimindlnkmoaa.Pr

namespace Go.Proofs.Ytahimindlnkmoaa.Opn
open Go.RowKit Go.ChangeShapes Go.WideShapes Go.Deep Go.Proofs.YtahimindlnkmoaaW.PrintWords
def Opens {α : Type} (P : Program) (d : Kd α) (wf : α → Prop) (t : TypeId) : Prop :=
  ∀ (H : Type) (enc : TypeId × Value → H) (w : World) (base : Nat) (spare : Nat → Bool) (held : Bool) (fuel : Nat) (cs : List Value) (x : DataW H × List MemPlace),
    DataW.trod enc P w base spare held fuel t cs = some x → ∃ v, d.K w v cs ∧ wf v

def OpensF {α : Type} (P : Program) (d : Kd α) (wf : α → Prop) (off : Nat) (fs : List Field) : Prop :=
  ∀ (H : Type) (enc : TypeId × Value → H) (w : World) (base : Nat) (spare : Nat → Bool) (held : Bool) (fuel : Nat) (cs : List Value),
    cs.length = off + d.sz → (∀ f ∈ fs, ∃ y, DataW.trod enc P w base spare held fuel f.type ((cs.drop f.offset).take (P.cellsOf f.type)) = some y) → ∃ v, d.K w v (cs.drop off) ∧ wf v

theorem opens_int {P : Program} {t : TypeId} (k : IntKind) (ht : P.underlying t = some (.int k)) : Opens P (Kd.int k) (fun n => (Lit.int k n).wf = true) t := by
  intro H enc w base spare held fuel cs x h
  obtain ⟨n, rfl, _, hw⟩ := DataW.trod_int ht h
  exact ⟨n, rfl, hw⟩
theorem opens_bool {P : Program} {t : TypeId} (ht : P.underlying t = some .bool) : Opens P Kd.bool (fun _ => True) t := by
  intro H enc w base spare held fuel cs x h
  obtain ⟨n, rfl, _⟩ := DataW.trod_bool ht h
  exact ⟨n, rfl, trivial⟩
theorem opens_string {P : Program} {t : TypeId} (ht : P.underlying t = some .string) : Opens P Kd.string (fun s => s.size ≤ maxLen) t := by
  intro H enc w base spare held fuel cs x h
  obtain ⟨s, rfl, _, hs⟩ := DataW.trod_string ht h
  exact ⟨s, rfl, hs⟩

theorem list_of_lt {α : Type} {q : Nat → α → Prop} (len : Nat) (key : ∀ i, i < len → ∃ v, q i v) : ∃ xs : List α, xs.length = len ∧ ∀ i v, xs[i]? = some v → q i v := by
  induction len with
  | zero => exact ⟨[], rfl, fun i v h => by simp at h⟩
  | succ k ih =>
    obtain ⟨xs, hxl, hx⟩ := ih (fun i hik => key i (by omega))
    obtain ⟨v, h1⟩ := key k (by omega)
    refine ⟨xs ++ [v], by simp [hxl], fun i u hu => ?_⟩
    by_cases hik : i < xs.length
    · rw [List.getElem?_append_left hik] at hu
      exact hx i u hu
    · have hil := (List.getElem?_eq_some_iff.1 hu).1
      simp at hil
      have hi' : i = k := by omega
      subst hi'
      rw [List.getElem?_append_right (by omega)] at hu
      simp [hxl] at hu
      subst hu
      exact h1

theorem opens_slice {α : Type} {P : Program} {t e : TypeId} {d : Kd α} {wf : α → Prop} (ht : P.underlying t = some (.slice e)) (hc : P.cellsOf e = d.sz) (he : Opens P d wf e) :
    Opens P (Kd.slice e d) (fun xs => xs.length ≤ maxLen ∧ ∀ x ∈ xs, wf x) t := by
  intro H enc w base spare held fuel cs x h
  rcases Go.Deep.open_slice ht h with ⟨rfl, _⟩ | ⟨a, len, cap, m, n, D, Pl, rfl, _, hl, hm, hmm, _, hi⟩
  · refine ⟨[], ⟨none, 0, rfl, Nat.le_refl _, rfl, by simp, fun h => absurd h (by simp)⟩, by simp, fun x hx => by simp at hx⟩
  · have hlm : len ≤ m := by rw [hmm]; split <;> omega
    have key : ∀ i, i < len → ∃ v c, d.K w v c ∧ wf v ∧ w.cells? base (a.add (i * P.cellsOf e)) (P.cellsOf e) = some c := by
      intro i hil
      obtain ⟨c, h1, h2⟩ := hi i (by omega)
      obtain ⟨v, hk, hw⟩ := he _ _ _ _ _ _ _ _ _ h2
      exact ⟨v, c, hk, hw, h1⟩
    have this := list_of_lt (q := fun i v => ∃ c, d.K w v c ∧ wf v ∧ w.cells? base (a.add (i * P.cellsOf e)) (P.cellsOf e) = some c) len key
    obtain ⟨xs, hxl, hx⟩ := this
    refine ⟨xs, ⟨some a, cap, by rw [hxl], by omega, ?_⟩, by rw [hxl]; omega, ?_⟩
    · refine ⟨rfl, by unfold maxLen at hm; omega, fun _ => ⟨a, rfl, fun j p hj => ?_⟩⟩
      obtain ⟨c, h1, h2, h3⟩ := hx j p hj
      obtain ⟨_, hcl, hat⟩ := World.cells?_some h3
      refine ⟨c, by rw [hcl, hc], h1, fun i u hu => ?_⟩
      have hil : i < P.cellsOf e := by rw [← hcl]; exact (List.getElem?_eq_some_iff.1 hu).1
      rw [← Go.Deep.add_add, ← hc, hat i hil, hu]
    · intro y hy
      obtain ⟨i, hi⟩ := List.mem_iff_getElem?.1 hy
      obtain ⟨c, _, h2, _⟩ := hx i y hi
      exact h2

theorem opensF_one {α : Type} {P : Program} {d : Kd α} {wf : α → Prop} {f : Field} {off : Nat} (h : Opens P d wf f.type) (ho : f.offset = off) (hc : P.cellsOf f.type = d.sz) : OpensF P d wf off [f] := by
  intro H enc w base spare held fuel cs hl hf
  obtain ⟨y, hy⟩ := hf f (by simp)
  rw [ho, hc, List.take_of_length_le (by simp; omega)] at hy
  exact h _ _ _ _ _ _ _ _ _ hy
theorem opensF_cons {α β : Type} {P : Program} {a : Kd α} {b : Kd β} {wa : α → Prop} {wb : β → Prop} {f : Field} {fs : List Field} {off : Nat} (h : Opens P a wa f.type) (ho : f.offset = off) (hc : P.cellsOf f.type = a.sz)
    (ht : OpensF P b wb (off + a.sz) fs) : OpensF P (Kd.pair a b) (fun x => wa x.1 ∧ wb x.2) off (f :: fs) := by
  intro H enc w base spare held fuel cs hl hf
  have hsz : (Kd.pair a b).sz = a.sz + b.sz := rfl
  obtain ⟨y, hy⟩ := hf f (by simp)
  rw [ho, hc] at hy
  obtain ⟨v, hv, hw⟩ := h _ _ _ _ _ _ _ _ _ hy
  obtain ⟨u, hu, hw'⟩ := ht H enc w base spare held fuel cs (by rw [hl, hsz]; omega) (fun g hg => hf g (by simp [hg]))
  refine ⟨(v, u), ⟨_, _, ?_, hv, hu⟩, hw, hw'⟩
  rw [← List.drop_drop, List.take_append_drop]
theorem opens_struct {α : Type} {P : Program} {t : TypeId} {d : Kd α} {wf : α → Prop} {fs : Array Field} (ht : P.underlying t = some (.struct fs)) (hc : P.cellsOf t = d.sz) (h : OpensF P d wf 0 fs.toList) : Opens P d wf t := by
  intro H enc w base spare held fuel cs x hx
  obtain ⟨xs, n, _, _, hlen, hxl, hf⟩ := DataW.trod_struct ht hx
  obtain ⟨v, hv, hw⟩ := h H enc w base spare held n cs (by rw [hlen, hc]; simp) (fun f hfm => by
    obtain ⟨i, hi⟩ := List.mem_iff_getElem?.1 hfm
    have hi' : fs[i]? = some f := by simpa using hi
    have hil : i < xs.length := by rw [hxl]; exact (Array.getElem?_eq_some_iff.1 hi').1
    exact ⟨xs[i], by rw [hf i f hi', List.getElem?_eq_getElem hil]⟩)
  exact ⟨v, by simpa using hv, hw⟩
theorem opens_iso {α β : Type} {P : Program} {t : TypeId} {d : Kd α} {wf : α → Prop} (h : Opens P d wf t) (f : β → α) (g : α → β) (e : ∀ x, f (g x) = x) : Opens P (Kd.iso d f) (fun y => wf (f y)) t := by
  intro H enc w base spare held fuel cs x hx
  obtain ⟨v, hv, hw⟩ := h _ _ _ _ _ _ _ _ _ hx
  refine ⟨g v, ?_, ?_⟩
  · show d.K w (f (g v)) cs
    rw [e]
    exact hv
  · show wf (f (g v))
    rw [e]
    exact hw

theorem arg_slice {α : Type} {P : Program} {t e : TypeId} {d : Kd α} {wf : List α → Prop} (h : Opens P (Kd.slice e d) wf t) {H : Type} {enc : TypeId × Value → H} {w : World} {base : Nat} {spare : Nat → Bool} {held : Bool}
    {A : Option Addr} {n c : Nat} {x : DataW H} {p : List MemPlace} (hx : DataW.Trod enc P w base spare held t (.slice A n c) x p) : ∃ l : List α, n = l.length ∧ l.length ≤ c ∧ Kd.C d w A l.length l ∧ wf l := by
  obtain ⟨fuel, hf⟩ := hx
  obtain ⟨l, ⟨A', c', he, hl, hC⟩, hw⟩ := h _ _ _ _ _ _ _ _ _ hf
  simp [Value.cells] at he
  obtain ⟨rfl, rfl, rfl⟩ := he
  exact ⟨l, rfl, hl, hC, hw⟩
end Go.Proofs.Ytahimindlnkmoaa.Opn

namespace Go.Proofs.Ytahimindlnkmoaa.SFnExactReadGroup
open Go.RowKit Go.Proofs.YtahimindlnkmoaaW.PrintWords Go.Proofs.YtahimindlnkmoaaW.PrintLast Go.Proofs.YtahimindlnkmoaaW.PrintMore Go.Proofs.Ytahimindlnkmoaa.Pr Go.Proofs.Ytahimindlnkmoaa.Opn
set_option linter.unusedVariables false
def wf65 (x : S65) : Prop := ((Lit.int .i64 x.f0).wf = true) ∧ ((Lit.int .i64 x.f1).wf = true) ∧ (x.f2.size ≤ maxLen) ∧ ((Lit.int .i64 x.f3).wf = true)
set_option maxRecDepth 100000 in
theorem op65 : Opens Try.prog k65 wf65 65 := opens_iso (opens_struct Try.underlying65 (by kernel_rfl) (opensF_cons (opens_int .i64 Try.underlying3) rfl (by kernel_rfl) (opensF_cons (opens_int .i64 Try.underlying3) rfl (by kernel_rfl) (opensF_cons (opens_string Try.underlying9) rfl (by kernel_rfl) (opensF_one (opens_int .i64 Try.underlying3) rfl (by kernel_rfl)))))) _ (fun p => (⟨p.1, p.2.1, p.2.2.1, p.2.2.2⟩ : S65)) (fun _ => rfl)
def wf33 (x : S33) : Prop := ((Lit.int .i64 x.f0).wf = true) ∧ (True) ∧ (x.f2.length ≤ maxLen ∧ ∀ y ∈ x.f2, wf65 y)
set_option maxRecDepth 100000 in
theorem op33 : Opens Try.prog k33 wf33 33 := opens_iso (opens_struct Try.underlying33 (by kernel_rfl) (opensF_cons (opens_int .i64 Try.underlying3) rfl (by kernel_rfl) (opensF_cons (opens_bool Try.underlying4) rfl (by kernel_rfl) (opensF_one (opens_slice Try.underlying31 (by kernel_rfl) (op65)) rfl (by kernel_rfl))))) _ (fun p => (⟨p.1, p.2.1, p.2.2⟩ : S33)) (fun _ => rfl)
def Pure : Prop := ∀ (l0 : List (S33)) (a1 : Int) (a2 : Int) (a3 : Int), (l0.length ≤ maxLen ∧ ∀ y ∈ l0, wf33 y) → (Lit.int .i64 a1).wf = true → (Lit.int .i64 a2).wf = true → (Lit.int .i64 a3).wf = true → ∃ k, laws_FnExactReadGroup.f k l0 a1 a2 a3 = some true
end Go.Proofs.Ytahimindlnkmoaa.SFnExactReadGroup

namespace Go.Proofs.Ytahimindlnkmoaa.Pu
open Go.RowKit Go.Proofs.YtahimindlnkmoaaW.PrintWords Go.Proofs.Ytahimindlnkmoaa.Pr
set_option maxRecDepth 100000
theorem scale_mono (l : List Int) (a : Int) (k : Nat) : LeO (impl_scale.f k l a) (impl_scale.f (k + 1) l a) := by
  intro r hr
  unfold impl_scale.f at hr ⊢
  split at hr
  · rename_i h
    have h2 : ∀ x ∈ l, impl_MulG.f (k + 1) x a = impl_MulG.f k x a := fun x hx => by
      obtain ⟨v, hv⟩ := Option.isSome_iff_exists.mp (h.2 x hx)
      rw [hv]
      exact impl_MulG.mono x a k v hv
    rw [if_pos ⟨h.1, fun x hx => by rw [h2 x hx]; exact h.2 x hx⟩, ← hr]
    congr 1
    exact List.map_congr_left fun x hx => by rw [h2 x hx]
  · cases hr
theorem elim_mono (n c k : Nat) : ∀ d i L O, LeO (elimI k n c d i L O) (elimI (k + 1) n c d i L O) := by
  intro d
  induction d with
  | zero => intro i L O; exact LeO.refl _
  | succ d ih =>
    intro i L O
    unfold elimI
    exact LeO.ite (LeO.bind (impl_addTimes.mono _ _ _ k) fun li => LeO.bind (impl_addTimes.mono _ _ _ k) fun oi => LeO.ite (ih _ _ _) (LeO.none _)) (ih _ _ _)
theorem col_mono (n k : Nat) : ∀ d c L O, LeO (colI k n d c L O) (colI (k + 1) n d c L O) := by
  intro d
  induction d with
  | zero => intro c L O; exact LeO.refl _
  | succ d ih =>
    intro c L O
    unfold colI
    exact LeO.ite (LeO.refl _) (LeO.bind (impl_InvG.mono _ k) fun a => LeO.bind (scale_mono _ _ k) fun lc => LeO.bind (scale_mono _ _ k) fun oc => LeO.ite (LeO.bind (elim_mono _ _ k _ _ _ _) fun q => ih _ _ _) (LeO.none _))
theorem impl_InvM_mono (l : List (List Int)) (k : Nat) : LeO (impl_InvM.f k l) (impl_InvM.f (k + 1) l) := by
  unfold impl_InvM.f
  exact LeO.ite (LeO.bind (impl_OneM.mono _ k) fun o => LeO.ite (col_mono _ k _ _ _ _) (LeO.none _)) (LeO.refl _)
def subs : Nat → List (List Int) → List (List (List Int))
  | 0, _ => [[]]
  | _ + 1, [] => []
  | k + 1, r :: m => ((subs k m).map (r :: ·)) ++ subs (k + 1) m
def code (s : Int) : List (List Int) := if s = 1 then [[1, 0], [0, 1], [142, 244]] else if s = 2 then [[1, 0, 0], [0, 1, 0], [0, 0, 1], [244, 142, 1], [71, 167, 122]] else if s = 3 then [[1, 0, 0, 0], [0, 1, 0, 0], [0, 0, 1, 0], [0, 0, 0, 1], [71, 167, 122, 186], [167, 71, 186, 122]] else []
def same (l : List (List (List Int))) : Bool := l.all fun m => match impl_InvM.f 400 m, spec_InvM.f 400 m with | some a, some b => a == b && a.2 && a.1.all (fun r => r.all fun x => decide (0 ≤ x ∧ x < 256)) && a.1.all (fun r => r.length == m.length) && a.1.length == m.length && mOk a.1 | _, _ => false
theorem same1 : same (subs 2 (code 1)) = true := by kernel_rfl
theorem same2 : same (subs 3 (code 2)) = true := by kernel_rfl
theorem same3 : same (subs 4 (code 3)) = true := by kernel_rfl
theorem inv_ev {l : List (List (List Int))} (h : same l = true) {m : List (List Int)} (hm : m ∈ l) : ∃ i, Ev (fun k => impl_InvM.f k m) (i, true) ∧ Ev (fun k => spec_InvM.f k m) (i, true) ∧ mOk i = true ∧ i.length = m.length ∧ ∀ r ∈ i, r.length = m.length ∧ ∀ x ∈ r, 0 ≤ x ∧ x < 256 := by
  have h1 := List.all_eq_true.mp h m hm
  split at h1
  · rename_i a b ha hb
    simp only [Bool.and_eq_true, beq_iff_eq, List.all_eq_true, decide_eq_true_eq] at h1
    obtain ⟨⟨⟨⟨⟨rfl, h2⟩, h3⟩, h4⟩, h5⟩, h6⟩ := h1
    obtain ⟨a1, a2⟩ := a
    cases h2
    exact ⟨a1, Ev.of (impl_InvM_mono m) ha, Ev.of (spec_InvM.mono m) hb, h6, h5, fun r hr => ⟨h4 r hr, h3 r hr⟩⟩
  · cases h1
end Go.Proofs.Ytahimindlnkmoaa.Pu

namespace Go.Proofs.Ytahimindlnkmoaa.Pu
open Go.RowKit Go.Proofs.YtahimindlnkmoaaW.PrintWords Go.Proofs.Ytahimindlnkmoaa.Pr
set_option maxRecDepth 100000
theorem impl_CodeOf_ev {s : Int} (h : s = 1 ∨ s = 2 ∨ s = 3) : Ev (fun k => impl_CodeOf.f k s) (code s) := by
  rcases h with rfl | rfl | rfl
  · exact Ev.of (k := 400) (impl_CodeOf.mono 1) (by kernel_rfl)
  · exact Ev.of (k := 400) (impl_CodeOf.mono 2) (by kernel_rfl)
  · exact Ev.of (k := 400) (impl_CodeOf.mono 3) (by kernel_rfl)
theorem spec_CodeOf_ev {s : Int} (h : s = 1 ∨ s = 2 ∨ s = 3) : Ev (fun k => spec_CodeOf.f k s) (code s) := by
  rcases h with rfl | rfl | rfl
  · exact Ev.of (k := 400) (spec_CodeOf.mono 1) (by kernel_rfl)
  · exact Ev.of (k := 400) (spec_CodeOf.mono 2) (by kernel_rfl)
  · exact Ev.of (k := 400) (spec_CodeOf.mono 3) (by kernel_rfl)
end Go.Proofs.Ytahimindlnkmoaa.Pu

namespace Go.Proofs.Ytahimindlnkmoaa.Pu
open Go.RowKit Go.Proofs.YtahimindlnkmoaaW.PrintWords Go.Proofs.Ytahimindlnkmoaa.Pr Go.Proofs.Ytahimindlnkmoaa.Evs
set_option linter.unusedVariables false
set_option linter.unusedSimpArgs false
def stepA (a : Int) : Int := if 2 * a > 255 then Go.bits .xor .i64 (2 * a) 285 else 2 * a
def mulL : Nat → Int → Int → Int → Int
  | 0, _, _, o => o
  | f + 1, a, b, o => if b > 0 then mulL f (stepA a) (b / 2) (if b % 2 = 1 then Go.bits .xor .i64 o a else o) else o
def mulG (a b : Int) : Int := mulL 8 a b 0
set_option maxRecDepth 100000 in
theorem stepA_all : ∀ n : Fin 256, 0 ≤ stepA (n.val : Int) ∧ stepA (n.val : Int) < 256 := by decide
theorem stepA_in (a : Int) (h0 : 0 ≤ a) (h1 : a < 256) : 0 ≤ stepA a ∧ stepA a < 256 := by
  have := stepA_all ⟨a.toNat, by omega⟩
  have e : (((⟨a.toNat, by omega⟩ : Fin 256)).val : Int) = a := by simp; omega
  rwa [e] at this
theorem wraps64 (n : Int) (h0 : 0 ≤ n) (h1 : n < 2 ^ 62) : IntKind.i64.wrap n = n := by rw [IntKind.wrap_i64]; omega
theorem and1 (b : Int) (h0 : 0 ≤ b) (h1 : b < 256) : Go.bits .and .i64 b 1 = b % 2 := bits_mask .i64 62 (by decide) wraps64 1 (by decide) b h0 (by omega)
theorem and255 (b : Int) (h0 : 0 ≤ b) (h1 : b < 256) : Go.bits .and .i64 b 255 = b := by
  have := bits_mask .i64 62 (by decide) wraps64 8 (by decide) b h0 (by omega)
  rw [show ((2 : Int) ^ 8 - 1) = 255 from rfl, show ((2 : Int) ^ 8) = 256 from rfl] at this
  rw [this]
  omega
theorem pow_le8 (f : Nat) (h : f ≤ 8) : (2 : Int) ^ f ≤ 256 := by
  have : f = 0 ∨ f = 1 ∨ f = 2 ∨ f = 3 ∨ f = 4 ∨ f = 5 ∨ f = 6 ∨ f = 7 ∨ f = 8 := by omega
  rcases this with rfl | rfl | rfl | rfl | rfl | rfl | rfl | rfl | rfl <;> decide
theorem impl_MulG_l0 : ∀ (f : Nat) (a b o : Int), 0 ≤ a → a < 256 → 0 ≤ b → b < 2 ^ f → f ≤ 8 → Ev (fun k => impl_MulG.l0 k a b o) (mulL f a b o)
  | 0, a, b, o, h0, h1, h2, h3, hf => ev_step (fun k => impl_MulG.l0.eq_2 _ _ _ k) (ev_neg (by simp at h3; omega) (ev_some _))
  | f + 1, a, b, o, h0, h1, h2, h3, hf => by
    have hb : b < 256 := Int.lt_of_lt_of_le h3 (pow_le8 (f + 1) hf)
    refine ev_step (fun k => impl_MulG.l0.eq_2 _ _ _ k) ?_
    unfold mulL
    by_cases c : b > 0
    · rw [if_pos c]
      refine ev_pos c ?_
      have hs := stepA_in a h0 h1
      have hd : b / 2 < 2 ^ f := by rw [Int.pow_succ] at h3; omega
      have w : wrap64 (a * 2) = 2 * a := by rw [wrap_in (by omega) (by omega)]; omega
      rw [and1 b h2 hb, w]
      by_cases o1 : b % 2 = 1
      · rw [if_pos o1]
        refine ev_pos o1 ?_
        by_cases g : 2 * a > 255
        · have ih := impl_MulG_l0 f (stepA a) (b / 2) (Go.bits .xor .i64 o a) hs.1 hs.2 (by omega) hd (by omega)
          refine ev_pos g ?_
          unfold stepA at ih ⊢
          rw [if_pos g] at ih ⊢
          exact ih
        · have ih := impl_MulG_l0 f (stepA a) (b / 2) (Go.bits .xor .i64 o a) hs.1 hs.2 (by omega) hd (by omega)
          refine ev_neg g ?_
          unfold stepA at ih ⊢
          rw [if_neg g] at ih ⊢
          exact ih
      · rw [if_neg o1]
        refine ev_neg o1 ?_
        by_cases g : 2 * a > 255
        · have ih := impl_MulG_l0 f (stepA a) (b / 2) o hs.1 hs.2 (by omega) hd (by omega)
          refine ev_pos g ?_
          unfold stepA at ih ⊢
          rw [if_pos g] at ih ⊢
          exact ih
        · have ih := impl_MulG_l0 f (stepA a) (b / 2) o hs.1 hs.2 (by omega) hd (by omega)
          refine ev_neg g ?_
          unfold stepA at ih ⊢
          rw [if_neg g] at ih ⊢
          exact ih
    · rw [if_neg c]
      exact ev_neg c (ev_some _)
theorem impl_MulG_ev (a b : Int) (h0 : 0 ≤ a) (h1 : a < 256) (h2 : 0 ≤ b) (h3 : b < 256) : Ev (fun k => impl_MulG.f k a b) (mulG a b) := by
  unfold impl_MulG.f
  rw [and255 a h0 h1, and255 b h2 h3]
  exact impl_MulG_l0 8 a b 0 h0 h1 h2 h3 (Nat.le_refl _)
theorem spec_MulG_l0 : ∀ (f : Nat) (a b o : Int), 0 ≤ a → a < 256 → 0 ≤ b → b < 2 ^ f → f ≤ 8 → Ev (fun k => spec_MulG.l0 k a b o) (mulL f a b o)
  | 0, a, b, o, h0, h1, h2, h3, hf => ev_step (fun k => spec_MulG.l0.eq_2 _ _ _ k) (ev_neg (by simp at h3; omega) (ev_some _))
  | f + 1, a, b, o, h0, h1, h2, h3, hf => by
    have hb : b < 256 := Int.lt_of_lt_of_le h3 (pow_le8 (f + 1) hf)
    refine ev_step (fun k => spec_MulG.l0.eq_2 _ _ _ k) ?_
    unfold mulL
    by_cases c : b > 0
    · rw [if_pos c]
      refine ev_pos c ?_
      have hs := stepA_in a h0 h1
      have hd : b / 2 < 2 ^ f := by rw [Int.pow_succ] at h3; omega
      have w : wrap64 (2 * a) = 2 * a := wrap_in (by omega) (by omega)
      have t : Int.tmod b 2 = b % 2 := Int.tmod_eq_emod_of_nonneg h2
      have d : wrap64 (Int.tdiv b 2) = b / 2 := by rw [Int.tdiv_eq_ediv_of_nonneg h2]; exact wrap_in (by omega) (by omega)
      rw [t, w, d]
      by_cases o1 : b % 2 = 1
      · rw [if_pos o1]
        refine ev_pos o1 ?_
        have ih := spec_MulG_l0 f (stepA a) (b / 2) (Go.bits .xor .i64 o a) hs.1 hs.2 (by omega) hd (by omega)
        by_cases g : 2 * a > 255
        · refine ev_pos (by omega) ?_
          unfold stepA at ih ⊢
          rw [if_pos g] at ih ⊢
          exact ih
        · refine ev_neg (by omega) ?_
          unfold stepA at ih ⊢
          rw [if_neg g] at ih ⊢
          exact ih
      · rw [if_neg o1]
        refine ev_neg o1 ?_
        have ih := spec_MulG_l0 f (stepA a) (b / 2) o hs.1 hs.2 (by omega) hd (by omega)
        by_cases g : 2 * a > 255
        · refine ev_pos (by omega) ?_
          unfold stepA at ih ⊢
          rw [if_pos g] at ih ⊢
          exact ih
        · refine ev_neg (by omega) ?_
          unfold stepA at ih ⊢
          rw [if_neg g] at ih ⊢
          exact ih
    · rw [if_neg c]
      exact ev_neg c (ev_some _)
theorem l05Mod_eq (a : Int) (h0 : 0 ≤ a) (h1 : a < 256) : spec_l05Mod.f a = some a := by
  unfold spec_l05Mod.f
  have t : Int.tmod a 256 = a := by rw [Int.tmod_eq_emod_of_nonneg h0]; omega
  rw [t, if_neg (by omega)]
theorem spec_MulG_ev (a b : Int) (h0 : 0 ≤ a) (h1 : a < 256) (h2 : 0 ≤ b) (h3 : b < 256) : Ev (fun k => spec_MulG.f k a b) (mulG a b) := by
  unfold spec_MulG.f
  refine ev_call (l05Mod_eq a h0 h1) (ev_call (l05Mod_eq b h2 h3) ?_)
  exact spec_MulG_l0 8 a b 0 h0 h1 h2 h3 (Nat.le_refl _)
end Go.Proofs.Ytahimindlnkmoaa.Pu

namespace Go.Proofs.Ytahimindlnkmoaa.Pu
open Go.RowKit Go.Proofs.YtahimindlnkmoaaW.PrintWords Go.Proofs.Ytahimindlnkmoaa.Pr Go.Proofs.Ytahimindlnkmoaa.Evs
set_option linter.unusedVariables false
set_option linter.unusedSimpArgs false
def mulT (a : Int) (s : ByteArray) : ByteArray := strOfNums ((List.range s.size).map fun j => mulG a (btN s j) % 256)
theorem mulT_size (a : Int) (s : ByteArray) : (mulT a s).size = s.size := by unfold mulT; rw [strOfNums_size]; simp
theorem ev_all {α : Type} (g : Nat → Nat → Option α) (v : Nat → α) : ∀ n : Nat, (∀ j, j < n → Ev (g j) (v j)) → ∃ K, ∀ k, K ≤ k → ∀ j, j < n → g j k = some (v j)
  | 0, _ => ⟨0, fun k _ j hj => absurd hj (Nat.not_lt_zero _)⟩
  | n + 1, h => by
    obtain ⟨K, hK⟩ := ev_all g v n (fun j hj => h j (by omega))
    obtain ⟨K2, hK2⟩ := h n (by omega)
    refine ⟨max K K2, fun k hk j hj => ?_⟩
    by_cases e : j = n
    · subst e
      exact hK2 k (by omega)
    · exact hK k (by omega) j (by omega)
theorem spec_MulText_ev (a : Int) (s : ByteArray) (h0 : 0 ≤ a) (h1 : a < 256) (hs : s.size ≤ 1048576) : Ev (fun k => spec_MulText.f k a s) (mulT a s) := by
  obtain ⟨K, hK⟩ := ev_all (fun j k => spec_MulG.f k a (btN s j)) (fun j => mulG a (btN s j)) s.size (fun j _ => spec_MulG_ev a _ h0 h1 (btN_lo s j) (btN_hi s j))
  refine ⟨K, fun k hk => ?_⟩
  show spec_MulText.f k a s = _
  unfold spec_MulText.f
  rw [if_pos ⟨hs, fun j hj => by rw [hK k hk j hj]; rfl⟩]
  unfold mulT
  congr 2
  refine List.map_congr_left fun j hj => ?_
  rw [hK k hk j (List.mem_range.1 hj)]
  rfl
theorem bt_btN (s : ByteArray) (j : Nat) (h : j < s.size) : wrap64 (bt s (j : Int)) = btN s j := by
  have e : bt s (j : Int) = btN s j := by
    rw [btN_get s j h]
    simp [bt, h]
  rw [e]
  have := btN_lo s j
  have := btN_hi s j
  exact wrap_in (by omega) (by omega)
theorem impl_MulText_l0 (a : Int) (s : ByteArray) (h0 : 0 ≤ a) (h1 : a < 256) (hs : s.size ≤ 1048576) : ∀ (d i : Nat), i + d = s.size →
    Ev (fun k => impl_MulText.l0 k a s ((List.range s.size).map fun j => if j < i then mulG a (btN s j) % 256 else 0) (s.size : Int) (i : Int)) (mulT a s) := by
  intro d
  induction d with
  | zero =>
    intro i hi
    refine ev_step (fun k => impl_MulText.l0.eq_2 _ _ _ _ _ k) (ev_neg (by omega) (ev_eq (ev_some _) ?_))
    unfold mulT
    congr 1
    exact List.map_congr_left fun j hj => if_pos (by have := List.mem_range.1 hj; omega)
  | succ d ih =>
    intro i hi
    have h := ih (i + 1) (by omega)
    have e : wrap64 ((i : Int) + 1) = ((i + 1 : Nat) : Int) := by rw [wrap_in (by omega) (by omega)]; omega
    have e2 : ((List.range s.size).map fun j => if j < i then mulG a (btN s j) % 256 else 0).set ((i : Int)).toNat (mulG a (btN s i) % 256) = (List.range s.size).map fun j => if j < i + 1 then mulG a (btN s j) % 256 else 0 := by
      rw [Int.toNat_natCast]
      apply List.ext_getElem?
      intro m
      by_cases hm : m < s.size
      · by_cases hmi : m = i
        · subst hmi
          rw [List.getElem?_set_self (by simp; exact hm), List.getElem?_map, List.getElem?_range hm]
          simp
        · rw [List.getElem?_set_ne (Ne.symm hmi), List.getElem?_map, List.getElem?_map, List.getElem?_range hm]
          simp only [Option.map_some]
          by_cases hlt : m < i
          · rw [if_pos hlt, if_pos (by omega)]
          · rw [if_neg hlt, if_neg (by omega)]
      · rw [List.getElem?_eq_none (by simp; omega), List.getElem?_eq_none (by simp; omega)]
    refine ev_step (fun k => impl_MulText.l0.eq_2 _ _ _ _ _ k) (ev_pos (by omega) (ev_pos (by omega) (ev_pos (by omega) ?_)))
    rw [bt_btN s i (by omega), e]
    refine ev_bind (impl_MulG_ev a _ h0 h1 (btN_lo s i) (btN_hi s i)) (ev_pos (by simp; omega) ?_)
    rw [e2]
    exact h
theorem impl_MulText_ev (a : Int) (s : ByteArray) (h0 : 0 ≤ a) (h1 : a < 256) (hs : s.size ≤ 1048576) : Ev (fun k => impl_MulText.f k a s) (mulT a s) := by
  unfold impl_MulText.f
  refine ev_pos (by omega) (ev_pos (by rw [Int.toNat_natCast]; omega) (ev_call rfl ?_))
  have h := impl_MulText_l0 a s h0 h1 hs s.size 0 (by omega)
  have e : List.replicate ((s.size : Int)).toNat (0 : Int) = (List.range s.size).map fun j => if j < 0 then mulG a (btN s j) % 256 else 0 := by
    rw [Int.toNat_natCast]
    apply List.ext_getElem?
    intro m
    rw [List.getElem?_replicate, List.getElem?_map]
    by_cases hm : m < s.size
    · rw [if_pos hm, List.getElem?_range hm]
      rfl
    · rw [if_neg hm, List.getElem?_eq_none (by simp; omega)]
      rfl
  rw [← e] at h
  rw [List.length_replicate, Int.toNat_natCast]
  rw [Int.toNat_natCast] at h
  exact h
end Go.Proofs.Ytahimindlnkmoaa.Pu
