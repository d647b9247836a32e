/- A part of the proof of the law FnExactWorldNew: its texts, one behind the other. -/
import Derived.Shelf.Abstract
import Derived.Test.YtfgnaneajonapaaBFnExactWorldNew1
import Derived.Test.YtfgnaneajonapaaBFnExactWorldNew2
import Derived.Test.YtfgnaneajonapaaBFnExactWorldNew3
import Derived.Test.YtfgnaneajonapaaBFnExactWorldNew4
namespace Go.Proofs.Ytfgnaneajonapaa.Pr
open Go.RowKit Go.Proofs.YtfgnaneajonapaaW.PrintWords Go.Proofs.YtfgnaneajonapaaW.PrintLast Go.Proofs.YtfgnaneajonapaaW.PrintMore
attribute [local go_sem] max2_int min2_int max_two min_two max_three min_three max_four min_four
set_option linter.unusedVariables false
set_option linter.unusedSimpArgs false
def laws_heldHostS.l0 : Nat → List (S97) → Int → Int → Option (Int)
  | 0, _, _, _ => none
  | k + 1, x0, x1, x5 => if x5 < (x0.length : Int) then (if 0 ≤ x5 then (if ((rd_T97 x0 x5).f0) = x1 then (if (((rd_T97 x0 x5).f1) != ((Int.tmod (wrap64 (x1 + 1)) 3) == 0)) = true then (some (-1)) else ((laws_heldUnitS.f k ((rd_T97 x0 x5).f2) (wrap64 ((wrap64 (x1 + 1)) + 1))).bind fun t677 => (if t677 < 0 then (some (-1)) else (laws_heldHostS.l0 k x0 t677 (wrap64 (x5 + 1)))))) else (some (-1))) else (none)) else (some x1)
def laws_heldHostS.f (k : Nat) (l0 : List (S97)) (a1 : Int) : Option (Int) := laws_heldHostS.l0 k l0 a1 0
set_option maxHeartbeats 8000000 in
set_option maxRecDepth 100000 in
theorem laws_heldHostS.calls (k : Nat) (A0 : Option Addr) (c0 : Nat) (l0 : List (S97)) (a1 : Int) (r : Int) (w : World) (hr0 : Kd.C k97 w A0 l0.length l0) (hc0 : l0.length ≤ c0) (h : laws_heldHostS.f k l0 a1 = some r) :
    Calls Try.prog 89 #[.slice A0 l0.length c0, .int .i64 a1] w fun e w' => e = .returned (.int .i64 r) ∧ Below w.heap.size w w' := by
  have HR0 := Aside0.mk hr0
  have HC0 := Aside0.mk hc0
  clear hr0 hc0
  have HB := Aside0.mk (Below.refl w.heap.size w)
  have H : (laws_heldHostS.l0 k l0 a1 0) = some r := h
  clear h
  have H' := Aside0.mk H
  clear H
  go_enter Try.func89, Try.ntmps89
  go_wp2
  go_loopg [1, 5] k (fun kq v1 v5 w' => ∃ (x1_1 : Int) (x5_1 : Int), v1 = .int .i64 x1_1 ∧ v5 = .int .i64 x5_1 ∧ Aside0 (laws_heldHostS.l0 kq l0 x1_1 x5_1 = some r) ∧ Aside0 (kq ≤ k) ∧ Aside0 (Below w.heap.size w w'))
  case atStart => exact ⟨(a1), (0), FR, FR, H', ⟨Nat.le_refl _⟩, ⟨(BB HB.out)⟩⟩
  case round =>
    clear H'
    try clear p2
    obtain ⟨x1_1, x5_1, rfl, rfl, HA, HK1, HB⟩ := hrel
    cases gk with
    | zero => exact absurd HA.out (by simp [laws_heldHostS.l0])
    | succ k1 =>
      have H := HA.out
      clear HA
      simp only [laws_heldHostS.l0] at H
      by_cases c3 : x5_1 < (l0.length : Int)
      · rw [if_pos c3] at H
        have c3b0 : decide (x5_1 < (l0.length : Int)) = true := decide_eq_true c3
        clear c3
        by_cases c4 : 0 ≤ x5_1
        · rw [if_pos c4] at H
          have c4b0 : decide (0 ≤ x5_1) = true := decide_eq_true c4
          clear c4
          by_cases c5 : ((rd_T97 l0 x5_1).f0) = x1_1
          · rw [if_pos c5] at H
            have c5b0 : (((rd_T97 l0 x5_1).f0) == x1_1) = true := beq_iff_eq.mpr c5
            have c5b1 : (((rd_T97 l0 x5_1).f0) != x1_1) = false := bne_eq_false_iff_eq.mpr c5
            clear c5
            by_cases c6 : (((rd_T97 l0 x5_1).f1) != ((Int.tmod (wrap64 (x1_1 + 1)) 3) == 0)) = true
            · rw [if_pos c6] at H
              have c6b0 : (((rd_T97 l0 x5_1).f1) != ((Int.tmod (wrap64 (x1_1 + 1)) 3) == 0)) = true := c6
              (try (have c6b1 : decide (((rd_T97 l0 x5_1).f1) = ((Int.tmod (wrap64 (x1_1 + 1)) 3) == 0)) = false := by simpa using c6))
              (try (have c6b2 : (((rd_T97 l0 x5_1).f1) == ((Int.tmod (wrap64 (x1_1 + 1)) 3) == 0)) = false := by simpa using c6))
              (try (have c6b3 : ¬ (((rd_T97 l0 x5_1).f1) = ((Int.tmod (wrap64 (x1_1 + 1)) 3) == 0)) := by simpa using c6))
              clear c6
              obtain rfl := Option.some.inj H
              have p674 : 0 ≤ (x5_1 : Int) := DT
              have q674 : x5_1 < (l0.length : Int) := DT
              obtain ⟨ad674, A674_2, c674_2, e674, hx674_0, hx674_1, hx674_2, hl674_2, hi674_2⟩ := at_T97 HR0.out x5_1 p674 q674
              cases e674
              replace hx674_0 := (HB.out.cell (World.block_lt_of_cell? w _ hx674_0)).trans hx674_0
              replace hx674_1 := (HB.out.cell (World.block_lt_of_cell? w _ hx674_1)).trans hx674_1
              replace hx674_2 := (HB.out.cell (World.block_lt_of_cell? w _ hx674_2)).trans hx674_2
              have HR674_2 := Aside0.mk hi674_2
              have HC674_2 := Aside0.mk hl674_2
              clear hi674_2 hl674_2
              replace p674 := eq_true p674
              replace q674 := eq_true q674
              have p675 : 0 ≤ (x5_1 : Int) := DT
              have q675 : x5_1 < (l0.length : Int) := DT
              obtain ⟨ad675, A675_2, c675_2, e675, hx675_0, hx675_1, hx675_2, hl675_2, hi675_2⟩ := at_T97 HR0.out x5_1 p675 q675
              obtain rfl : ad674 = ad675 := (by injection e675)
              replace hx675_0 := (HB.out.cell (World.block_lt_of_cell? w _ hx675_0)).trans hx675_0
              replace hx675_1 := (HB.out.cell (World.block_lt_of_cell? w _ hx675_1)).trans hx675_1
              replace hx675_2 := (HB.out.cell (World.block_lt_of_cell? w _ hx675_2)).trans hx675_2
              have HR675_2 := Aside0.mk hi675_2
              have HC675_2 := Aside0.mk hl675_2
              clear hi675_2 hl675_2
              replace p675 := eq_true p675
              replace q675 := eq_true q675
              have ea_ := Option.some.inj (hx674_2.symm.trans hx675_2)
              injection ea_ with ea_ en_ ec_
              subst ea_
              subst ec_
              clear en_
              go_wp2
              go_ret
              exact ⟨ER, (BB HB.out)⟩
            · rw [if_neg c6] at H
              have c6b0 : (((rd_T97 l0 x5_1).f1) != ((Int.tmod (wrap64 (x1_1 + 1)) 3) == 0)) = false := by simpa using c6
              (try (have c6b1 : decide (((rd_T97 l0 x5_1).f1) = ((Int.tmod (wrap64 (x1_1 + 1)) 3) == 0)) = true := by simpa using c6))
              (try (have c6b2 : (((rd_T97 l0 x5_1).f1) == ((Int.tmod (wrap64 (x1_1 + 1)) 3) == 0)) = true := by simpa using c6))
              clear c6
              replace H := Option.bind_eq_some_iff.mp H
              obtain ⟨t677, A70, H⟩ := H
              replace H : (if t677 < 0 then (some (-1)) else (laws_heldHostS.l0 k1 l0 t677 (wrap64 (x5_1 + 1)))) = some r := H
              have A7 := Aside0.mk A70
              clear A70
              by_cases c8 : t677 < 0
              · rw [if_pos c8] at H
                have c8b0 : decide (t677 < 0) = true := decide_eq_true c8
                clear c8
                obtain rfl := Option.some.inj H
                have p674 : 0 ≤ (x5_1 : Int) := DT
                have q674 : x5_1 < (l0.length : Int) := DT
                obtain ⟨ad674, A674_2, c674_2, e674, hx674_0, hx674_1, hx674_2, hl674_2, hi674_2⟩ := at_T97 HR0.out x5_1 p674 q674
                cases e674
                replace hx674_0 := (HB.out.cell (World.block_lt_of_cell? w _ hx674_0)).trans hx674_0
                replace hx674_1 := (HB.out.cell (World.block_lt_of_cell? w _ hx674_1)).trans hx674_1
                replace hx674_2 := (HB.out.cell (World.block_lt_of_cell? w _ hx674_2)).trans hx674_2
                have HR674_2 := Aside0.mk hi674_2
                have HC674_2 := Aside0.mk hl674_2
                clear hi674_2 hl674_2
                replace p674 := eq_true p674
                replace q674 := eq_true q674
                have p675 : 0 ≤ (x5_1 : Int) := DT
                have q675 : x5_1 < (l0.length : Int) := DT
                obtain ⟨ad675, A675_2, c675_2, e675, hx675_0, hx675_1, hx675_2, hl675_2, hi675_2⟩ := at_T97 HR0.out x5_1 p675 q675
                obtain rfl : ad674 = ad675 := (by injection e675)
                replace hx675_0 := (HB.out.cell (World.block_lt_of_cell? w _ hx675_0)).trans hx675_0
                replace hx675_1 := (HB.out.cell (World.block_lt_of_cell? w _ hx675_1)).trans hx675_1
                replace hx675_2 := (HB.out.cell (World.block_lt_of_cell? w _ hx675_2)).trans hx675_2
                have HR675_2 := Aside0.mk hi675_2
                have HC675_2 := Aside0.mk hl675_2
                clear hi675_2 hl675_2
                replace p675 := eq_true p675
                replace q675 := eq_true q675
                have ea_ := Option.some.inj (hx674_2.symm.trans hx675_2)
                injection ea_ with ea_ en_ ec_
                subst ea_
                subst ec_
                clear en_
                have p676 : 0 ≤ (x5_1 : Int) := DT
                have q676 : x5_1 < (l0.length : Int) := DT
                obtain ⟨ad676, A676_2, c676_2, e676, hx676_0, hx676_1, hx676_2, hl676_2, hi676_2⟩ := at_T97 HR0.out x5_1 p676 q676
                obtain rfl : ad674 = ad676 := (by injection e676)
                replace hx676_0 := (HB.out.cell (World.block_lt_of_cell? w _ hx676_0)).trans hx676_0
                replace hx676_1 := (HB.out.cell (World.block_lt_of_cell? w _ hx676_1)).trans hx676_1
                replace hx676_2 := (HB.out.cell (World.block_lt_of_cell? w _ hx676_2)).trans hx676_2
                have HR676_2 := Aside0.mk hi676_2
                have HC676_2 := Aside0.mk hl676_2
                clear hi676_2 hl676_2
                replace p676 := eq_true p676
                replace q676 := eq_true q676
                have ea_ := Option.some.inj (hx674_2.symm.trans hx676_2)
                injection ea_ with ea_ en_ ec_
                subst ea_
                subst ec_
                clear en_
                go_wp2_with (first | ((with_reducible refine gate_callee (f := 130) rfl ?_); refine GL (some 38) rfl rfl Try.func130 #[.slice A674_2 ((rd_T97 l0 x5_1).f2).length c674_2, .int .i64 (wrap64 ((wrap64 (x1_1 + 1)) + 1))] rfl ?_; (with_reducible refine (laws_heldUnitS.calls k1 _ _ ((rd_T97 l0 x5_1).f2) (wrap64 ((wrap64 (x1_1 + 1)) + 1)) t677 _ ?side1 ?side2 A7.out).mono ?_); (case side1 => exact CC (Kd.C_below HR676_2.out HB.out)); (case side2 => exact HC676_2.out); rintro e w9 ⟨rfl, hb⟩; refine ⟨_, rfl, ?_⟩; replace HB := Aside0.mk (below_step (BB HB.out) hb); (try clear hb)))
                go_ret
                exact ⟨ER, (BB HB.out)⟩
              · rw [if_neg c8] at H
                have c8b0 : decide (t677 < 0) = false := decide_eq_false c8
                clear c8
                have H' := Aside0.mk H
                clear H
                have p674 : 0 ≤ (x5_1 : Int) := DT
                have q674 : x5_1 < (l0.length : Int) := DT
                obtain ⟨ad674, A674_2, c674_2, e674, hx674_0, hx674_1, hx674_2, hl674_2, hi674_2⟩ := at_T97 HR0.out x5_1 p674 q674
                cases e674
                replace hx674_0 := (HB.out.cell (World.block_lt_of_cell? w _ hx674_0)).trans hx674_0
                replace hx674_1 := (HB.out.cell (World.block_lt_of_cell? w _ hx674_1)).trans hx674_1
                replace hx674_2 := (HB.out.cell (World.block_lt_of_cell? w _ hx674_2)).trans hx674_2
                have HR674_2 := Aside0.mk hi674_2
                have HC674_2 := Aside0.mk hl674_2
                clear hi674_2 hl674_2
                replace p674 := eq_true p674
                replace q674 := eq_true q674
                have p675 : 0 ≤ (x5_1 : Int) := DT
                have q675 : x5_1 < (l0.length : Int) := DT
                obtain ⟨ad675, A675_2, c675_2, e675, hx675_0, hx675_1, hx675_2, hl675_2, hi675_2⟩ := at_T97 HR0.out x5_1 p675 q675
                obtain rfl : ad674 = ad675 := (by injection e675)
                replace hx675_0 := (HB.out.cell (World.block_lt_of_cell? w _ hx675_0)).trans hx675_0
                replace hx675_1 := (HB.out.cell (World.block_lt_of_cell? w _ hx675_1)).trans hx675_1
                replace hx675_2 := (HB.out.cell (World.block_lt_of_cell? w _ hx675_2)).trans hx675_2
                have HR675_2 := Aside0.mk hi675_2
                have HC675_2 := Aside0.mk hl675_2
                clear hi675_2 hl675_2
                replace p675 := eq_true p675
                replace q675 := eq_true q675
                have ea_ := Option.some.inj (hx674_2.symm.trans hx675_2)
                injection ea_ with ea_ en_ ec_
                subst ea_
                subst ec_
                clear en_
                have p676 : 0 ≤ (x5_1 : Int) := DT
                have q676 : x5_1 < (l0.length : Int) := DT
                obtain ⟨ad676, A676_2, c676_2, e676, hx676_0, hx676_1, hx676_2, hl676_2, hi676_2⟩ := at_T97 HR0.out x5_1 p676 q676
                obtain rfl : ad674 = ad676 := (by injection e676)
                replace hx676_0 := (HB.out.cell (World.block_lt_of_cell? w _ hx676_0)).trans hx676_0
                replace hx676_1 := (HB.out.cell (World.block_lt_of_cell? w _ hx676_1)).trans hx676_1
                replace hx676_2 := (HB.out.cell (World.block_lt_of_cell? w _ hx676_2)).trans hx676_2
                have HR676_2 := Aside0.mk hi676_2
                have HC676_2 := Aside0.mk hl676_2
                clear hi676_2 hl676_2
                replace p676 := eq_true p676
                replace q676 := eq_true q676
                have ea_ := Option.some.inj (hx674_2.symm.trans hx676_2)
                injection ea_ with ea_ en_ ec_
                subst ea_
                subst ec_
                clear en_
                go_wp2_with (first | ((with_reducible refine gate_callee (f := 130) rfl ?_); refine GL (some 38) rfl rfl Try.func130 #[.slice A674_2 ((rd_T97 l0 x5_1).f2).length c674_2, .int .i64 (wrap64 ((wrap64 (x1_1 + 1)) + 1))] rfl ?_; (with_reducible refine (laws_heldUnitS.calls k1 _ _ ((rd_T97 l0 x5_1).f2) (wrap64 ((wrap64 (x1_1 + 1)) + 1)) t677 _ ?side1 ?side2 A7.out).mono ?_); (case side1 => exact CC (Kd.C_below HR676_2.out HB.out)); (case side2 => exact HC676_2.out); rintro e w10 ⟨rfl, hb⟩; refine ⟨_, rfl, ?_⟩; replace HB := Aside0.mk (below_step (BB HB.out) hb); (try clear hb)))
                go_roundg k1
                case measure => have := HK1.out; omega
                case rel => exact ⟨(t677), (wrap64 (x5_1 + 1)), FR, FR, H', ⟨by have := HK1.out; omega⟩, ⟨(BB HB.out)⟩⟩
          · rw [if_neg c5] at H
            have c5b0 : (((rd_T97 l0 x5_1).f0) == x1_1) = false := beq_eq_false_iff_ne.mpr c5
            have c5b1 : (((rd_T97 l0 x5_1).f0) != x1_1) = true := bne_iff_ne.mpr c5
            obtain rfl := Option.some.inj H
            have p674 : 0 ≤ (x5_1 : Int) := DT
            have q674 : x5_1 < (l0.length : Int) := DT
            obtain ⟨ad674, A674_2, c674_2, e674, hx674_0, hx674_1, hx674_2, hl674_2, hi674_2⟩ := at_T97 HR0.out x5_1 p674 q674
            cases e674
            replace hx674_0 := (HB.out.cell (World.block_lt_of_cell? w _ hx674_0)).trans hx674_0
            replace hx674_1 := (HB.out.cell (World.block_lt_of_cell? w _ hx674_1)).trans hx674_1
            replace hx674_2 := (HB.out.cell (World.block_lt_of_cell? w _ hx674_2)).trans hx674_2
            have HR674_2 := Aside0.mk hi674_2
            have HC674_2 := Aside0.mk hl674_2
            clear hi674_2 hl674_2
            replace p674 := eq_true p674
            replace q674 := eq_true q674
            go_wp2
            go_ret
            exact ⟨ER, (BB HB.out)⟩
        · rw [if_neg c4] at H
          exact absurd H (by simp)
      · rw [if_neg c3] at H
        have c3b0 : decide (x5_1 < (l0.length : Int)) = false := decide_eq_false c3
        clear c3
        obtain rfl := Option.some.inj H
        go_wp2
        go_ret
        exact ⟨ER, (BB HB.out)⟩

end Go.Proofs.Ytfgnaneajonapaa.Pr

namespace Go.Proofs.Ytfgnaneajonapaa.Pu
open Go.RowKit Go.Proofs.YtfgnaneajonapaaW.PrintWords Go.Proofs.Ytfgnaneajonapaa.Pr Go.Proofs.Ytfgnaneajonapaa.Evs Go.Proofs.Ytfgnaneajonapaa.Lw
set_option linter.unusedVariables false
theorem rdHost (p s : List S97) (x : S97) : rd_T97 (p ++ x :: s) (p.length : Int) = x := by unfold rd_T97; exact getD_mid' p s x _ _ rfl
theorem heldHostS_loop (s : List S97) : ∀ (q : List S97) (n : Int), 0 ≤ n → n + cntHostS s < 9223372036854775000 → q.length + s.length < 9223372036854775807 →
    Ev (fun k => laws_heldHostS.l0 k (q ++ mkHostS s n) n (q.length : Int)) (n + cntHostS s) := by
  induction s with
  | nil => intro q n h0 h1 hl; exact ev_step (fun k => laws_heldHostS.l0.eq_2 _ _ _ k) (ev_neg (by simp [mkHostS]) (ev_eq (ev_some _) (by simp [cntHostS])))
  | cons x s ih =>
    intro q n h0 h1 hl
    simp only [cntHostS] at h1
    rw [List.length_cons] at hl
    have hpos := cntHostS_pos s
    have hc : cntHost x = 2 + 4 * (x.f2.length : Int) := rfl
    have s1 : 0 ≤ n + cntHost x := by omega
    have s2 : n + cntHost x + cntHostS s < 9223372036854775000 := by omega
    have s3 : (q ++ [mkHost x n]).length + s.length < 9223372036854775807 := by rw [List.length_append, List.length_singleton]; omega
    have s4 : (((q ++ [mkHost x n]).length : Nat) : Int) = (q.length : Int) + 1 := by rw [List.length_append, List.length_singleton]; rfl
    have s5 : (q ++ [mkHost x n]) ++ mkHostS s (n + cntHost x) = q ++ mkHost x n :: mkHostS s (n + cntHost x) := by rw [List.append_assoc]; rfl
    have h := ih (q ++ [mkHost x n]) (n + cntHost x) s1 s2 s3
    rw [s4, s5] at h
    clear s1 s2 s3 s4 s5 ih
    have e1 : wrap64 (n + 1) = n + 1 := wrap_in (by omega) (by omega)
    have e2 : wrap64 (n + 1 + 1) = n + 1 + 1 := wrap_in (by omega) (by omega)
    have e0 : wrap64 ((q.length : Int) + 1) = (q.length : Int) + 1 := wrap_in (by omega) (by omega)
    have et : Int.tmod (n + 1) 3 = (n + 1) % 3 := Int.tmod_eq_emod_of_nonneg (by omega)
    simp only [mkHostS]
    refine ev_step (fun k => laws_heldHostS.l0.eq_2 _ _ _ k) ?_
    simp only [rdHost, e0, e1, e2, et]
    have e9 : mkHost x n = ⟨n, (n + 1) % 3 == 0, mkUnitS x.f2 (n + 1 + 1)⟩ := rfl
    have hlt : (q.length : Int) < ((q ++ mkHost x n :: mkHostS s (n + cntHost x)).length : Int) := by rw [List.length_append, List.length_cons]; omega
    have hge : (0 : Int) ≤ (q.length : Int) := Int.natCast_nonneg _
    generalize hrest : q ++ mkHost x n :: mkHostS s (n + cntHost x) = rest at hlt h ⊢
    refine ev_pos hlt ?_
    refine ev_pos hge ?_
    clear hlt hge hrest
    rw [e9]
    clear e9 et e0 e1 e2
    dsimp only
    refine ev_pos rfl ?_
    refine ev_neg (by simp) ?_
    refine ev_bind (heldUnitS_ev x.f2 _ (by omega) (by omega)) ?_
    have hng : ¬ (n + 1 + 1 + 4 * (x.f2.length : Int) < 0) := by omega
    refine ev_neg hng ?_
    have hr : n + cntHostS (x :: s) = n + cntHost x + cntHostS s := by simp only [cntHostS]; omega
    have hq : n + 1 + 1 + 4 * (x.f2.length : Int) = n + cntHost x := by omega
    rw [hr, hq]
    exact h
theorem heldHostS_ev (l : List S97) (n : Int) (h0 : 0 ≤ n) (h1 : n + cntHostS l < 9223372036854775000) (hl : l.length < 9223372036854775807) : Ev (fun k => laws_heldHostS.f k (mkHostS l n) n) (n + cntHostS l) := by
  unfold laws_heldHostS.f
  simpa using heldHostS_loop l [] n h0 h1 (by simpa using hl)
end Go.Proofs.Ytfgnaneajonapaa.Pu

namespace Go.Proofs.Ytfgnaneajonapaa.Pr
open Go.RowKit Go.Proofs.YtfgnaneajonapaaW.PrintWords Go.Proofs.YtfgnaneajonapaaW.PrintLast Go.Proofs.YtfgnaneajonapaaW.PrintMore
attribute [local go_sem] max2_int min2_int max_two min_two max_three min_three max_four min_four
set_option linter.unusedVariables false
set_option linter.unusedSimpArgs false
end Go.Proofs.Ytfgnaneajonapaa.Pr

namespace Go.Proofs.Ytfgnaneajonapaa.Pr
open Go.RowKit Go.Proofs.YtfgnaneajonapaaW.PrintWords Go.Proofs.YtfgnaneajonapaaW.PrintLast Go.Proofs.YtfgnaneajonapaaW.PrintMore
attribute [local go_sem] max2_int min2_int max_two min_two max_three min_three max_four min_four
set_option linter.unusedVariables false
set_option linter.unusedSimpArgs false
end Go.Proofs.Ytfgnaneajonapaa.Pr

namespace Go.Proofs.Ytfgnaneajonapaa.Pr
open Go.RowKit Go.Proofs.YtfgnaneajonapaaW.PrintWords Go.Proofs.YtfgnaneajonapaaW.PrintLast Go.Proofs.YtfgnaneajonapaaW.PrintMore
attribute [local go_sem] max2_int min2_int max_two min_two max_three min_three max_four min_four
set_option linter.unusedVariables false
set_option linter.unusedSimpArgs false
end Go.Proofs.Ytfgnaneajonapaa.Pr

namespace Go.Proofs.Ytfgnaneajonapaa.Pr
open Go.RowKit Go.Proofs.YtfgnaneajonapaaW.PrintWords Go.Proofs.YtfgnaneajonapaaW.PrintLast Go.Proofs.YtfgnaneajonapaaW.PrintMore
attribute [local go_sem] max2_int min2_int max_two min_two max_three min_three max_four min_four
set_option linter.unusedVariables false
set_option linter.unusedSimpArgs false
end Go.Proofs.Ytfgnaneajonapaa.Pr

namespace Go.Proofs.Ytfgnaneajonapaa.Pr
open Go.RowKit Go.Proofs.YtfgnaneajonapaaW.PrintWords Go.Proofs.YtfgnaneajonapaaW.PrintLast Go.Proofs.YtfgnaneajonapaaW.PrintMore
attribute [local go_sem] max2_int min2_int max_two min_two max_three min_three max_four min_four
set_option linter.unusedVariables false
set_option linter.unusedSimpArgs false
def laws_eqHost.f (k : Nat) (a0_0 : Int) (a0_1 : Bool) (l0_2 : List (S146)) (a1_0 : Int) (a1_1 : Bool) (l1_2 : List (S146)) : Option (Bool) := if a0_0 = a1_0 then (if (a0_1 != a1_1) = true then (some false) else ((laws_eqUnitS.f k l0_2 l1_2).bind fun t210 => (if t210 = true then (some true) else (some false)))) else (some false)
set_option maxHeartbeats 8000000 in
set_option maxRecDepth 100000 in
theorem laws_eqHost.calls (k : Nat) (a0_0 : Int) (a0_1 : Bool) (A0_2 : Option Addr) (c0_2 : Nat) (l0_2 : List (S146)) (a1_0 : Int) (a1_1 : Bool) (A1_2 : Option Addr) (c1_2 : Nat) (l1_2 : List (S146)) (r : Bool) (w : World) (hr0_2 : Kd.C k146 w A0_2 l0_2.length l0_2) (hc0_2 : l0_2.length ≤ c0_2) (hr1_2 : Kd.C k146 w A1_2 l1_2.length l1_2) (hc1_2 : l1_2.length ≤ c1_2) (h : laws_eqHost.f k a0_0 a0_1 l0_2 a1_0 a1_1 l1_2 = some r) (hr_ : Aside0 (r = true) := by exact ⟨rfl⟩) :
    Calls Try.prog 54 #[.agg #[.int .i64 a0_0, .bool a0_1, .slice A0_2 l0_2.length c0_2], .agg #[.int .i64 a1_0, .bool a1_1, .slice A1_2 l1_2.length c1_2]] w fun e w' => e = .returned (.bool r) ∧ Below w.heap.size w w' := by
  have hu97 := Try.underlying97
  have HR0_2 := Aside0.mk hr0_2
  have HC0_2 := Aside0.mk hc0_2
  clear hr0_2 hc0_2
  have HR1_2 := Aside0.mk hr1_2
  have HC1_2 := Aside0.mk hc1_2
  clear hr1_2 hc1_2
  have HB := Aside0.mk (Below.refl w.heap.size w)
  have H : (if a0_0 = a1_0 then (if (a0_1 != a1_1) = true then (some false) else ((laws_eqUnitS.f k l0_2 l1_2).bind fun t210 => (if t210 = true then (some true) else (some false)))) else (some false)) = some r := h
  clear h
  by_cases c3 : a0_0 = a1_0
  · rw [if_pos c3] at H
    have c3b0 : (a0_0 == a1_0) = true := beq_iff_eq.mpr c3
    have c3b1 : (a0_0 != a1_0) = false := bne_eq_false_iff_eq.mpr c3
    clear c3
    by_cases c4 : (a0_1 != a1_1) = true
    · rw [if_pos c4] at H
      have c4b0 : (a0_1 != a1_1) = true := c4
      (try (have c4b1 : decide (a0_1 = a1_1) = false := by simpa using c4))
      (try (have c4b2 : (a0_1 == a1_1) = false := by simpa using c4))
      (try (have c4b3 : ¬ (a0_1 = a1_1) := by simpa using c4))
      clear c4
      exact absurd ((Option.some.inj H).trans hr_.out) (by decide)
    · rw [if_neg c4] at H
      have c4b0 : (a0_1 != a1_1) = false := by simpa using c4
      (try (have c4b1 : decide (a0_1 = a1_1) = true := by simpa using c4))
      (try (have c4b2 : (a0_1 == a1_1) = true := by simpa using c4))
      clear c4
      replace H := Option.bind_eq_some_iff.mp H
      obtain ⟨t210, A50, H⟩ := H
      replace H : (if t210 = true then (some true) else (some false)) = some r := H
      have A5 := Aside0.mk A50
      clear A50
      by_cases c6 : t210 = true
      · subst c6
        have H1 : (some true) = some r := by rw [if_pos rfl] at H; exact H
        clear H
        have H := H1
        clear H1
        obtain rfl := Option.some.inj H
        go_enter Try.func54, Try.ntmps54
        go_wp2_with (first | ((with_reducible refine gate_dst (N := 2) rfl ?_); refine BX 2 #[.int .i64 a0_0, .bool a0_1, .slice A0_2 l0_2.length c0_2] 97 ?_; intro gb208 hg w7 hbox hb; have BK208 := Aside0.mk (hbox); have GW208 : Aside0 (w.heap.size ≤ gb208) := WG hg (BB HB.out); have GE208 := GW208; replace HB := Aside0.mk (below_step (BB HB.out) hb); clear hb hbox hg) | ((with_reducible refine gate_dst (N := 3) rfl ?_); refine BX 3 #[.int .i64 a1_0, .bool a1_1, .slice A1_2 l1_2.length c1_2] 97 ?_; intro gb209 hg w8 hbox hb; have BK209 := Aside0.mk (hbox); have GW209 : Aside0 (w.heap.size ≤ gb209) := WG hg (BB1 HB.out GE208.out); have GE209 := GW209; have NB208_209 := NL BK208.out hg; have NB209_208 := NG BK208.out hg; replace BK208 := Aside0.mk (KB BK208.out hb); replace HB := Aside0.mk (below_step (BB1 HB.out GE208.out) hb); clear hb hbox hg; have hnb9 := NB208_209.out; have hnc9 := NB209_208.out; have hcz10 := blk_cell BK208.out; have hfz10 := blk_frozen BK208.out; have hcz11 := blk_cell BK209.out; have hfz11 := blk_frozen BK209.out) | ((with_reducible refine gate_callee (f := 103) rfl ?_); refine GL (some 19) rfl rfl Try.func103 #[.slice A0_2 l0_2.length c0_2, .slice A1_2 l1_2.length c1_2] rfl ?_; (with_reducible refine (laws_eqUnitS.calls k _ _ l0_2 _ _ l1_2 true _ ?side1 ?side2 ?side3 ?side4 A5.out).mono ?_); (case side1 => exact CC (Kd.C_below HR0_2.out HB.out)); (case side2 => exact HC0_2.out); (case side3 => exact CC (Kd.C_below HR1_2.out HB.out)); (case side4 => exact HC1_2.out); rintro e w12 ⟨rfl, hb⟩; refine ⟨_, rfl, ?_⟩; replace BK208 := Aside0.mk (KB BK208.out hb); replace BK209 := Aside0.mk (KB BK209.out hb); replace HB := Aside0.mk (below_step (BB2 HB.out GE208.out GE209.out) hb); (try clear hb)))
        go_ret
        exact ⟨ER, (BB2 HB.out GE208.out GE209.out)⟩
      · replace c6 := Bool.eq_false_iff.mpr c6
        subst c6
        have H1 : (some false) = some r := by rw [if_neg (show ¬ (false = true) by decide)] at H; exact H
        clear H
        have H := H1
        clear H1
        exact absurd ((Option.some.inj H).trans hr_.out) (by decide)
  · rw [if_neg c3] at H
    have c3b0 : (a0_0 == a1_0) = false := beq_eq_false_iff_ne.mpr c3
    have c3b1 : (a0_0 != a1_0) = true := bne_iff_ne.mpr c3
    exact absurd ((Option.some.inj H).trans hr_.out) (by decide)

end Go.Proofs.Ytfgnaneajonapaa.Pr

namespace Go.Proofs.Ytfgnaneajonapaa.Pr
open Go.RowKit Go.Proofs.YtfgnaneajonapaaW.PrintWords Go.Proofs.YtfgnaneajonapaaW.PrintLast Go.Proofs.YtfgnaneajonapaaW.PrintMore
attribute [local go_sem] max2_int min2_int max_two min_two max_three min_three max_four min_four
set_option linter.unusedVariables false
set_option linter.unusedSimpArgs false
def laws_eqHostS.l0 : Nat → List (S97) → List (S97) → Int → Option (Bool)
  | 0, _, _, _ => none
  | k + 1, x0, x1, x5 => if x5 < (x0.length : Int) then (if 0 ≤ x5 then (if x5 < (x1.length : Int) then ((laws_eqHost.f k ((rd_T97 x0 x5).f0) ((rd_T97 x0 x5).f1) ((rd_T97 x0 x5).f2) ((rd_T97 x1 x5).f0) ((rd_T97 x1 x5).f1) ((rd_T97 x1 x5).f2)).bind fun t213 => (if t213 = true then (laws_eqHostS.l0 k x0 x1 (wrap64 (x5 + 1))) else (some false))) else (none)) else (none)) else (some true)
def laws_eqHostS.f (k : Nat) (l0 : List (S97)) (l1 : List (S97)) : Option (Bool) := if (l0.length : Int) = (l1.length : Int) then (laws_eqHostS.l0 k l0 l1 0) else (some false)
def laws_eqHostS.T6 : Bool × List (List Nat × List Nat) := (true, [([], []), ([], []), ([0, 1], [0, 1]), ([2], [2]), ([], []), ([], []), ([4, 5], [4, 5]), ([6], [6]), ([3, 7], [3, 7]), ([8], [8])])
def laws_eqHostS.B6 : List Nat := [0, 0, 3, 7, 0, 0, 48, 112, 255, 511]
theorem laws_eqHostS.tab6 : rtab .any (opsOf Try.f15 6) = laws_eqHostS.T6 := by kernel_rfl
theorem laws_eqHostS.bits6 : waitsOk laws_eqHostS.T6.2 laws_eqHostS.B6 = true := by kernel_rfl
set_option maxHeartbeats 8000000 in
set_option maxRecDepth 100000 in
theorem laws_eqHostS.calls (k : Nat) (A0 : Option Addr) (c0 : Nat) (l0 : List (S97)) (A1 : Option Addr) (c1 : Nat) (l1 : List (S97)) (r : Bool) (w : World) (hr0 : Kd.C k97 w A0 l0.length l0) (hc0 : l0.length ≤ c0) (hr1 : Kd.C k97 w A1 l1.length l1) (hc1 : l1.length ≤ c1) (h : laws_eqHostS.f k l0 l1 = some r) (hr_ : Aside0 (r = true) := by exact ⟨rfl⟩) :
    Calls Try.prog 15 #[.slice A0 l0.length c0, .slice A1 l1.length c1] w fun e w' => e = .returned (.bool r) ∧ Below w.heap.size w w' := by
  have hu97 := Try.underlying97
  have HR0 := Aside0.mk hr0
  have HC0 := Aside0.mk hc0
  clear hr0 hc0
  have HR1 := Aside0.mk hr1
  have HC1 := Aside0.mk hc1
  clear hr1 hc1
  have HB := Aside0.mk (Below.refl w.heap.size w)
  have H : (if (l0.length : Int) = (l1.length : Int) then (laws_eqHostS.l0 k l0 l1 0) else (some false)) = some r := h
  clear h
  by_cases c3 : (l0.length : Int) = (l1.length : Int)
  · rw [if_pos c3] at H
    have c3b0 : ((l0.length : Int) == (l1.length : Int)) = true := beq_iff_eq.mpr c3
    have c3b1 : ((l0.length : Int) != (l1.length : Int)) = false := bne_eq_false_iff_eq.mpr c3
    have c3b2 : (l0.length == l1.length) = true := by first | simpa using c3 | (simp at c3 ⊢; omega)
    clear c3
    have H' := Aside0.mk H
    clear H
    go_enter Try.func15, Try.ntmps15
    go_wp2
    go_loopg [5] k (fun kq v5 w' => ∃ (x5_1 : Int), v5 = .int .i64 x5_1 ∧ Aside0 (laws_eqHostS.l0 kq l0 l1 x5_1 = some r) ∧ Aside0 (kq ≤ k) ∧ Aside0 (Below w.heap.size w w'))
    case atStart => exact ⟨(0), FR, H', ⟨Nat.le_refl _⟩, ⟨(BB HB.out)⟩⟩
    case round =>
      clear H'
      try clear c1
      try clear p2
      try clear c3
      try clear c3b0
      try clear c3b1
      try clear c3b2
      obtain ⟨x5_1, rfl, HA, HK1, HB⟩ := hrel
      cases gk with
      | zero => exact absurd HA.out (by simp [laws_eqHostS.l0])
      | succ k1 =>
        have H := HA.out
        clear HA
        simp only [laws_eqHostS.l0] at H
        by_cases c4 : x5_1 < (l0.length : Int)
        · rw [if_pos c4] at H
          have c4b0 : decide (x5_1 < (l0.length : Int)) = true := decide_eq_true c4
          clear c4
          by_cases c5 : 0 ≤ x5_1
          · rw [if_pos c5] at H
            have c5b0 : decide (0 ≤ x5_1) = true := decide_eq_true c5
            clear c5
            by_cases c6 : x5_1 < (l1.length : Int)
            · rw [if_pos c6] at H
              have c6b0 : decide (x5_1 < (l1.length : Int)) = true := decide_eq_true c6
              clear c6
              replace H := Option.bind_eq_some_iff.mp H
              obtain ⟨t213, A70, H⟩ := H
              replace H : (if t213 = true then (laws_eqHostS.l0 k1 l0 l1 (wrap64 (x5_1 + 1))) else (some false)) = some r := H
              have A7 := Aside0.mk A70
              clear A70
              by_cases c8 : t213 = true
              · subst c8
                have H1 : (laws_eqHostS.l0 k1 l0 l1 (wrap64 (x5_1 + 1))) = some r := by rw [if_pos rfl] at H; exact H
                clear H
                have H := H1
                clear H1
                have H' := Aside0.mk H
                clear H
                try go_wp2
                have n0_ := Aside0.mk (below_drew1 HB.out)
                clear HB
                have HB := n0_
                clear n0_
                have p211 : 0 ≤ (x5_1 : Int) := DT
                have q211 : x5_1 < (l0.length : Int) := DT
                obtain ⟨ad211, A211_2, c211_2, e211, hx211_0, hx211_1, hx211_2, hl211_2, hi211_2⟩ := at_T97 HR0.out x5_1 p211 q211
                have hw211_2 := hx211_2
                have hw211_1 := hx211_1
                have hw211_0 := hx211_0
                cases e211
                replace hx211_0 := (HB.out.cell (World.block_lt_of_cell? w _ hx211_0)).trans hx211_0
                replace hx211_1 := (HB.out.cell (World.block_lt_of_cell? w _ hx211_1)).trans hx211_1
                replace hx211_2 := (HB.out.cell (World.block_lt_of_cell? w _ hx211_2)).trans hx211_2
                have HR211_2 := Aside0.mk hi211_2
                have HC211_2 := Aside0.mk hl211_2
                clear hi211_2 hl211_2
                replace p211 := eq_true p211
                replace q211 := eq_true q211
                have p212 : 0 ≤ (x5_1 : Int) := DT
                have q212 : x5_1 < (l1.length : Int) := DT
                obtain ⟨ad212, A212_2, c212_2, e212, hx212_0, hx212_1, hx212_2, hl212_2, hi212_2⟩ := at_T97 HR1.out x5_1 p212 q212
                have hw212_2 := hx212_2
                have hw212_1 := hx212_1
                have hw212_0 := hx212_0
                cases e212
                replace hx212_0 := (HB.out.cell (World.block_lt_of_cell? w _ hx212_0)).trans hx212_0
                replace hx212_1 := (HB.out.cell (World.block_lt_of_cell? w _ hx212_1)).trans hx212_1
                replace hx212_2 := (HB.out.cell (World.block_lt_of_cell? w _ hx212_2)).trans hx212_2
                have HR212_2 := Aside0.mk hi212_2
                have HC212_2 := Aside0.mk hl212_2
                clear hi212_2 hl212_2
                replace p212 := eq_true p212
                replace q212 := eq_true q212
                refine start_ (n := 10) (S := fun w' => w'.cell? (ad211.add ((x5_1).toNat * 3)) = some (.int .i64 ((rd_T97 l0 x5_1).f0)) ∧ w'.cell? ⟨(ad211.add ((x5_1).toNat * 3)).block, (ad211.add ((x5_1).toNat * 3)).off + 1, none⟩ = some (.bool ((rd_T97 l0 x5_1).f1)) ∧ w'.cell? ⟨(ad211.add ((x5_1).toNat * 3)).block, (ad211.add ((x5_1).toNat * 3)).off + 2, none⟩ = some (.slice A211_2 ((rd_T97 l0 x5_1).f2).length c211_2) ∧ w'.cell? (ad212.add ((x5_1).toNat * 3)) = some (.int .i64 ((rd_T97 l1 x5_1).f0)) ∧ w'.cell? ⟨(ad212.add ((x5_1).toNat * 3)).block, (ad212.add ((x5_1).toNat * 3)).off + 1, none⟩ = some (.bool ((rd_T97 l1 x5_1).f1)) ∧ w'.cell? ⟨(ad212.add ((x5_1).toNat * 3)).block, (ad212.add ((x5_1).toNat * 3)).off + 2, none⟩ = some (.slice A212_2 ((rd_T97 l1 x5_1).f2).length c212_2)) (ds := []) #[false, false, false, false, false, false, false, false, false, false] (by kernel_rfl) rfl rfl ⟨((HB.out.cell (World.block_lt_of_cell? w _ hw211_0)).trans hw211_0), ((HB.out.cell (World.block_lt_of_cell? w _ hw211_1)).trans hw211_1), ((HB.out.cell (World.block_lt_of_cell? w _ hw211_2)).trans hw211_2), ((HB.out.cell (World.block_lt_of_cell? w _ hw212_0)).trans hw212_0), ((HB.out.cell (World.block_lt_of_cell? w _ hw212_1)).trans hw212_1), ((HB.out.cell (World.block_lt_of_cell? w _ hw212_2)).trans hw212_2)⟩ (fun hHeld => ?_); refine with_tabW laws_eqHostS.tab6 laws_eqHostS.bits6 (fun HT_ HW_ => ?_)
                generalize wr.drew = w9 at HB HR211_2 HR212_2 hx211_0 hx211_1 hx211_2 hx212_0 hx212_1 hx212_2 hHeld ⊢
                refine pure_ (i := 0) (N := some 17) (v := ?_) (a' := ?_) #[true, false, false, false, false, false, false, false, false, false] rfl rfl (any_of HT_.out (by kernel_rfl)) (fun _ _ _ h => h) (Or.inl ⟨by rfl, ?_⟩) ?_ ?_
                rotate_left
                · intro w'
                  go_simp
                  with_reducible rfl
                rotate_left
                · simp only [Act.put, List.setIfInBounds_toArray, List.set_cons_zero, List.set_cons_succ, i64_w, i32_w]
                  rfl
                refine pure_ (i := 1) (N := some 18) (v := ?_) (a' := ?_) #[true, true, false, false, false, false, false, false, false, false] rfl rfl (any_of HT_.out (by kernel_rfl)) (fun _ _ _ h => h) (Or.inl ⟨by rfl, ?_⟩) ?_ ?_
                rotate_left
                · intro w'
                  go_simp
                  with_reducible rfl
                rotate_left
                · simp only [Act.put, List.setIfInBounds_toArray, List.set_cons_zero, List.set_cons_succ, i64_w, i32_w]
                  rfl
                refine pure_ (i := 2) (N := some 19) (v := ?_) (a' := ?_) #[true, true, true, false, false, false, false, false, false, false] rfl rfl (any_of HT_.out (by kernel_rfl)) (fun _ _ _ h => h) (Or.inl ⟨by rfl, ?_⟩) ?_ ?_
                rotate_left
                · intro w'
                  go_simp
                  with_reducible rfl
                rotate_left
                · simp only [Act.put, List.setIfInBounds_toArray, List.set_cons_zero, List.set_cons_succ, i64_w, i32_w]
                  rfl
                refine pure_ (i := 4) (N := some 21) (v := ?_) (a' := ?_) #[true, true, true, false, true, false, false, false, false, false] rfl rfl (any_of HT_.out (by kernel_rfl)) (fun _ _ _ h => h) (Or.inl ⟨by rfl, ?_⟩) ?_ ?_
                rotate_left
                · intro w'
                  go_simp
                  with_reducible rfl
                rotate_left
                · simp only [Act.put, List.setIfInBounds_toArray, List.set_cons_zero, List.set_cons_succ, i64_w, i32_w]
                  rfl
                refine pure_ (i := 5) (N := some 22) (v := ?_) (a' := ?_) #[true, true, true, false, true, true, false, false, false, false] rfl rfl (any_of HT_.out (by kernel_rfl)) (fun _ _ _ h => h) (Or.inl ⟨by rfl, ?_⟩) ?_ ?_
                rotate_left
                · intro w'
                  go_simp
                  with_reducible rfl
                rotate_left
                · simp only [Act.put, List.setIfInBounds_toArray, List.set_cons_zero, List.set_cons_succ, i64_w, i32_w]
                  rfl
                refine pure_ (i := 6) (N := some 23) (v := ?_) (a' := ?_) #[true, true, true, false, true, true, true, false, false, false] rfl rfl (any_of HT_.out (by kernel_rfl)) (fun _ _ _ h => h) (Or.inl ⟨by rfl, ?_⟩) ?_ ?_
                rotate_left
                · intro w'
                  go_simp
                  with_reducible rfl
                rotate_left
                · simp only [Act.put, List.setIfInBounds_toArray, List.set_cons_zero, List.set_cons_succ, i64_w, i32_w]
                  rfl
                refine take_ (i := 3) (N := some 20) (v := ?_) (a' := ?_) #[true, true, true, true, true, true, true, false, false, false] rfl rfl (take_ofW HT_.out HW_.out (by kernel_rfl)) (fun _ _ _ h => h) (Or.inl ⟨by rfl, ?_⟩) hHeld ?_ ?_
                rotate_left
                · rintro w' ⟨s0, s1, s2, s3, s4, s5⟩
                  go_simp
                  with_reducible rfl
                rotate_left
                · simp only [Act.put, List.setIfInBounds_toArray, List.set_cons_zero, List.set_cons_succ, i64_w, i32_w]
                  rfl
                refine take_ (i := 7) (N := some 24) (v := ?_) (a' := ?_) #[true, true, true, true, true, true, true, true, false, false] rfl rfl (take_ofW HT_.out HW_.out (by kernel_rfl)) (fun _ _ _ h => h) (Or.inl ⟨by rfl, ?_⟩) hHeld ?_ ?_
                rotate_left
                · rintro w' ⟨s0, s1, s2, s3, s4, s5⟩
                  go_simp
                  with_reducible rfl
                rotate_left
                · simp only [Act.put, List.setIfInBounds_toArray, List.set_cons_zero, List.set_cons_succ, i64_w, i32_w]
                  rfl
                refine one_ (i := 8) (N := some 25) #[true, true, true, true, true, true, true, true, true, false] rfl rfl (one_of HT_.out (by kernel_rfl)) (by decide) (fun K hK => ?_)
                refine goes_ Try.func54 (by kernel_rfl) rfl #[.agg #[.int .i64 ((rd_T97 l0 x5_1).f0), .bool ((rd_T97 l0 x5_1).f1), .slice A211_2 ((rd_T97 l0 x5_1).f2).length c211_2], .agg #[.int .i64 ((rd_T97 l1 x5_1).f0), .bool ((rd_T97 l1 x5_1).f1), .slice A212_2 ((rd_T97 l1 x5_1).f2).length c212_2]] (by rfl) rfl rfl (by (try simp only [List.map_toArray, List.map_cons, List.map_nil]); first | done | rfl | (simp only [List.length_drop, List.length_take]; rfl)) ?_
                with_reducible refine (laws_eqHost.calls k1 ((rd_T97 l0 x5_1).f0) ((rd_T97 l0 x5_1).f1) _ _ ((rd_T97 l0 x5_1).f2) ((rd_T97 l1 x5_1).f0) ((rd_T97 l1 x5_1).f1) _ _ ((rd_T97 l1 x5_1).f2) true _ ?side1 ?side2 ?side3 ?side4 A7.out).mono ?_
                (case side1 => exact CC (Kd.C_below HR211_2.out HB.out))
                (case side2 => exact HC211_2.out)
                (case side3 => exact CC (Kd.C_below HR212_2.out HB.out))
                (case side4 => exact HC212_2.out)
                rintro e w10 ⟨rfl, hb⟩
                refine ⟨_, rfl, ?_⟩
                have n0_ := Aside0.mk (below_step (BB HB.out) hb)
                clear HB
                have HB := n0_
                clear n0_
                (try clear hb)
                (try clear hb2)
                (try clear hk)
                (try clear hi)
                refine hK.out _ _ ⟨((HB.out.cell (World.block_lt_of_cell? w _ hw211_0)).trans hw211_0), ((HB.out.cell (World.block_lt_of_cell? w _ hw211_1)).trans hw211_1), ((HB.out.cell (World.block_lt_of_cell? w _ hw211_2)).trans hw211_2), ((HB.out.cell (World.block_lt_of_cell? w _ hw212_0)).trans hw212_0), ((HB.out.cell (World.block_lt_of_cell? w _ hw212_1)).trans hw212_1), ((HB.out.cell (World.block_lt_of_cell? w _ hw212_2)).trans hw212_2)⟩ (fun hHeld => ?_)
                clear hK K
                refine norm_ (a' := ?_) ?_ ?_
                rotate_left
                · show Act.put _ (some 25) _ = _
                  simp only [Act.put, List.setIfInBounds_toArray, List.set_cons_zero, List.set_cons_succ, i64_w, i32_w]
                  rfl
                refine pure_ (i := 9) (N := some 26) (v := ?_) (a' := ?_) #[true, true, true, true, true, true, true, true, true, true] rfl rfl (any_of HT_.out (by kernel_rfl)) (fun _ _ _ h => h) (Or.inl ⟨by rfl, ?_⟩) ?_ ?_
                rotate_left
                · intro w'
                  go_simp
                  with_reducible rfl
                rotate_left
                · simp only [Act.put, List.setIfInBounds_toArray, List.set_cons_zero, List.set_cons_succ, i64_w, i32_w]
                  rfl
                refine done_ (done_of HT_.out (by kernel_rfl)) ?_
                try go_wp2
                go_roundg k1
                case measure => have := HK1.out; omega
                case rel => exact ⟨(wrap64 (x5_1 + 1)), FR, H', ⟨by have := HK1.out; omega⟩, ⟨(BB HB.out)⟩⟩
              · replace c8 := Bool.eq_false_iff.mpr c8
                subst c8
                have H1 : (some false) = some r := by rw [if_neg (show ¬ (false = true) by decide)] at H; exact H
                clear H
                have H := H1
                clear H1
                exact absurd ((Option.some.inj H).trans hr_.out) (by decide)
            · rw [if_neg c6] at H
              exact absurd H (by simp)
          · rw [if_neg c5] at H
            exact absurd H (by simp)
        · rw [if_neg c4] at H
          have c4b0 : decide (x5_1 < (l0.length : Int)) = false := decide_eq_false c4
          clear c4
          obtain rfl := Option.some.inj H
          go_wp2
          go_ret
          exact ⟨ER, (BB HB.out)⟩
  · rw [if_neg c3] at H
    have c3b0 : ((l0.length : Int) == (l1.length : Int)) = false := beq_eq_false_iff_ne.mpr c3
    have c3b1 : ((l0.length : Int) != (l1.length : Int)) = true := bne_iff_ne.mpr c3
    have c3b2 : (l0.length == l1.length) = false := by first | simpa using c3 | (simp at c3 ⊢; omega)
    exact absurd ((Option.some.inj H).trans hr_.out) (by decide)

end Go.Proofs.Ytfgnaneajonapaa.Pr

namespace Go.Proofs.Ytfgnaneajonapaa.Lw
open Go.RowKit Go.Proofs.YtfgnaneajonapaaW.PrintWords Go.Proofs.Ytfgnaneajonapaa.Pr Go.Proofs.Ytfgnaneajonapaa.Evs
set_option linter.unusedVariables false
abbrev ImHost := S97
theorem rd97 (p s : List S97) (x : S97) : rd_T97 (p ++ x :: s) (p.length : Int) = x := by unfold rd_T97; exact getD_mid' p s x _ _ rfl
def lnHost (x : ImHost) : Prop := (x.f2.length < 9223372036854775000 ∧ ∀ y ∈ x.f2, lnUnit y)
theorem eqHost_refl (x : ImHost) (hx : lnHost x) : Ev (fun k => laws_eqHost.f k (x.f0) (x.f1) (x.f2) (x.f0) (x.f1) (x.f2)) true := by
  unfold lnHost at hx
  have h0 := hx
  unfold laws_eqHost.f
  repeat (first | with_reducible exact ev_some _ | with_reducible refine ev_pos rfl ?_ | with_reducible refine ev_neg (by simp; done) ?_ | with_reducible refine ev_bind (eqUnitS_ev x.f2 (by have := h0.1; omega)) ?_)
theorem eqHostS_loop (s : List ImHost) : ∀ (p : List ImHost), p.length + s.length < 9223372036854775807 → (∀ x ∈ s, lnHost x) → Ev (fun k => laws_eqHostS.l0 k (p ++ s) (p ++ s) (p.length : Int)) true := by
  induction s with
  | nil => intro p hl hs; exact ev_step (fun k => laws_eqHostS.l0.eq_2 _ _ _ k) (ev_neg (by simp) (ev_some _))
  | cons x s ih =>
    intro p hl hs
    simp at hl
    refine ev_step (fun k => laws_eqHostS.l0.eq_2 _ _ _ k) (ev_pos (by simp; omega) (ev_pos (by omega) (ev_pos (by simp; omega) (ev_bind (by simp only [rd97]; exact eqHost_refl x (hs x (by simp))) (ev_pos rfl ?_)))))
    rw [wrap_succ (by omega) (by omega)]
    simpa using ih (p ++ [x]) (by simp; omega) (fun y hy => hs y (by simp [hy]))
theorem eqHostS_ev (l : List ImHost) (hl : l.length < 9223372036854775807) (hs : ∀ x ∈ l, lnHost x) : Ev (fun k => laws_eqHostS.f k l l) true := by
  unfold laws_eqHostS.f
  refine ev_pos rfl ?_
  simpa using eqHostS_loop l [] (by simp; omega) hs
end Go.Proofs.Ytfgnaneajonapaa.Lw

namespace Go.Proofs.Ytfgnaneajonapaa.Pr
open Go.RowKit Go.Proofs.YtfgnaneajonapaaW.PrintWords Go.Proofs.YtfgnaneajonapaaW.PrintLast Go.Proofs.YtfgnaneajonapaaW.PrintMore
attribute [local go_sem] max2_int min2_int max_two min_two max_three min_three max_four min_four
set_option linter.unusedVariables false
set_option linter.unusedSimpArgs false
def laws_eqIntS.l0 : Nat → List Int → List Int → Int → Option (Bool)
  | 0, _, _, _ => none
  | k + 1, x0, x1, x5 => if x5 < (x0.length : Int) then (if 0 ≤ x5 then (if x5 < (x1.length : Int) then (if (rd x0 x5) = (rd x1 x5) then (laws_eqIntS.l0 k x0 x1 (wrap64 (x5 + 1))) else (some false)) else (none)) else (none)) else (some true)
def laws_eqIntS.f (k : Nat) (l0 : List Int) (l1 : List Int) : Option (Bool) := if (l0.length : Int) = (l1.length : Int) then (laws_eqIntS.l0 k l0 l1 0) else (some false)
set_option maxHeartbeats 8000000 in
set_option maxRecDepth 100000 in
theorem laws_eqIntS.calls (k : Nat) (A0 : Option Addr) (c0 : Nat) (l0 : List Int) (A1 : Option Addr) (c1 : Nat) (l1 : List Int) (r : Bool) (w : World) (hr0 : Kd.C (Kd.int .i64) w A0 l0.length l0) (hc0 : l0.length ≤ c0) (hr1 : Kd.C (Kd.int .i64) w A1 l1.length l1) (hc1 : l1.length ≤ c1) (h : laws_eqIntS.f k l0 l1 = some r) (hr_ : Aside0 (r = true) := by exact ⟨rfl⟩) :
    Calls Try.prog 32 #[.slice A0 l0.length c0, .slice A1 l1.length c1] w fun e w' => e = .returned (.bool r) ∧ Drawn0 w w' := by
  have HR0 := Aside0.mk hr0
  have HC0 := Aside0.mk hc0
  clear hr0 hc0
  have HR1 := Aside0.mk hr1
  have HC1 := Aside0.mk hc1
  clear hr1 hc1
  have H : (if (l0.length : Int) = (l1.length : Int) then (laws_eqIntS.l0 k l0 l1 0) else (some false)) = some r := h
  clear h
  by_cases c3 : (l0.length : Int) = (l1.length : Int)
  · rw [if_pos c3] at H
    have c3b0 : ((l0.length : Int) == (l1.length : Int)) = true := beq_iff_eq.mpr c3
    have c3b1 : ((l0.length : Int) != (l1.length : Int)) = false := bne_eq_false_iff_eq.mpr c3
    have c3b2 : (l0.length == l1.length) = true := by first | simpa using c3 | (simp at c3 ⊢; omega)
    clear c3
    have H' := Aside0.mk H
    clear H
    go_enter Try.func32, Try.ntmps32
    go_wp2
    repeat (go_quiet (fail); try go_wp2)
    go_loopg [5] k (fun kq v5 w' => ∃ (x5_1 : Int), v5 = .int .i64 x5_1 ∧ Aside0 (laws_eqIntS.l0 kq l0 l1 x5_1 = some r) ∧ Aside0 (kq ≤ k) ∧ Drawn0 w w')
    case atStart => exact ⟨(0), FR, H', ⟨Nat.le_refl _⟩, by repeat (first | exact Drawn0.refl _ | apply Drawn0.step)⟩
    case round =>
      clear H'
      try clear c1
      try clear p2
      try clear c3
      try clear c3b0
      try clear c3b1
      try clear c3b2
      obtain ⟨x5_1, rfl, HA, HK1, ⟨m1, rfl⟩⟩ := hrel
      cases gk with
      | zero => exact absurd HA.out (by simp [laws_eqIntS.l0])
      | succ k1 =>
        have H := HA.out
        clear HA
        simp only [laws_eqIntS.l0] at H
        by_cases c4 : x5_1 < (l0.length : Int)
        · rw [if_pos c4] at H
          have c4b0 : decide (x5_1 < (l0.length : Int)) = true := decide_eq_true c4
          clear c4
          by_cases c5 : 0 ≤ x5_1
          · rw [if_pos c5] at H
            have c5b0 : decide (0 ≤ x5_1) = true := decide_eq_true c5
            clear c5
            by_cases c6 : x5_1 < (l1.length : Int)
            · rw [if_pos c6] at H
              have c6b0 : decide (x5_1 < (l1.length : Int)) = true := decide_eq_true c6
              clear c6
              by_cases c7 : (rd l0 x5_1) = (rd l1 x5_1)
              · rw [if_pos c7] at H
                have c7b0 : ((rd l0 x5_1) == (rd l1 x5_1)) = true := beq_iff_eq.mpr c7
                have c7b1 : ((rd l0 x5_1) != (rd l1 x5_1)) = false := bne_eq_false_iff_eq.mpr c7
                clear c7
                have H' := Aside0.mk H
                clear H
                have p432 : 0 ≤ (x5_1 : Int) := DT
                have q432 : x5_1 < (l0.length : Int) := DT
                obtain ⟨ad432, e432, hx432_0⟩ := Kd.at_int HR0.out x5_1 p432 q432
                cases e432
                replace p432 := eq_true p432
                replace q432 := eq_true q432
                have p433 : 0 ≤ (x5_1 : Int) := DT
                have q433 : x5_1 < (l1.length : Int) := DT
                obtain ⟨ad433, e433, hx433_0⟩ := Kd.at_int HR1.out x5_1 p433 q433
                cases e433
                replace p433 := eq_true p433
                replace q433 := eq_true q433
                go_wp2
                repeat (go_quiet (fail); try go_wp2)
                go_roundg k1
                case measure => have := HK1.out; omega
                case rel => exact ⟨(wrap64 (x5_1 + 1)), FR, H', ⟨by have := HK1.out; omega⟩, by repeat (first | exact Drawn0.refl _ | apply Drawn0.step)⟩
              · rw [if_neg c7] at H
                have c7b0 : ((rd l0 x5_1) == (rd l1 x5_1)) = false := beq_eq_false_iff_ne.mpr c7
                have c7b1 : ((rd l0 x5_1) != (rd l1 x5_1)) = true := bne_iff_ne.mpr c7
                exact absurd ((Option.some.inj H).trans hr_.out) (by decide)
            · rw [if_neg c6] at H
              exact absurd H (by simp)
          · rw [if_neg c5] at H
            exact absurd H (by simp)
        · rw [if_neg c4] at H
          have c4b0 : decide (x5_1 < (l0.length : Int)) = false := decide_eq_false c4
          clear c4
          obtain rfl := Option.some.inj H
          go_wp2
          repeat (go_quiet (fail); try go_wp2)
          go_ret
          exact ⟨FR, by repeat (first | exact Drawn0.refl _ | apply Drawn0.step)⟩
  · rw [if_neg c3] at H
    have c3b0 : ((l0.length : Int) == (l1.length : Int)) = false := beq_eq_false_iff_ne.mpr c3
    have c3b1 : ((l0.length : Int) != (l1.length : Int)) = true := bne_iff_ne.mpr c3
    have c3b2 : (l0.length == l1.length) = false := by first | simpa using c3 | (simp at c3 ⊢; omega)
    exact absurd ((Option.some.inj H).trans hr_.out) (by decide)

end Go.Proofs.Ytfgnaneajonapaa.Pr

namespace Go.Proofs.Ytfgnaneajonapaa.Pr
open Go.RowKit Go.Proofs.YtfgnaneajonapaaW.PrintWords Go.Proofs.YtfgnaneajonapaaW.PrintLast Go.Proofs.YtfgnaneajonapaaW.PrintMore
attribute [local go_sem] max2_int min2_int max_two min_two max_three min_three max_four min_four
set_option linter.unusedVariables false
set_option linter.unusedSimpArgs false
end Go.Proofs.Ytfgnaneajonapaa.Pr

namespace Go.Proofs.Ytfgnaneajonapaa.Pr
open Go.RowKit Go.Proofs.YtfgnaneajonapaaW.PrintWords Go.Proofs.YtfgnaneajonapaaW.PrintLast Go.Proofs.YtfgnaneajonapaaW.PrintMore
attribute [local go_sem] max2_int min2_int max_two min_two max_three min_three max_four min_four
set_option linter.unusedVariables false
set_option linter.unusedSimpArgs false
end Go.Proofs.Ytfgnaneajonapaa.Pr

namespace Go.Proofs.Ytfgnaneajonapaa.Lw
open Go.RowKit Go.Proofs.YtfgnaneajonapaaW.PrintWords Go.Proofs.Ytfgnaneajonapaa.Pr Go.Proofs.Ytfgnaneajonapaa.Evs
set_option linter.unusedVariables false
theorem rdInt (p s : List Int) (x : Int) : rd (p ++ x :: s) (p.length : Int) = x := by unfold rd; exact getD_mid' p s x _ _ rfl
theorem eqIntS_loop (s : List Int) : ∀ (p : List Int), p.length + s.length < 9223372036854775807 → Ev (fun k => laws_eqIntS.l0 k (p ++ s) (p ++ s) (p.length : Int)) true := by
  induction s with
  | nil => intro p hl; exact ev_step (fun k => laws_eqIntS.l0.eq_2 _ _ _ k) (ev_neg (by simp) (ev_some _))
  | cons x s ih =>
    intro p hl
    simp at hl
    refine ev_step (fun k => laws_eqIntS.l0.eq_2 _ _ _ k) (ev_pos (by simp; omega) (ev_pos (by omega) (ev_pos (by simp; omega) ?_)))
    refine ev_pos (by first | rfl | simp) ?_
    rw [wrap_succ (by omega) (by omega)]
    simpa using ih (p ++ [x]) (by simp; omega)
theorem eqIntS_ev (l : List Int) (hl : l.length < 9223372036854775807) : Ev (fun k => laws_eqIntS.f k l l) true := by
  unfold laws_eqIntS.f
  refine ev_pos rfl ?_
  simpa using eqIntS_loop l [] (by simp; omega)
end Go.Proofs.Ytfgnaneajonapaa.Lw

namespace Go.Proofs.Ytfgnaneajonapaa.Pr
open Go.RowKit Go.Proofs.YtfgnaneajonapaaW.PrintWords Go.Proofs.YtfgnaneajonapaaW.PrintLast Go.Proofs.YtfgnaneajonapaaW.PrintMore
attribute [local go_sem] max2_int min2_int max_two min_two max_three min_three max_four min_four
set_option linter.unusedVariables false
set_option linter.unusedSimpArgs false
def laws_eqDisk.f (k : Nat) (l0_0 : List (S192)) (l1_0 : List (S192)) : Option (Bool) := (laws_eqFileS.f k l0_0 l1_0).bind fun t309 => (if t309 = true then (some true) else (some false))
set_option maxHeartbeats 8000000 in
set_option maxRecDepth 100000 in
theorem laws_eqDisk.calls (k : Nat) (A0_0 : Option Addr) (c0_0 : Nat) (l0_0 : List (S192)) (A1_0 : Option Addr) (c1_0 : Nat) (l1_0 : List (S192)) (r : Bool) (w : World) (hr0_0 : Kd.C k192 w A0_0 l0_0.length l0_0) (hc0_0 : l0_0.length ≤ c0_0) (hr1_0 : Kd.C k192 w A1_0 l1_0.length l1_0) (hc1_0 : l1_0.length ≤ c1_0) (h : laws_eqDisk.f k l0_0 l1_0 = some r) (hr_ : Aside0 (r = true) := by exact ⟨rfl⟩) :
    Calls Try.prog 64 #[.agg #[.slice A0_0 l0_0.length c0_0], .agg #[.slice A1_0 l1_0.length c1_0]] w fun e w' => e = .returned (.bool r) ∧ Below w.heap.size w w' := by
  have hu43 := Try.underlying43
  have HR0_0 := Aside0.mk hr0_0
  have HC0_0 := Aside0.mk hc0_0
  clear hr0_0 hc0_0
  have HR1_0 := Aside0.mk hr1_0
  have HC1_0 := Aside0.mk hc1_0
  clear hr1_0 hc1_0
  have HB := Aside0.mk (Below.refl w.heap.size w)
  have H : ((laws_eqFileS.f k l0_0 l1_0).bind fun t309 => (if t309 = true then (some true) else (some false))) = some r := h
  clear h
  replace H := Option.bind_eq_some_iff.mp H
  obtain ⟨t309, A30, H⟩ := H
  replace H : (if t309 = true then (some true) else (some false)) = some r := H
  have A3 := Aside0.mk A30
  clear A30
  by_cases c4 : t309 = true
  · subst c4
    have H1 : (some true) = some r := by rw [if_pos rfl] at H; exact H
    clear H
    have H := H1
    clear H1
    obtain rfl := Option.some.inj H
    go_enter Try.func64, Try.ntmps64
    go_wp2_with (first | ((with_reducible refine gate_dst (N := 2) rfl ?_); refine BX 2 #[.slice A0_0 l0_0.length c0_0] 43 ?_; intro gb307 hg w5 hbox hb; have BK307 := Aside0.mk (hbox); have GW307 : Aside0 (w.heap.size ≤ gb307) := WG hg (BB HB.out); have GE307 := GW307; replace HB := Aside0.mk (below_step (BB HB.out) hb); clear hb hbox hg) | ((with_reducible refine gate_dst (N := 3) rfl ?_); refine BX 3 #[.slice A1_0 l1_0.length c1_0] 43 ?_; intro gb308 hg w6 hbox hb; have BK308 := Aside0.mk (hbox); have GW308 : Aside0 (w.heap.size ≤ gb308) := WG hg (BB1 HB.out GE307.out); have GE308 := GW308; have NB307_308 := NL BK307.out hg; have NB308_307 := NG BK307.out hg; replace BK307 := Aside0.mk (KB BK307.out hb); replace HB := Aside0.mk (below_step (BB1 HB.out GE307.out) hb); clear hb hbox hg; have hnb7 := NB307_308.out; have hnc7 := NB308_307.out; have hcz8 := blk_cell BK307.out; have hfz8 := blk_frozen BK307.out; have hcz9 := blk_cell BK308.out; have hfz9 := blk_frozen BK308.out) | ((with_reducible refine gate_callee (f := 109) rfl ?_); refine GL (some 9) rfl rfl Try.func109 #[.slice A0_0 l0_0.length c0_0, .slice A1_0 l1_0.length c1_0] rfl ?_; (with_reducible refine (laws_eqFileS.calls k _ _ l0_0 _ _ l1_0 true _ ?side1 ?side2 ?side3 ?side4 A3.out).mono ?_); (case side1 => exact CC (Kd.C_below HR0_0.out HB.out)); (case side2 => exact HC0_0.out); (case side3 => exact CC (Kd.C_below HR1_0.out HB.out)); (case side4 => exact HC1_0.out); rintro e w10 ⟨rfl, hb⟩; refine ⟨_, rfl, ?_⟩; replace BK307 := Aside0.mk (KB BK307.out hb); replace BK308 := Aside0.mk (KB BK308.out hb); replace HB := Aside0.mk (below_step (BB2 HB.out GE307.out GE308.out) hb); (try clear hb)))
    go_ret
    exact ⟨ER, (BB2 HB.out GE307.out GE308.out)⟩
  · replace c4 := Bool.eq_false_iff.mpr c4
    subst c4
    have H1 : (some false) = some r := by rw [if_neg (show ¬ (false = true) by decide)] at H; exact H
    clear H
    have H := H1
    clear H1
    exact absurd ((Option.some.inj H).trans hr_.out) (by decide)

end Go.Proofs.Ytfgnaneajonapaa.Pr

namespace Go.Proofs.Ytfgnaneajonapaa.Pr
open Go.RowKit Go.Proofs.YtfgnaneajonapaaW.PrintWords Go.Proofs.YtfgnaneajonapaaW.PrintLast Go.Proofs.YtfgnaneajonapaaW.PrintMore
attribute [local go_sem] max2_int min2_int max_two min_two max_three min_three max_four min_four
set_option linter.unusedVariables false
set_option linter.unusedSimpArgs false
end Go.Proofs.Ytfgnaneajonapaa.Pr

namespace Go.Proofs.Ytfgnaneajonapaa.Pr
open Go.RowKit Go.Proofs.YtfgnaneajonapaaW.PrintWords Go.Proofs.YtfgnaneajonapaaW.PrintLast Go.Proofs.YtfgnaneajonapaaW.PrintMore
attribute [local go_sem] max2_int min2_int max_two min_two max_three min_three max_four min_four
set_option linter.unusedVariables false
set_option linter.unusedSimpArgs false
end Go.Proofs.Ytfgnaneajonapaa.Pr

namespace Go.Proofs.Ytfgnaneajonapaa.Lw
open Go.RowKit Go.Proofs.YtfgnaneajonapaaW.PrintWords Go.Proofs.Ytfgnaneajonapaa.Pr Go.Proofs.Ytfgnaneajonapaa.Evs
set_option linter.unusedVariables false
abbrev ImDisk := S43
def lnDisk (x : ImDisk) : Prop := (x.f0.length < 9223372036854775000 ∧ ∀ y ∈ x.f0, lnFile y)
theorem eqDisk_refl (x : ImDisk) (hx : lnDisk x) : Ev (fun k => laws_eqDisk.f k (x.f0) (x.f0)) true := by
  unfold lnDisk at hx
  have h0 := hx
  unfold laws_eqDisk.f
  repeat (first | with_reducible exact ev_some _ | with_reducible refine ev_pos rfl ?_ | with_reducible refine ev_neg (by simp; done) ?_ | with_reducible refine ev_bind (eqFileS_ev x.f0 (by have := h0.1; omega)) ?_)
end Go.Proofs.Ytfgnaneajonapaa.Lw

namespace Go.Proofs.Ytfgnaneajonapaa.Pr
open Go.RowKit Go.Proofs.YtfgnaneajonapaaW.PrintWords Go.Proofs.YtfgnaneajonapaaW.PrintLast Go.Proofs.YtfgnaneajonapaaW.PrintMore
attribute [local go_sem] max2_int min2_int max_two min_two max_three min_three max_four min_four
set_option linter.unusedVariables false
set_option linter.unusedSimpArgs false
def laws_eqTree.f (k : Nat) (l0_0 : List (S135)) (a0_1 : Int) (l1_0 : List (S135)) (a1_1 : Int) : Option (Bool) := (laws_eqInodeS.f k l0_0 l1_0).bind fun t301 => (if t301 = true then (if a0_1 = a1_1 then (some true) else (some false)) else (some false))
set_option maxHeartbeats 8000000 in
set_option maxRecDepth 100000 in
theorem laws_eqTree.calls (k : Nat) (A0_0 : Option Addr) (c0_0 : Nat) (l0_0 : List (S135)) (a0_1 : Int) (A1_0 : Option Addr) (c1_0 : Nat) (l1_0 : List (S135)) (a1_1 : Int) (r : Bool) (w : World) (hr0_0 : Kd.C k135 w A0_0 l0_0.length l0_0) (hc0_0 : l0_0.length ≤ c0_0) (hr1_0 : Kd.C k135 w A1_0 l1_0.length l1_0) (hc1_0 : l1_0.length ≤ c1_0) (h : laws_eqTree.f k l0_0 a0_1 l1_0 a1_1 = some r) (hr_ : Aside0 (r = true) := by exact ⟨rfl⟩) :
    Calls Try.prog 63 #[.agg #[.slice A0_0 l0_0.length c0_0, .int .i64 a0_1], .agg #[.slice A1_0 l1_0.length c1_0, .int .i64 a1_1]] w fun e w' => e = .returned (.bool r) ∧ Below w.heap.size w w' := by
  have hu40 := Try.underlying40
  have HR0_0 := Aside0.mk hr0_0
  have HC0_0 := Aside0.mk hc0_0
  clear hr0_0 hc0_0
  have HR1_0 := Aside0.mk hr1_0
  have HC1_0 := Aside0.mk hc1_0
  clear hr1_0 hc1_0
  have HB := Aside0.mk (Below.refl w.heap.size w)
  have H : ((laws_eqInodeS.f k l0_0 l1_0).bind fun t301 => (if t301 = true then (if a0_1 = a1_1 then (some true) else (some false)) else (some false))) = some r := h
  clear h
  replace H := Option.bind_eq_some_iff.mp H
  obtain ⟨t301, A30, H⟩ := H
  replace H : (if t301 = true then (if a0_1 = a1_1 then (some true) else (some false)) else (some false)) = some r := H
  have A3 := Aside0.mk A30
  clear A30
  by_cases c4 : t301 = true
  · subst c4
    have H1 : (if a0_1 = a1_1 then (some true) else (some false)) = some r := by rw [if_pos rfl] at H; exact H
    clear H
    have H := H1
    clear H1
    by_cases c5 : a0_1 = a1_1
    · rw [if_pos c5] at H
      have c5b0 : (a0_1 == a1_1) = true := beq_iff_eq.mpr c5
      have c5b1 : (a0_1 != a1_1) = false := bne_eq_false_iff_eq.mpr c5
      clear c5
      obtain rfl := Option.some.inj H
      go_enter Try.func63, Try.ntmps63
      go_wp2_with (first | ((with_reducible refine gate_dst (N := 2) rfl ?_); refine BX 2 #[.slice A0_0 l0_0.length c0_0, .int .i64 a0_1] 40 ?_; intro gb299 hg w6 hbox hb; have BK299 := Aside0.mk (hbox); have GW299 : Aside0 (w.heap.size ≤ gb299) := WG hg (BB HB.out); have GE299 := GW299; replace HB := Aside0.mk (below_step (BB HB.out) hb); clear hb hbox hg) | ((with_reducible refine gate_dst (N := 3) rfl ?_); refine BX 3 #[.slice A1_0 l1_0.length c1_0, .int .i64 a1_1] 40 ?_; intro gb300 hg w7 hbox hb; have BK300 := Aside0.mk (hbox); have GW300 : Aside0 (w.heap.size ≤ gb300) := WG hg (BB1 HB.out GE299.out); have GE300 := GW300; have NB299_300 := NL BK299.out hg; have NB300_299 := NG BK299.out hg; replace BK299 := Aside0.mk (KB BK299.out hb); replace HB := Aside0.mk (below_step (BB1 HB.out GE299.out) hb); clear hb hbox hg; have hnb8 := NB299_300.out; have hnc8 := NB300_299.out; have hcz9 := blk_cell BK299.out; have hfz9 := blk_frozen BK299.out; have hcz10 := blk_cell BK300.out; have hfz10 := blk_frozen BK300.out) | ((with_reducible refine gate_callee (f := 108) rfl ?_); refine GL (some 9) rfl rfl Try.func108 #[.slice A0_0 l0_0.length c0_0, .slice A1_0 l1_0.length c1_0] rfl ?_; (with_reducible refine (laws_eqInodeS.calls k _ _ l0_0 _ _ l1_0 true _ ?side1 ?side2 ?side3 ?side4 A3.out).mono ?_); (case side1 => exact CC (Kd.C_below HR0_0.out HB.out)); (case side2 => exact HC0_0.out); (case side3 => exact CC (Kd.C_below HR1_0.out HB.out)); (case side4 => exact HC1_0.out); rintro e w11 ⟨rfl, hb⟩; refine ⟨_, rfl, ?_⟩; replace BK299 := Aside0.mk (KB BK299.out hb); replace BK300 := Aside0.mk (KB BK300.out hb); replace HB := Aside0.mk (below_step (BB2 HB.out GE299.out GE300.out) hb); (try clear hb); have hcz12 := blk_cell BK299.out; have hfz12 := blk_frozen BK299.out; have hcz13 := blk_cell BK300.out; have hfz13 := blk_frozen BK300.out))
      go_ret
      exact ⟨ER, (BB2 HB.out GE299.out GE300.out)⟩
    · rw [if_neg c5] at H
      have c5b0 : (a0_1 == a1_1) = false := beq_eq_false_iff_ne.mpr c5
      have c5b1 : (a0_1 != a1_1) = true := bne_iff_ne.mpr c5
      exact absurd ((Option.some.inj H).trans hr_.out) (by decide)
  · replace c4 := Bool.eq_false_iff.mpr c4
    subst c4
    have H1 : (some false) = some r := by rw [if_neg (show ¬ (false = true) by decide)] at H; exact H
    clear H
    have H := H1
    clear H1
    exact absurd ((Option.some.inj H).trans hr_.out) (by decide)

end Go.Proofs.Ytfgnaneajonapaa.Pr

namespace Go.Proofs.Ytfgnaneajonapaa.Pr
open Go.RowKit Go.Proofs.YtfgnaneajonapaaW.PrintWords Go.Proofs.YtfgnaneajonapaaW.PrintLast Go.Proofs.YtfgnaneajonapaaW.PrintMore
attribute [local go_sem] max2_int min2_int max_two min_two max_three min_three max_four min_four
set_option linter.unusedVariables false
set_option linter.unusedSimpArgs false
end Go.Proofs.Ytfgnaneajonapaa.Pr

namespace Go.Proofs.Ytfgnaneajonapaa.Pr
open Go.RowKit Go.Proofs.YtfgnaneajonapaaW.PrintWords Go.Proofs.YtfgnaneajonapaaW.PrintLast Go.Proofs.YtfgnaneajonapaaW.PrintMore
attribute [local go_sem] max2_int min2_int max_two min_two max_three min_three max_four min_four
set_option linter.unusedVariables false
set_option linter.unusedSimpArgs false
end Go.Proofs.Ytfgnaneajonapaa.Pr

namespace Go.Proofs.Ytfgnaneajonapaa.Lw
open Go.RowKit Go.Proofs.YtfgnaneajonapaaW.PrintWords Go.Proofs.Ytfgnaneajonapaa.Pr Go.Proofs.Ytfgnaneajonapaa.Evs
set_option linter.unusedVariables false
abbrev ImTree := S40
def lnTree (x : ImTree) : Prop := (x.f0.length < 9223372036854775000 ∧ ∀ y ∈ x.f0, lnInode y)
theorem eqTree_refl (x : ImTree) (hx : lnTree x) : Ev (fun k => laws_eqTree.f k (x.f0) (x.f1) (x.f0) (x.f1)) true := by
  unfold lnTree at hx
  have h0 := hx
  unfold laws_eqTree.f
  repeat (first | with_reducible exact ev_some _ | with_reducible refine ev_pos rfl ?_ | with_reducible refine ev_neg (by simp; done) ?_ | with_reducible refine ev_bind (eqInodeS_ev x.f0 (by have := h0.1; omega) h0.2) ?_)
end Go.Proofs.Ytfgnaneajonapaa.Lw

namespace Go.Proofs.Ytfgnaneajonapaa.Pr
open Go.RowKit Go.Proofs.YtfgnaneajonapaaW.PrintWords Go.Proofs.YtfgnaneajonapaaW.PrintLast Go.Proofs.YtfgnaneajonapaaW.PrintMore
attribute [local go_sem] max2_int min2_int max_two min_two max_three min_three max_four min_four
set_option linter.unusedVariables false
set_option linter.unusedSimpArgs false
def laws_eqServer.f (k : Nat) (a0_0 : Bool) (l0_1 : List (S135)) (a0_2 : Int) (a0_3 : Int) (l0_4 : List (S192)) (l0_5 : List (S120)) (a0_6 : Int) (a1_0 : Bool) (l1_1 : List (S135)) (a1_2 : Int) (a1_3 : Int) (l1_4 : List (S192)) (l1_5 : List (S120)) (a1_6 : Int) : Option (Bool) := if (a0_0 != a1_0) = true then (some false) else ((laws_eqTree.f k l0_1 a0_2 l1_1 a1_2).bind fun t317 => (if t317 = true then (if a0_3 = a1_3 then ((laws_eqDisk.f k l0_4 l1_4).bind fun t318 => (if t318 = true then ((laws_eqLeaseS.f k l0_5 l1_5).bind fun t319 => (if t319 = true then (if a0_6 = a1_6 then (some true) else (some false)) else (some false))) else (some false))) else (some false)) else (some false)))
set_option maxHeartbeats 8000000 in
set_option maxRecDepth 100000 in
theorem laws_eqServer.calls (k : Nat) (a0_0 : Bool) (A0_1 : Option Addr) (c0_1 : Nat) (l0_1 : List (S135)) (a0_2 : Int) (a0_3 : Int) (A0_4 : Option Addr) (c0_4 : Nat) (l0_4 : List (S192)) (A0_5 : Option Addr) (c0_5 : Nat) (l0_5 : List (S120)) (a0_6 : Int) (a1_0 : Bool) (A1_1 : Option Addr) (c1_1 : Nat) (l1_1 : List (S135)) (a1_2 : Int) (a1_3 : Int) (A1_4 : Option Addr) (c1_4 : Nat) (l1_4 : List (S192)) (A1_5 : Option Addr) (c1_5 : Nat) (l1_5 : List (S120)) (a1_6 : Int) (r : Bool) (w : World) (hr0_1 : Kd.C k135 w A0_1 l0_1.length l0_1) (hc0_1 : l0_1.length ≤ c0_1) (hr0_4 : Kd.C k192 w A0_4 l0_4.length l0_4) (hc0_4 : l0_4.length ≤ c0_4) (hr0_5 : Kd.C k120 w A0_5 l0_5.length l0_5) (hc0_5 : l0_5.length ≤ c0_5) (hr1_1 : Kd.C k135 w A1_1 l1_1.length l1_1) (hc1_1 : l1_1.length ≤ c1_1) (hr1_4 : Kd.C k192 w A1_4 l1_4.length l1_4) (hc1_4 : l1_4.length ≤ c1_4) (hr1_5 : Kd.C k120 w A1_5 l1_5.length l1_5) (hc1_5 : l1_5.length ≤ c1_5) (h : laws_eqServer.f k a0_0 l0_1 a0_2 a0_3 l0_4 l0_5 a0_6 a1_0 l1_1 a1_2 a1_3 l1_4 l1_5 a1_6 = some r) (hr_ : Aside0 (r = true) := by exact ⟨rfl⟩) :
    Calls Try.prog 27 #[.agg #[.bool a0_0, .slice A0_1 l0_1.length c0_1, .int .i64 a0_2, .int .i64 a0_3, .slice A0_4 l0_4.length c0_4, .slice A0_5 l0_5.length c0_5, .int .i64 a0_6], .agg #[.bool a1_0, .slice A1_1 l1_1.length c1_1, .int .i64 a1_2, .int .i64 a1_3, .slice A1_4 l1_4.length c1_4, .slice A1_5 l1_5.length c1_5, .int .i64 a1_6]] w fun e w' => e = .returned (.bool r) ∧ Below w.heap.size w w' := by
  have hu46 := Try.underlying46
  have hu40 := Try.underlying40
  have hu43 := Try.underlying43
  have HR0_1 := Aside0.mk hr0_1
  have HC0_1 := Aside0.mk hc0_1
  clear hr0_1 hc0_1
  have HR0_4 := Aside0.mk hr0_4
  have HC0_4 := Aside0.mk hc0_4
  clear hr0_4 hc0_4
  have HR0_5 := Aside0.mk hr0_5
  have HC0_5 := Aside0.mk hc0_5
  clear hr0_5 hc0_5
  have HR1_1 := Aside0.mk hr1_1
  have HC1_1 := Aside0.mk hc1_1
  clear hr1_1 hc1_1
  have HR1_4 := Aside0.mk hr1_4
  have HC1_4 := Aside0.mk hc1_4
  clear hr1_4 hc1_4
  have HR1_5 := Aside0.mk hr1_5
  have HC1_5 := Aside0.mk hc1_5
  clear hr1_5 hc1_5
  have HB := Aside0.mk (Below.refl w.heap.size w)
  have H : (if (a0_0 != a1_0) = true then (some false) else ((laws_eqTree.f k l0_1 a0_2 l1_1 a1_2).bind fun t317 => (if t317 = true then (if a0_3 = a1_3 then ((laws_eqDisk.f k l0_4 l1_4).bind fun t318 => (if t318 = true then ((laws_eqLeaseS.f k l0_5 l1_5).bind fun t319 => (if t319 = true then (if a0_6 = a1_6 then (some true) else (some false)) else (some false))) else (some false))) else (some false)) else (some false)))) = some r := h
  clear h
  by_cases c3 : (a0_0 != a1_0) = true
  · rw [if_pos c3] at H
    have c3b0 : (a0_0 != a1_0) = true := c3
    (try (have c3b1 : decide (a0_0 = a1_0) = false := by simpa using c3))
    (try (have c3b2 : (a0_0 == a1_0) = false := by simpa using c3))
    (try (have c3b3 : ¬ (a0_0 = a1_0) := by simpa using c3))
    clear c3
    exact absurd ((Option.some.inj H).trans hr_.out) (by decide)
  · rw [if_neg c3] at H
    have c3b0 : (a0_0 != a1_0) = false := by simpa using c3
    (try (have c3b1 : decide (a0_0 = a1_0) = true := by simpa using c3))
    (try (have c3b2 : (a0_0 == a1_0) = true := by simpa using c3))
    clear c3
    replace H := Option.bind_eq_some_iff.mp H
    obtain ⟨t317, A40, H⟩ := H
    replace H : (if t317 = true then (if a0_3 = a1_3 then ((laws_eqDisk.f k l0_4 l1_4).bind fun t318 => (if t318 = true then ((laws_eqLeaseS.f k l0_5 l1_5).bind fun t319 => (if t319 = true then (if a0_6 = a1_6 then (some true) else (some false)) else (some false))) else (some false))) else (some false)) else (some false)) = some r := H
    have A4 := Aside0.mk A40
    clear A40
    by_cases c5 : t317 = true
    · subst c5
      have H1 : (if a0_3 = a1_3 then ((laws_eqDisk.f k l0_4 l1_4).bind fun t318 => (if t318 = true then ((laws_eqLeaseS.f k l0_5 l1_5).bind fun t319 => (if t319 = true then (if a0_6 = a1_6 then (some true) else (some false)) else (some false))) else (some false))) else (some false)) = some r := by rw [if_pos rfl] at H; exact H
      clear H
      have H := H1
      clear H1
      by_cases c6 : a0_3 = a1_3
      · rw [if_pos c6] at H
        have c6b0 : (a0_3 == a1_3) = true := beq_iff_eq.mpr c6
        have c6b1 : (a0_3 != a1_3) = false := bne_eq_false_iff_eq.mpr c6
        clear c6
        replace H := Option.bind_eq_some_iff.mp H
        obtain ⟨t318, A70, H⟩ := H
        replace H : (if t318 = true then ((laws_eqLeaseS.f k l0_5 l1_5).bind fun t319 => (if t319 = true then (if a0_6 = a1_6 then (some true) else (some false)) else (some false))) else (some false)) = some r := H
        have A7 := Aside0.mk A70
        clear A70
        by_cases c8 : t318 = true
        · subst c8
          have H1 : ((laws_eqLeaseS.f k l0_5 l1_5).bind fun t319 => (if t319 = true then (if a0_6 = a1_6 then (some true) else (some false)) else (some false))) = some r := by rw [if_pos rfl] at H; exact H
          clear H
          have H := H1
          clear H1
          replace H := Option.bind_eq_some_iff.mp H
          obtain ⟨t319, A90, H⟩ := H
          replace H : (if t319 = true then (if a0_6 = a1_6 then (some true) else (some false)) else (some false)) = some r := H
          have A9 := Aside0.mk A90
          clear A90
          by_cases c10 : t319 = true
          · subst c10
            have H1 : (if a0_6 = a1_6 then (some true) else (some false)) = some r := by rw [if_pos rfl] at H; exact H
            clear H
            have H := H1
            clear H1
            by_cases c11 : a0_6 = a1_6
            · rw [if_pos c11] at H
              have c11b0 : (a0_6 == a1_6) = true := beq_iff_eq.mpr c11
              have c11b1 : (a0_6 != a1_6) = false := bne_eq_false_iff_eq.mpr c11
              clear c11
              obtain rfl := Option.some.inj H
              go_enter Try.func27, Try.ntmps27
              go_wp2_with (first | ((with_reducible refine gate_dst (N := 2) rfl ?_); refine BX 2 #[.bool a0_0, .slice A0_1 l0_1.length c0_1, .int .i64 a0_2, .int .i64 a0_3, .slice A0_4 l0_4.length c0_4, .slice A0_5 l0_5.length c0_5, .int .i64 a0_6] 46 ?_; intro gb315 hg w12 hbox hb; have BK315 := Aside0.mk (hbox); have GW315 : Aside0 (w.heap.size ≤ gb315) := WG hg (BB HB.out); have GE315 := GW315; replace HB := Aside0.mk (below_step (BB HB.out) hb); clear hb hbox hg) | ((with_reducible refine gate_dst (N := 3) rfl ?_); refine BX 3 #[.bool a1_0, .slice A1_1 l1_1.length c1_1, .int .i64 a1_2, .int .i64 a1_3, .slice A1_4 l1_4.length c1_4, .slice A1_5 l1_5.length c1_5, .int .i64 a1_6] 46 ?_; intro gb316 hg w13 hbox hb; have BK316 := Aside0.mk (hbox); have GW316 : Aside0 (w.heap.size ≤ gb316) := WG hg (BB1 HB.out GE315.out); have GE316 := GW316; have NB315_316 := NL BK315.out hg; have NB316_315 := NG BK315.out hg; replace BK315 := Aside0.mk (KB BK315.out hb); replace HB := Aside0.mk (below_step (BB1 HB.out GE315.out) hb); clear hb hbox hg; have hnb14 := NB315_316.out; have hnc14 := NB316_315.out; have hcz15 := blk_cell BK315.out; have hfz15 := blk_frozen BK315.out; have hcz16 := blk_cell BK316.out; have hfz16 := blk_frozen BK316.out) | ((with_reducible refine gate_callee (f := 63) rfl ?_); refine GL (some 14) rfl rfl Try.func63 #[.agg #[.slice A0_1 l0_1.length c0_1, .int .i64 a0_2], .agg #[.slice A1_1 l1_1.length c1_1, .int .i64 a1_2]] rfl ?_; (with_reducible refine (laws_eqTree.calls k _ _ l0_1 a0_2 _ _ l1_1 a1_2 true _ ?side1 ?side2 ?side3 ?side4 A4.out).mono ?_); (case side1 => exact CC (Kd.C_below HR0_1.out HB.out)); (case side2 => exact HC0_1.out); (case side3 => exact CC (Kd.C_below HR1_1.out HB.out)); (case side4 => exact HC1_1.out); rintro e w17 ⟨rfl, hb⟩; refine ⟨_, rfl, ?_⟩; replace BK315 := Aside0.mk (KB BK315.out hb); replace BK316 := Aside0.mk (KB BK316.out hb); replace HB := Aside0.mk (below_step (BB2 HB.out GE315.out GE316.out) hb); (try clear hb); have hcz18 := blk_cell BK315.out; have hfz18 := blk_frozen BK315.out; have hcz19 := blk_cell BK316.out; have hfz19 := blk_frozen BK316.out) | ((with_reducible refine gate_callee (f := 64) rfl ?_); refine GL (some 25) rfl rfl Try.func64 #[.agg #[.slice A0_4 l0_4.length c0_4], .agg #[.slice A1_4 l1_4.length c1_4]] rfl ?_; (with_reducible refine (laws_eqDisk.calls k _ _ l0_4 _ _ l1_4 true _ ?side1 ?side2 ?side3 ?side4 A7.out).mono ?_); (case side1 => exact CC (Kd.C_below HR0_4.out HB.out)); (case side2 => exact HC0_4.out); (case side3 => exact CC (Kd.C_below HR1_4.out HB.out)); (case side4 => exact HC1_4.out); rintro e w20 ⟨rfl, hb⟩; refine ⟨_, rfl, ?_⟩; replace BK315 := Aside0.mk (KB BK315.out hb); replace BK316 := Aside0.mk (KB BK316.out hb); replace HB := Aside0.mk (below_step (BB2 HB.out GE315.out GE316.out) hb); (try clear hb); have hcz21 := blk_cell BK315.out; have hfz21 := blk_frozen BK315.out; have hcz22 := blk_cell BK316.out; have hfz22 := blk_frozen BK316.out) | ((with_reducible refine gate_callee (f := 65) rfl ?_); refine GL (some 31) rfl rfl Try.func65 #[.slice A0_5 l0_5.length c0_5, .slice A1_5 l1_5.length c1_5] rfl ?_; (with_reducible refine (laws_eqLeaseS.calls k _ _ l0_5 _ _ l1_5 true _ ?side1 ?side2 ?side3 ?side4 A9.out).mono ?_); (case side1 => exact CC (Kd.C_below HR0_5.out HB.out)); (case side2 => exact HC0_5.out); (case side3 => exact CC (Kd.C_below HR1_5.out HB.out)); (case side4 => exact HC1_5.out); rintro e w23 ⟨rfl, hb⟩; refine ⟨_, rfl, ?_⟩; replace BK315 := Aside0.mk (KB BK315.out hb); replace BK316 := Aside0.mk (KB BK316.out hb); replace HB := Aside0.mk (below_step (BB2 HB.out GE315.out GE316.out) hb); (try clear hb); have hcz24 := blk_cell BK315.out; have hfz24 := blk_frozen BK315.out; have hcz25 := blk_cell BK316.out; have hfz25 := blk_frozen BK316.out))
              go_ret
              exact ⟨ER, (BB2 HB.out GE315.out GE316.out)⟩
            · rw [if_neg c11] at H
              have c11b0 : (a0_6 == a1_6) = false := beq_eq_false_iff_ne.mpr c11
              have c11b1 : (a0_6 != a1_6) = true := bne_iff_ne.mpr c11
              exact absurd ((Option.some.inj H).trans hr_.out) (by decide)
          · replace c10 := Bool.eq_false_iff.mpr c10
            subst c10
            have H1 : (some false) = some r := by rw [if_neg (show ¬ (false = true) by decide)] at H; exact H
            clear H
            have H := H1
            clear H1
            exact absurd ((Option.some.inj H).trans hr_.out) (by decide)
        · replace c8 := Bool.eq_false_iff.mpr c8
          subst c8
          have H1 : (some false) = some r := by rw [if_neg (show ¬ (false = true) by decide)] at H; exact H
          clear H
          have H := H1
          clear H1
          exact absurd ((Option.some.inj H).trans hr_.out) (by decide)
      · rw [if_neg c6] at H
        have c6b0 : (a0_3 == a1_3) = false := beq_eq_false_iff_ne.mpr c6
        have c6b1 : (a0_3 != a1_3) = true := bne_iff_ne.mpr c6
        exact absurd ((Option.some.inj H).trans hr_.out) (by decide)
    · replace c5 := Bool.eq_false_iff.mpr c5
      subst c5
      have H1 : (some false) = some r := by rw [if_neg (show ¬ (false = true) by decide)] at H; exact H
      clear H
      have H := H1
      clear H1
      exact absurd ((Option.some.inj H).trans hr_.out) (by decide)

end Go.Proofs.Ytfgnaneajonapaa.Pr

namespace Go.Proofs.Ytfgnaneajonapaa.Pr
open Go.RowKit Go.Proofs.YtfgnaneajonapaaW.PrintWords Go.Proofs.YtfgnaneajonapaaW.PrintLast Go.Proofs.YtfgnaneajonapaaW.PrintMore
attribute [local go_sem] max2_int min2_int max_two min_two max_three min_three max_four min_four
set_option linter.unusedVariables false
set_option linter.unusedSimpArgs false
end Go.Proofs.Ytfgnaneajonapaa.Pr

namespace Go.Proofs.Ytfgnaneajonapaa.Pr
open Go.RowKit Go.Proofs.YtfgnaneajonapaaW.PrintWords Go.Proofs.YtfgnaneajonapaaW.PrintLast Go.Proofs.YtfgnaneajonapaaW.PrintMore
attribute [local go_sem] max2_int min2_int max_two min_two max_three min_three max_four min_four
set_option linter.unusedVariables false
set_option linter.unusedSimpArgs false
end Go.Proofs.Ytfgnaneajonapaa.Pr

namespace Go.Proofs.Ytfgnaneajonapaa.Lw
open Go.RowKit Go.Proofs.YtfgnaneajonapaaW.PrintWords Go.Proofs.Ytfgnaneajonapaa.Pr Go.Proofs.Ytfgnaneajonapaa.Evs
set_option linter.unusedVariables false
abbrev ImServer := S46
def lnServer (x : ImServer) : Prop := (lnTree x.f1) ∧ (lnDisk x.f3) ∧ (x.f4.length < 9223372036854775000 ∧ ∀ y ∈ x.f4, lnLease y)
theorem eqServer_refl (x : ImServer) (hx : lnServer x) : Ev (fun k => laws_eqServer.f k (x.f0) (x.f1.f0) (x.f1.f1) (x.f2) (x.f3.f0) (x.f4) (x.f5) (x.f0) (x.f1.f0) (x.f1.f1) (x.f2) (x.f3.f0) (x.f4) (x.f5)) true := by
  unfold lnServer at hx
  obtain ⟨h0, h1, h2⟩ := hx
  unfold laws_eqServer.f
  repeat (first | with_reducible exact ev_some _ | with_reducible refine ev_pos rfl ?_ | with_reducible refine ev_neg (by simp; done) ?_ | with_reducible refine ev_bind (eqTree_refl x.f1 h0) ?_ | with_reducible refine ev_bind (eqDisk_refl x.f3 h1) ?_ | with_reducible refine ev_bind (eqLeaseS_ev x.f4 (by have := h2.1; omega)) ?_)
end Go.Proofs.Ytfgnaneajonapaa.Lw

namespace Go.Proofs.Ytfgnaneajonapaa.Pr
open Go.RowKit Go.Proofs.YtfgnaneajonapaaW.PrintWords Go.Proofs.YtfgnaneajonapaaW.PrintLast Go.Proofs.YtfgnaneajonapaaW.PrintMore
attribute [local go_sem] max2_int min2_int max_two min_two max_three min_three max_four min_four
set_option linter.unusedVariables false
set_option linter.unusedSimpArgs false
end Go.Proofs.Ytfgnaneajonapaa.Pr

namespace Go.Proofs.Ytfgnaneajonapaa.Pr
open Go.RowKit Go.Proofs.YtfgnaneajonapaaW.PrintWords Go.Proofs.YtfgnaneajonapaaW.PrintLast Go.Proofs.YtfgnaneajonapaaW.PrintMore
attribute [local go_sem] max2_int min2_int max_two min_two max_three min_three max_four min_four
set_option linter.unusedVariables false
set_option linter.unusedSimpArgs false
end Go.Proofs.Ytfgnaneajonapaa.Pr

namespace Go.Proofs.Ytfgnaneajonapaa.Pr
open Go.RowKit Go.Proofs.YtfgnaneajonapaaW.PrintWords Go.Proofs.YtfgnaneajonapaaW.PrintLast Go.Proofs.YtfgnaneajonapaaW.PrintMore
attribute [local go_sem] max2_int min2_int max_two min_two max_three min_three max_four min_four
set_option linter.unusedVariables false
set_option linter.unusedSimpArgs false
def laws_eqSize.f (a0_0 : Int) (a0_1 : ByteArray) (a1_0 : Int) (a1_1 : ByteArray) : Option (Bool) := if a0_0 = a1_0 then (if a0_1.toList = a1_1.toList then (some true) else (some false)) else (some false)
set_option maxHeartbeats 8000000 in
set_option maxRecDepth 100000 in
theorem laws_eqSize.calls (a0_0 : Int) (a0_1 : ByteArray) (a1_0 : Int) (a1_1 : ByteArray) (r : Bool) (w : World) (h : laws_eqSize.f a0_0 a0_1 a1_0 a1_1 = some r) (hr_ : Aside0 (r = true) := by exact ⟨rfl⟩) :
    Calls Try.prog 129 #[.agg #[.int .i64 a0_0, .string a0_1], .agg #[.int .i64 a1_0, .string a1_1]] w fun e w' => e = .returned (.bool r) ∧ Below w.heap.size w w' := by
  have hu168 := Try.underlying168
  have HB := Aside0.mk (Below.refl w.heap.size w)
  have H : (if a0_0 = a1_0 then (if a0_1.toList = a1_1.toList then (some true) else (some false)) else (some false)) = some r := h
  clear h
  by_cases c3 : a0_0 = a1_0
  · rw [if_pos c3] at H
    have c3b0 : (a0_0 == a1_0) = true := beq_iff_eq.mpr c3
    have c3b1 : (a0_0 != a1_0) = false := bne_eq_false_iff_eq.mpr c3
    clear c3
    by_cases c4 : a0_1.toList = a1_1.toList
    · rw [if_pos c4] at H
      have c4b0 : (a0_1.toList == a1_1.toList) = true := beq_iff_eq.mpr c4
      have c4b1 : (a0_1.toList != a1_1.toList) = false := bne_eq_false_iff_eq.mpr c4
      clear c4
      obtain rfl := Option.some.inj H
      go_enter Try.func129, Try.ntmps129
      go_wp2_with (first | ((with_reducible refine gate_dst (N := 2) rfl ?_); refine BX 2 #[.int .i64 a0_0, .string a0_1] 168 ?_; intro gb653 hg w5 hbox hb; have BK653 := Aside0.mk (hbox); have GW653 : Aside0 (w.heap.size ≤ gb653) := WG hg (BB HB.out); have GE653 := GW653; replace HB := Aside0.mk (below_step (BB HB.out) hb); clear hb hbox hg) | ((with_reducible refine gate_dst (N := 3) rfl ?_); refine BX 3 #[.int .i64 a1_0, .string a1_1] 168 ?_; intro gb654 hg w6 hbox hb; have BK654 := Aside0.mk (hbox); have GW654 : Aside0 (w.heap.size ≤ gb654) := WG hg (BB1 HB.out GE653.out); have GE654 := GW654; have NB653_654 := NL BK653.out hg; have NB654_653 := NG BK653.out hg; replace BK653 := Aside0.mk (KB BK653.out hb); replace HB := Aside0.mk (below_step (BB1 HB.out GE653.out) hb); clear hb hbox hg; have hnb7 := NB653_654.out; have hnc7 := NB654_653.out; have hcz8 := blk_cell BK653.out; have hfz8 := blk_frozen BK653.out; have hcz9 := blk_cell BK654.out; have hfz9 := blk_frozen BK654.out))
      go_ret
      exact ⟨ER, (BB2 HB.out GE653.out GE654.out)⟩
    · rw [if_neg c4] at H
      have c4b0 : (a0_1.toList == a1_1.toList) = false := beq_eq_false_iff_ne.mpr c4
      have c4b1 : (a0_1.toList != a1_1.toList) = true := bne_iff_ne.mpr c4
      exact absurd ((Option.some.inj H).trans hr_.out) (by decide)
  · rw [if_neg c3] at H
    have c3b0 : (a0_0 == a1_0) = false := beq_eq_false_iff_ne.mpr c3
    have c3b1 : (a0_0 != a1_0) = true := bne_iff_ne.mpr c3
    exact absurd ((Option.some.inj H).trans hr_.out) (by decide)

end Go.Proofs.Ytfgnaneajonapaa.Pr

namespace Go.Proofs.Ytfgnaneajonapaa.Pr
open Go.RowKit Go.Proofs.YtfgnaneajonapaaW.PrintWords Go.Proofs.YtfgnaneajonapaaW.PrintLast Go.Proofs.YtfgnaneajonapaaW.PrintMore
attribute [local go_sem] max2_int min2_int max_two min_two max_three min_three max_four min_four
set_option linter.unusedVariables false
set_option linter.unusedSimpArgs false
end Go.Proofs.Ytfgnaneajonapaa.Pr

namespace Go.Proofs.Ytfgnaneajonapaa.Pr
open Go.RowKit Go.Proofs.YtfgnaneajonapaaW.PrintWords Go.Proofs.YtfgnaneajonapaaW.PrintLast Go.Proofs.YtfgnaneajonapaaW.PrintMore
attribute [local go_sem] max2_int min2_int max_two min_two max_three min_three max_four min_four
set_option linter.unusedVariables false
set_option linter.unusedSimpArgs false
def laws_eqSizeS.l0 : Nat → List (S168) → List (S168) → Int → Option (Bool)
  | 0, _, _, _ => none
  | k + 1, x0, x1, x5 => if x5 < (x0.length : Int) then (if 0 ≤ x5 then (if x5 < (x1.length : Int) then ((laws_eqSize.f ((rd_T168 x0 x5).f0) ((rd_T168 x0 x5).f1) ((rd_T168 x1 x5).f0) ((rd_T168 x1 x5).f1)).bind fun t657 => (if t657 = true then (laws_eqSizeS.l0 k x0 x1 (wrap64 (x5 + 1))) else (some false))) else (none)) else (none)) else (some true)
def laws_eqSizeS.f (k : Nat) (l0 : List (S168)) (l1 : List (S168)) : Option (Bool) := if (l0.length : Int) = (l1.length : Int) then (laws_eqSizeS.l0 k l0 l1 0) else (some false)
def laws_eqSizeS.T6 : Bool × List (List Nat × List Nat) := (true, [([], []), ([], []), ([0, 1], [0, 1]), ([2], [2]), ([], []), ([], []), ([4, 5], [4, 5]), ([6], [6]), ([3, 7], [3, 7]), ([8], [8])])
def laws_eqSizeS.B6 : List Nat := [0, 0, 3, 7, 0, 0, 48, 112, 255, 511]
theorem laws_eqSizeS.tab6 : rtab .any (opsOf Try.f87 6) = laws_eqSizeS.T6 := by kernel_rfl
theorem laws_eqSizeS.bits6 : waitsOk laws_eqSizeS.T6.2 laws_eqSizeS.B6 = true := by kernel_rfl
set_option maxHeartbeats 8000000 in
set_option maxRecDepth 100000 in
theorem laws_eqSizeS.calls (k : Nat) (A0 : Option Addr) (c0 : Nat) (l0 : List (S168)) (A1 : Option Addr) (c1 : Nat) (l1 : List (S168)) (r : Bool) (w : World) (hr0 : Kd.C k168 w A0 l0.length l0) (hc0 : l0.length ≤ c0) (hr1 : Kd.C k168 w A1 l1.length l1) (hc1 : l1.length ≤ c1) (h : laws_eqSizeS.f k l0 l1 = some r) (hr_ : Aside0 (r = true) := by exact ⟨rfl⟩) :
    Calls Try.prog 87 #[.slice A0 l0.length c0, .slice A1 l1.length c1] w fun e w' => e = .returned (.bool r) ∧ Below w.heap.size w w' := by
  have hu168 := Try.underlying168
  have HR0 := Aside0.mk hr0
  have HC0 := Aside0.mk hc0
  clear hr0 hc0
  have HR1 := Aside0.mk hr1
  have HC1 := Aside0.mk hc1
  clear hr1 hc1
  have HB := Aside0.mk (Below.refl w.heap.size w)
  have H : (if (l0.length : Int) = (l1.length : Int) then (laws_eqSizeS.l0 k l0 l1 0) else (some false)) = some r := h
  clear h
  by_cases c3 : (l0.length : Int) = (l1.length : Int)
  · rw [if_pos c3] at H
    have c3b0 : ((l0.length : Int) == (l1.length : Int)) = true := beq_iff_eq.mpr c3
    have c3b1 : ((l0.length : Int) != (l1.length : Int)) = false := bne_eq_false_iff_eq.mpr c3
    have c3b2 : (l0.length == l1.length) = true := by first | simpa using c3 | (simp at c3 ⊢; omega)
    clear c3
    have H' := Aside0.mk H
    clear H
    go_enter Try.func87, Try.ntmps87
    go_wp2
    go_loopg [5] k (fun kq v5 w' => ∃ (x5_1 : Int), v5 = .int .i64 x5_1 ∧ Aside0 (laws_eqSizeS.l0 kq l0 l1 x5_1 = some r) ∧ Aside0 (kq ≤ k) ∧ Aside0 (Below w.heap.size w w'))
    case atStart => exact ⟨(0), FR, H', ⟨Nat.le_refl _⟩, ⟨(BB HB.out)⟩⟩
    case round =>
      clear H'
      try clear c1
      try clear p2
      try clear c3
      try clear c3b0
      try clear c3b1
      try clear c3b2
      obtain ⟨x5_1, rfl, HA, HK1, HB⟩ := hrel
      cases gk with
      | zero => exact absurd HA.out (by simp [laws_eqSizeS.l0])
      | succ k1 =>
        have H := HA.out
        clear HA
        simp only [laws_eqSizeS.l0] at H
        by_cases c4 : x5_1 < (l0.length : Int)
        · rw [if_pos c4] at H
          have c4b0 : decide (x5_1 < (l0.length : Int)) = true := decide_eq_true c4
          clear c4
          by_cases c5 : 0 ≤ x5_1
          · rw [if_pos c5] at H
            have c5b0 : decide (0 ≤ x5_1) = true := decide_eq_true c5
            clear c5
            by_cases c6 : x5_1 < (l1.length : Int)
            · rw [if_pos c6] at H
              have c6b0 : decide (x5_1 < (l1.length : Int)) = true := decide_eq_true c6
              clear c6
              replace H := Option.bind_eq_some_iff.mp H
              obtain ⟨t657, A70, H⟩ := H
              replace H : (if t657 = true then (laws_eqSizeS.l0 k1 l0 l1 (wrap64 (x5_1 + 1))) else (some false)) = some r := H
              have A7 := Aside0.mk A70
              clear A70
              by_cases c8 : t657 = true
              · subst c8
                have H1 : (laws_eqSizeS.l0 k1 l0 l1 (wrap64 (x5_1 + 1))) = some r := by rw [if_pos rfl] at H; exact H
                clear H
                have H := H1
                clear H1
                have H' := Aside0.mk H
                clear H
                try go_wp2
                have n0_ := Aside0.mk (below_drew1 HB.out)
                clear HB
                have HB := n0_
                clear n0_
                have p655 : 0 ≤ (x5_1 : Int) := DT
                have q655 : x5_1 < (l0.length : Int) := DT
                obtain ⟨ad655, e655, hx655_0, hx655_1⟩ := at_T168 HR0.out x5_1 p655 q655
                have hw655_1 := hx655_1
                have hw655_0 := hx655_0
                cases e655
                replace hx655_0 := (HB.out.cell (World.block_lt_of_cell? w _ hx655_0)).trans hx655_0
                replace hx655_1 := (HB.out.cell (World.block_lt_of_cell? w _ hx655_1)).trans hx655_1
                replace p655 := eq_true p655
                replace q655 := eq_true q655
                have p656 : 0 ≤ (x5_1 : Int) := DT
                have q656 : x5_1 < (l1.length : Int) := DT
                obtain ⟨ad656, e656, hx656_0, hx656_1⟩ := at_T168 HR1.out x5_1 p656 q656
                have hw656_1 := hx656_1
                have hw656_0 := hx656_0
                cases e656
                replace hx656_0 := (HB.out.cell (World.block_lt_of_cell? w _ hx656_0)).trans hx656_0
                replace hx656_1 := (HB.out.cell (World.block_lt_of_cell? w _ hx656_1)).trans hx656_1
                replace p656 := eq_true p656
                replace q656 := eq_true q656
                refine start_ (n := 10) (S := fun w' => w'.cell? (ad655.add ((x5_1).toNat * 2)) = some (.int .i64 ((rd_T168 l0 x5_1).f0)) ∧ w'.cell? ⟨(ad655.add ((x5_1).toNat * 2)).block, (ad655.add ((x5_1).toNat * 2)).off + 1, none⟩ = some (.string ((rd_T168 l0 x5_1).f1)) ∧ w'.cell? (ad656.add ((x5_1).toNat * 2)) = some (.int .i64 ((rd_T168 l1 x5_1).f0)) ∧ w'.cell? ⟨(ad656.add ((x5_1).toNat * 2)).block, (ad656.add ((x5_1).toNat * 2)).off + 1, none⟩ = some (.string ((rd_T168 l1 x5_1).f1))) (ds := []) #[false, false, false, false, false, false, false, false, false, false] (by kernel_rfl) rfl rfl ⟨((HB.out.cell (World.block_lt_of_cell? w _ hw655_0)).trans hw655_0), ((HB.out.cell (World.block_lt_of_cell? w _ hw655_1)).trans hw655_1), ((HB.out.cell (World.block_lt_of_cell? w _ hw656_0)).trans hw656_0), ((HB.out.cell (World.block_lt_of_cell? w _ hw656_1)).trans hw656_1)⟩ (fun hHeld => ?_); refine with_tabW laws_eqSizeS.tab6 laws_eqSizeS.bits6 (fun HT_ HW_ => ?_)
                generalize wr.drew = w9 at HB hx655_0 hx655_1 hx656_0 hx656_1 hHeld ⊢
                refine pure_ (i := 0) (N := some 17) (v := ?_) (a' := ?_) #[true, false, false, false, false, false, false, false, false, false] rfl rfl (any_of HT_.out (by kernel_rfl)) (fun _ _ _ h => h) (Or.inl ⟨by rfl, ?_⟩) ?_ ?_
                rotate_left
                · intro w'
                  go_simp
                  with_reducible rfl
                rotate_left
                · simp only [Act.put, List.setIfInBounds_toArray, List.set_cons_zero, List.set_cons_succ, i64_w, i32_w]
                  rfl
                refine pure_ (i := 1) (N := some 18) (v := ?_) (a' := ?_) #[true, true, false, false, false, false, false, false, false, false] rfl rfl (any_of HT_.out (by kernel_rfl)) (fun _ _ _ h => h) (Or.inl ⟨by rfl, ?_⟩) ?_ ?_
                rotate_left
                · intro w'
                  go_simp
                  with_reducible rfl
                rotate_left
                · simp only [Act.put, List.setIfInBounds_toArray, List.set_cons_zero, List.set_cons_succ, i64_w, i32_w]
                  rfl
                refine pure_ (i := 2) (N := some 19) (v := ?_) (a' := ?_) #[true, true, true, false, false, false, false, false, false, false] rfl rfl (any_of HT_.out (by kernel_rfl)) (fun _ _ _ h => h) (Or.inl ⟨by rfl, ?_⟩) ?_ ?_
                rotate_left
                · intro w'
                  go_simp
                  with_reducible rfl
                rotate_left
                · simp only [Act.put, List.setIfInBounds_toArray, List.set_cons_zero, List.set_cons_succ, i64_w, i32_w]
                  rfl
                refine pure_ (i := 4) (N := some 21) (v := ?_) (a' := ?_) #[true, true, true, false, true, false, false, false, false, false] rfl rfl (any_of HT_.out (by kernel_rfl)) (fun _ _ _ h => h) (Or.inl ⟨by rfl, ?_⟩) ?_ ?_
                rotate_left
                · intro w'
                  go_simp
                  with_reducible rfl
                rotate_left
                · simp only [Act.put, List.setIfInBounds_toArray, List.set_cons_zero, List.set_cons_succ, i64_w, i32_w]
                  rfl
                refine pure_ (i := 5) (N := some 22) (v := ?_) (a' := ?_) #[true, true, true, false, true, true, false, false, false, false] rfl rfl (any_of HT_.out (by kernel_rfl)) (fun _ _ _ h => h) (Or.inl ⟨by rfl, ?_⟩) ?_ ?_
                rotate_left
                · intro w'
                  go_simp
                  with_reducible rfl
                rotate_left
                · simp only [Act.put, List.setIfInBounds_toArray, List.set_cons_zero, List.set_cons_succ, i64_w, i32_w]
                  rfl
                refine pure_ (i := 6) (N := some 23) (v := ?_) (a' := ?_) #[true, true, true, false, true, true, true, false, false, false] rfl rfl (any_of HT_.out (by kernel_rfl)) (fun _ _ _ h => h) (Or.inl ⟨by rfl, ?_⟩) ?_ ?_
                rotate_left
                · intro w'
                  go_simp
                  with_reducible rfl
                rotate_left
                · simp only [Act.put, List.setIfInBounds_toArray, List.set_cons_zero, List.set_cons_succ, i64_w, i32_w]
                  rfl
                refine take_ (i := 3) (N := some 20) (v := ?_) (a' := ?_) #[true, true, true, true, true, true, true, false, false, false] rfl rfl (take_ofW HT_.out HW_.out (by kernel_rfl)) (fun _ _ _ h => h) (Or.inl ⟨by rfl, ?_⟩) hHeld ?_ ?_
                rotate_left
                · rintro w' ⟨s0, s1, s2, s3⟩
                  go_simp
                  with_reducible rfl
                rotate_left
                · simp only [Act.put, List.setIfInBounds_toArray, List.set_cons_zero, List.set_cons_succ, i64_w, i32_w]
                  rfl
                refine take_ (i := 7) (N := some 24) (v := ?_) (a' := ?_) #[true, true, true, true, true, true, true, true, false, false] rfl rfl (take_ofW HT_.out HW_.out (by kernel_rfl)) (fun _ _ _ h => h) (Or.inl ⟨by rfl, ?_⟩) hHeld ?_ ?_
                rotate_left
                · rintro w' ⟨s0, s1, s2, s3⟩
                  go_simp
                  with_reducible rfl
                rotate_left
                · simp only [Act.put, List.setIfInBounds_toArray, List.set_cons_zero, List.set_cons_succ, i64_w, i32_w]
                  rfl
                refine one_ (i := 8) (N := some 25) #[true, true, true, true, true, true, true, true, true, false] rfl rfl (one_of HT_.out (by kernel_rfl)) (by decide) (fun K hK => ?_)
                refine goes_ Try.func129 (by kernel_rfl) rfl #[.agg #[.int .i64 ((rd_T168 l0 x5_1).f0), .string ((rd_T168 l0 x5_1).f1)], .agg #[.int .i64 ((rd_T168 l1 x5_1).f0), .string ((rd_T168 l1 x5_1).f1)]] (by rfl) rfl rfl (by (try simp only [List.map_toArray, List.map_cons, List.map_nil]); first | done | rfl | (simp only [List.length_drop, List.length_take]; rfl)) ?_
                with_reducible refine (laws_eqSize.calls ((rd_T168 l0 x5_1).f0) ((rd_T168 l0 x5_1).f1) ((rd_T168 l1 x5_1).f0) ((rd_T168 l1 x5_1).f1) true _ A7.out).mono ?_
                rintro e w10 ⟨rfl, hb⟩
                refine ⟨_, rfl, ?_⟩
                have n0_ := Aside0.mk (below_step (BB HB.out) hb)
                clear HB
                have HB := n0_
                clear n0_
                (try clear hb)
                (try clear hb2)
                (try clear hk)
                (try clear hi)
                refine hK.out _ _ ⟨((HB.out.cell (World.block_lt_of_cell? w _ hw655_0)).trans hw655_0), ((HB.out.cell (World.block_lt_of_cell? w _ hw655_1)).trans hw655_1), ((HB.out.cell (World.block_lt_of_cell? w _ hw656_0)).trans hw656_0), ((HB.out.cell (World.block_lt_of_cell? w _ hw656_1)).trans hw656_1)⟩ (fun hHeld => ?_)
                clear hK K
                refine norm_ (a' := ?_) ?_ ?_
                rotate_left
                · show Act.put _ (some 25) _ = _
                  simp only [Act.put, List.setIfInBounds_toArray, List.set_cons_zero, List.set_cons_succ, i64_w, i32_w]
                  rfl
                refine pure_ (i := 9) (N := some 26) (v := ?_) (a' := ?_) #[true, true, true, true, true, true, true, true, true, true] rfl rfl (any_of HT_.out (by kernel_rfl)) (fun _ _ _ h => h) (Or.inl ⟨by rfl, ?_⟩) ?_ ?_
                rotate_left
                · intro w'
                  go_simp
                  with_reducible rfl
                rotate_left
                · simp only [Act.put, List.setIfInBounds_toArray, List.set_cons_zero, List.set_cons_succ, i64_w, i32_w]
                  rfl
                refine done_ (done_of HT_.out (by kernel_rfl)) ?_
                try go_wp2
                go_roundg k1
                case measure => have := HK1.out; omega
                case rel => exact ⟨(wrap64 (x5_1 + 1)), FR, H', ⟨by have := HK1.out; omega⟩, ⟨(BB HB.out)⟩⟩
              · replace c8 := Bool.eq_false_iff.mpr c8
                subst c8
                have H1 : (some false) = some r := by rw [if_neg (show ¬ (false = true) by decide)] at H; exact H
                clear H
                have H := H1
                clear H1
                exact absurd ((Option.some.inj H).trans hr_.out) (by decide)
            · rw [if_neg c6] at H
              exact absurd H (by simp)
          · rw [if_neg c5] at H
            exact absurd H (by simp)
        · rw [if_neg c4] at H
          have c4b0 : decide (x5_1 < (l0.length : Int)) = false := decide_eq_false c4
          clear c4
          obtain rfl := Option.some.inj H
          go_wp2
          go_ret
          exact ⟨ER, (BB HB.out)⟩
  · rw [if_neg c3] at H
    have c3b0 : ((l0.length : Int) == (l1.length : Int)) = false := beq_eq_false_iff_ne.mpr c3
    have c3b1 : ((l0.length : Int) != (l1.length : Int)) = true := bne_iff_ne.mpr c3
    have c3b2 : (l0.length == l1.length) = false := by first | simpa using c3 | (simp at c3 ⊢; omega)
    exact absurd ((Option.some.inj H).trans hr_.out) (by decide)

end Go.Proofs.Ytfgnaneajonapaa.Pr

namespace Go.Proofs.Ytfgnaneajonapaa.Pr
open Go.RowKit Go.Proofs.YtfgnaneajonapaaW.PrintWords Go.Proofs.YtfgnaneajonapaaW.PrintLast Go.Proofs.YtfgnaneajonapaaW.PrintMore
attribute [local go_sem] max2_int min2_int max_two min_two max_three min_three max_four min_four
set_option linter.unusedVariables false
set_option linter.unusedSimpArgs false
end Go.Proofs.Ytfgnaneajonapaa.Pr

namespace Go.Proofs.Ytfgnaneajonapaa.Lw
open Go.RowKit Go.Proofs.YtfgnaneajonapaaW.PrintWords Go.Proofs.Ytfgnaneajonapaa.Pr Go.Proofs.Ytfgnaneajonapaa.Evs
set_option linter.unusedVariables false
abbrev ImSize := S168
def lnSize (x : ImSize) : Prop := True
theorem rd168 (p s : List S168) (x : S168) : rd_T168 (p ++ x :: s) (p.length : Int) = x := by unfold rd_T168; exact getD_mid' p s x _ _ rfl
theorem eqSize_refl (x : ImSize) : laws_eqSize.f (x.f0) (x.f1) (x.f0) (x.f1) = some true := by unfold laws_eqSize.f; simp
theorem eqSizeS_loop (s : List ImSize) : ∀ (p : List ImSize), p.length + s.length < 9223372036854775807 → Ev (fun k => laws_eqSizeS.l0 k (p ++ s) (p ++ s) (p.length : Int)) true := by
  induction s with
  | nil => intro p hl; exact ev_step (fun k => laws_eqSizeS.l0.eq_2 _ _ _ k) (ev_neg (by simp) (ev_some _))
  | cons x s ih =>
    intro p hl
    simp at hl
    refine ev_step (fun k => laws_eqSizeS.l0.eq_2 _ _ _ k) (ev_pos (by simp; omega) (ev_pos (by omega) (ev_pos (by simp; omega) (ev_call (by rw [rd168]; exact eqSize_refl x) (ev_pos rfl ?_)))))
    rw [wrap_succ (by omega) (by omega)]
    simpa using ih (p ++ [x]) (by simp; omega)
theorem eqSizeS_ev (l : List ImSize) (hl : l.length < 9223372036854775807) : Ev (fun k => laws_eqSizeS.f k l l) true := by
  unfold laws_eqSizeS.f
  refine ev_pos rfl ?_
  simpa using eqSizeS_loop l [] (by simp; omega)
end Go.Proofs.Ytfgnaneajonapaa.Lw

namespace Go.Proofs.Ytfgnaneajonapaa.Pr
open Go.RowKit Go.Proofs.YtfgnaneajonapaaW.PrintWords Go.Proofs.YtfgnaneajonapaaW.PrintLast Go.Proofs.YtfgnaneajonapaaW.PrintMore
attribute [local go_sem] max2_int min2_int max_two min_two max_three min_three max_four min_four
set_option linter.unusedVariables false
set_option linter.unusedSimpArgs false
def laws_eqStringS.l0 : Nat → List ByteArray → List ByteArray → Int → Option (Bool)
  | 0, _, _, _ => none
  | k + 1, x0, x1, x5 => if x5 < (x0.length : Int) then (if 0 ≤ x5 then (if x5 < (x1.length : Int) then (if (rdOf ByteArray.empty x0 x5).toList = (rdOf ByteArray.empty x1 x5).toList then (laws_eqStringS.l0 k x0 x1 (wrap64 (x5 + 1))) else (some false)) else (none)) else (none)) else (some true)
def laws_eqStringS.f (k : Nat) (l0 : List ByteArray) (l1 : List ByteArray) : Option (Bool) := if (l0.length : Int) = (l1.length : Int) then (laws_eqStringS.l0 k l0 l1 0) else (some false)
set_option maxHeartbeats 8000000 in
set_option maxRecDepth 100000 in
theorem laws_eqStringS.calls (k : Nat) (A0 : Option Addr) (c0 : Nat) (l0 : List ByteArray) (A1 : Option Addr) (c1 : Nat) (l1 : List ByteArray) (r : Bool) (w : World) (hr0 : Kd.C Kd.string w A0 l0.length l0) (hc0 : l0.length ≤ c0) (hr1 : Kd.C Kd.string w A1 l1.length l1) (hc1 : l1.length ≤ c1) (h : laws_eqStringS.f k l0 l1 = some r) (hr_ : Aside0 (r = true) := by exact ⟨rfl⟩) :
    Calls Try.prog 18 #[.slice A0 l0.length c0, .slice A1 l1.length c1] w fun e w' => e = .returned (.bool r) ∧ Drawn0 w w' := by
  have HR0 := Aside0.mk hr0
  have HC0 := Aside0.mk hc0
  clear hr0 hc0
  have HR1 := Aside0.mk hr1
  have HC1 := Aside0.mk hc1
  clear hr1 hc1
  have H : (if (l0.length : Int) = (l1.length : Int) then (laws_eqStringS.l0 k l0 l1 0) else (some false)) = some r := h
  clear h
  by_cases c3 : (l0.length : Int) = (l1.length : Int)
  · rw [if_pos c3] at H
    have c3b0 : ((l0.length : Int) == (l1.length : Int)) = true := beq_iff_eq.mpr c3
    have c3b1 : ((l0.length : Int) != (l1.length : Int)) = false := bne_eq_false_iff_eq.mpr c3
    have c3b2 : (l0.length == l1.length) = true := by first | simpa using c3 | (simp at c3 ⊢; omega)
    clear c3
    have H' := Aside0.mk H
    clear H
    go_enter Try.func18, Try.ntmps18
    go_wp2
    repeat (go_quiet (fail); try go_wp2)
    go_loopg [5] k (fun kq v5 w' => ∃ (x5_1 : Int), v5 = .int .i64 x5_1 ∧ Aside0 (laws_eqStringS.l0 kq l0 l1 x5_1 = some r) ∧ Aside0 (kq ≤ k) ∧ Drawn0 w w')
    case atStart => exact ⟨(0), FR, H', ⟨Nat.le_refl _⟩, by repeat (first | exact Drawn0.refl _ | apply Drawn0.step)⟩
    case round =>
      clear H'
      try clear c1
      try clear p2
      try clear c3
      try clear c3b0
      try clear c3b1
      try clear c3b2
      obtain ⟨x5_1, rfl, HA, HK1, ⟨m1, rfl⟩⟩ := hrel
      cases gk with
      | zero => exact absurd HA.out (by simp [laws_eqStringS.l0])
      | succ k1 =>
        have H := HA.out
        clear HA
        simp only [laws_eqStringS.l0] at H
        by_cases c4 : x5_1 < (l0.length : Int)
        · rw [if_pos c4] at H
          have c4b0 : decide (x5_1 < (l0.length : Int)) = true := decide_eq_true c4
          clear c4
          by_cases c5 : 0 ≤ x5_1
          · rw [if_pos c5] at H
            have c5b0 : decide (0 ≤ x5_1) = true := decide_eq_true c5
            clear c5
            by_cases c6 : x5_1 < (l1.length : Int)
            · rw [if_pos c6] at H
              have c6b0 : decide (x5_1 < (l1.length : Int)) = true := decide_eq_true c6
              clear c6
              by_cases c7 : (rdOf ByteArray.empty l0 x5_1).toList = (rdOf ByteArray.empty l1 x5_1).toList
              · rw [if_pos c7] at H
                have c7b0 : ((rdOf ByteArray.empty l0 x5_1).toList == (rdOf ByteArray.empty l1 x5_1).toList) = true := beq_iff_eq.mpr c7
                have c7b1 : ((rdOf ByteArray.empty l0 x5_1).toList != (rdOf ByteArray.empty l1 x5_1).toList) = false := bne_eq_false_iff_eq.mpr c7
                clear c7
                have H' := Aside0.mk H
                clear H
                have p227 : 0 ≤ (x5_1 : Int) := DT
                have q227 : x5_1 < (l0.length : Int) := DT
                obtain ⟨ad227, e227, hx227_0⟩ := Kd.at_string HR0.out x5_1 p227 q227
                cases e227
                replace p227 := eq_true p227
                replace q227 := eq_true q227
                have p228 : 0 ≤ (x5_1 : Int) := DT
                have q228 : x5_1 < (l1.length : Int) := DT
                obtain ⟨ad228, e228, hx228_0⟩ := Kd.at_string HR1.out x5_1 p228 q228
                cases e228
                replace p228 := eq_true p228
                replace q228 := eq_true q228
                go_wp2
                repeat (go_quiet (fail); try go_wp2)
                go_roundg k1
                case measure => have := HK1.out; omega
                case rel => exact ⟨(wrap64 (x5_1 + 1)), FR, H', ⟨by have := HK1.out; omega⟩, by repeat (first | exact Drawn0.refl _ | apply Drawn0.step)⟩
              · rw [if_neg c7] at H
                have c7b0 : ((rdOf ByteArray.empty l0 x5_1).toList == (rdOf ByteArray.empty l1 x5_1).toList) = false := beq_eq_false_iff_ne.mpr c7
                have c7b1 : ((rdOf ByteArray.empty l0 x5_1).toList != (rdOf ByteArray.empty l1 x5_1).toList) = true := bne_iff_ne.mpr c7
                exact absurd ((Option.some.inj H).trans hr_.out) (by decide)
            · rw [if_neg c6] at H
              exact absurd H (by simp)
          · rw [if_neg c5] at H
            exact absurd H (by simp)
        · rw [if_neg c4] at H
          have c4b0 : decide (x5_1 < (l0.length : Int)) = false := decide_eq_false c4
          clear c4
          obtain rfl := Option.some.inj H
          go_wp2
          repeat (go_quiet (fail); try go_wp2)
          go_ret
          exact ⟨FR, by repeat (first | exact Drawn0.refl _ | apply Drawn0.step)⟩
  · rw [if_neg c3] at H
    have c3b0 : ((l0.length : Int) == (l1.length : Int)) = false := beq_eq_false_iff_ne.mpr c3
    have c3b1 : ((l0.length : Int) != (l1.length : Int)) = true := bne_iff_ne.mpr c3
    have c3b2 : (l0.length == l1.length) = false := by first | simpa using c3 | (simp at c3 ⊢; omega)
    exact absurd ((Option.some.inj H).trans hr_.out) (by decide)

end Go.Proofs.Ytfgnaneajonapaa.Pr

namespace Go.Proofs.Ytfgnaneajonapaa.Pr
open Go.RowKit Go.Proofs.YtfgnaneajonapaaW.PrintWords Go.Proofs.YtfgnaneajonapaaW.PrintLast Go.Proofs.YtfgnaneajonapaaW.PrintMore
attribute [local go_sem] max2_int min2_int max_two min_two max_three min_three max_four min_four
set_option linter.unusedVariables false
set_option linter.unusedSimpArgs false
end Go.Proofs.Ytfgnaneajonapaa.Pr

namespace Go.Proofs.Ytfgnaneajonapaa.Pr
open Go.RowKit Go.Proofs.YtfgnaneajonapaaW.PrintWords Go.Proofs.YtfgnaneajonapaaW.PrintLast Go.Proofs.YtfgnaneajonapaaW.PrintMore
attribute [local go_sem] max2_int min2_int max_two min_two max_three min_three max_four min_four
set_option linter.unusedVariables false
set_option linter.unusedSimpArgs false
end Go.Proofs.Ytfgnaneajonapaa.Pr

namespace Go.Proofs.Ytfgnaneajonapaa.Lw
open Go.RowKit Go.Proofs.YtfgnaneajonapaaW.PrintWords Go.Proofs.Ytfgnaneajonapaa.Pr Go.Proofs.Ytfgnaneajonapaa.Evs
set_option linter.unusedVariables false
theorem rdString (p s : List ByteArray) (x : ByteArray) : rdOf ByteArray.empty (p ++ x :: s) (p.length : Int) = x := by unfold rdOf; exact getD_mid' p s x _ _ rfl
theorem eqStringS_loop (s : List ByteArray) : ∀ (p : List ByteArray), p.length + s.length < 9223372036854775807 → Ev (fun k => laws_eqStringS.l0 k (p ++ s) (p ++ s) (p.length : Int)) true := by
  induction s with
  | nil => intro p hl; exact ev_step (fun k => laws_eqStringS.l0.eq_2 _ _ _ k) (ev_neg (by simp) (ev_some _))
  | cons x s ih =>
    intro p hl
    simp at hl
    refine ev_step (fun k => laws_eqStringS.l0.eq_2 _ _ _ k) (ev_pos (by simp; omega) (ev_pos (by omega) (ev_pos (by simp; omega) ?_)))
    refine ev_pos (by first | rfl | simp) ?_
    rw [wrap_succ (by omega) (by omega)]
    simpa using ih (p ++ [x]) (by simp; omega)
theorem eqStringS_ev (l : List ByteArray) (hl : l.length < 9223372036854775807) : Ev (fun k => laws_eqStringS.f k l l) true := by
  unfold laws_eqStringS.f
  refine ev_pos rfl ?_
  simpa using eqStringS_loop l [] (by simp; omega)
end Go.Proofs.Ytfgnaneajonapaa.Lw

namespace Go.Proofs.Ytfgnaneajonapaa.Pr
open Go.RowKit Go.Proofs.YtfgnaneajonapaaW.PrintWords Go.Proofs.YtfgnaneajonapaaW.PrintLast Go.Proofs.YtfgnaneajonapaaW.PrintMore
attribute [local go_sem] max2_int min2_int max_two min_two max_three min_three max_four min_four
set_option linter.unusedVariables false
set_option linter.unusedSimpArgs false
def laws_eqWorld.f (k : Nat) (a0_0 : Bool) (l0_1 : List (S135)) (a0_2 : Int) (a0_3 : Int) (l0_4 : List (S192)) (l0_5 : List (S120)) (a0_6 : Int) (l0_7 : List (S97)) (l0_8 : List Int) (l0_9 : List ByteArray) (l0_10 : List (S168)) (a1_0 : Bool) (l1_1 : List (S135)) (a1_2 : Int) (a1_3 : Int) (l1_4 : List (S192)) (l1_5 : List (S120)) (a1_6 : Int) (l1_7 : List (S97)) (l1_8 : List Int) (l1_9 : List ByteArray) (l1_10 : List (S168)) : Option (Bool) := (laws_eqServer.f k a0_0 l0_1 a0_2 a0_3 l0_4 l0_5 a0_6 a1_0 l1_1 a1_2 a1_3 l1_4 l1_5 a1_6).bind fun t660 => (if t660 = true then ((laws_eqHostS.f k l0_7 l1_7).bind fun t661 => (if t661 = true then ((laws_eqIntS.f k l0_8 l1_8).bind fun t662 => (if t662 = true then ((laws_eqStringS.f k l0_9 l1_9).bind fun t663 => (if t663 = true then ((laws_eqSizeS.f k l0_10 l1_10).bind fun t664 => (if t664 = true then (some true) else (some false))) else (some false))) else (some false))) else (some false))) else (some false))
set_option maxHeartbeats 8000000 in
set_option maxRecDepth 100000 in
theorem laws_eqWorld.calls (k : Nat) (a0_0 : Bool) (A0_1 : Option Addr) (c0_1 : Nat) (l0_1 : List (S135)) (a0_2 : Int) (a0_3 : Int) (A0_4 : Option Addr) (c0_4 : Nat) (l0_4 : List (S192)) (A0_5 : Option Addr) (c0_5 : Nat) (l0_5 : List (S120)) (a0_6 : Int) (A0_7 : Option Addr) (c0_7 : Nat) (l0_7 : List (S97)) (A0_8 : Option Addr) (c0_8 : Nat) (l0_8 : List Int) (A0_9 : Option Addr) (c0_9 : Nat) (l0_9 : List ByteArray) (A0_10 : Option Addr) (c0_10 : Nat) (l0_10 : List (S168)) (a1_0 : Bool) (A1_1 : Option Addr) (c1_1 : Nat) (l1_1 : List (S135)) (a1_2 : Int) (a1_3 : Int) (A1_4 : Option Addr) (c1_4 : Nat) (l1_4 : List (S192)) (A1_5 : Option Addr) (c1_5 : Nat) (l1_5 : List (S120)) (a1_6 : Int) (A1_7 : Option Addr) (c1_7 : Nat) (l1_7 : List (S97)) (A1_8 : Option Addr) (c1_8 : Nat) (l1_8 : List Int) (A1_9 : Option Addr) (c1_9 : Nat) (l1_9 : List ByteArray) (A1_10 : Option Addr) (c1_10 : Nat) (l1_10 : List (S168)) (r : Bool) (w : World) (hr0_1 : Kd.C k135 w A0_1 l0_1.length l0_1) (hc0_1 : l0_1.length ≤ c0_1) (hr0_4 : Kd.C k192 w A0_4 l0_4.length l0_4) (hc0_4 : l0_4.length ≤ c0_4) (hr0_5 : Kd.C k120 w A0_5 l0_5.length l0_5) (hc0_5 : l0_5.length ≤ c0_5) (hr0_7 : Kd.C k97 w A0_7 l0_7.length l0_7) (hc0_7 : l0_7.length ≤ c0_7) (hr0_8 : Kd.C (Kd.int .i64) w A0_8 l0_8.length l0_8) (hc0_8 : l0_8.length ≤ c0_8) (hr0_9 : Kd.C Kd.string w A0_9 l0_9.length l0_9) (hc0_9 : l0_9.length ≤ c0_9) (hr0_10 : Kd.C k168 w A0_10 l0_10.length l0_10) (hc0_10 : l0_10.length ≤ c0_10) (hr1_1 : Kd.C k135 w A1_1 l1_1.length l1_1) (hc1_1 : l1_1.length ≤ c1_1) (hr1_4 : Kd.C k192 w A1_4 l1_4.length l1_4) (hc1_4 : l1_4.length ≤ c1_4) (hr1_5 : Kd.C k120 w A1_5 l1_5.length l1_5) (hc1_5 : l1_5.length ≤ c1_5) (hr1_7 : Kd.C k97 w A1_7 l1_7.length l1_7) (hc1_7 : l1_7.length ≤ c1_7) (hr1_8 : Kd.C (Kd.int .i64) w A1_8 l1_8.length l1_8) (hc1_8 : l1_8.length ≤ c1_8) (hr1_9 : Kd.C Kd.string w A1_9 l1_9.length l1_9) (hc1_9 : l1_9.length ≤ c1_9) (hr1_10 : Kd.C k168 w A1_10 l1_10.length l1_10) (hc1_10 : l1_10.length ≤ c1_10) (h : laws_eqWorld.f k a0_0 l0_1 a0_2 a0_3 l0_4 l0_5 a0_6 l0_7 l0_8 l0_9 l0_10 a1_0 l1_1 a1_2 a1_3 l1_4 l1_5 a1_6 l1_7 l1_8 l1_9 l1_10 = some r) (hr_ : Aside0 (r = true) := by exact ⟨rfl⟩) :
    Calls Try.prog 43 #[.agg #[.bool a0_0, .slice A0_1 l0_1.length c0_1, .int .i64 a0_2, .int .i64 a0_3, .slice A0_4 l0_4.length c0_4, .slice A0_5 l0_5.length c0_5, .int .i64 a0_6, .slice A0_7 l0_7.length c0_7, .slice A0_8 l0_8.length c0_8, .slice A0_9 l0_9.length c0_9, .slice A0_10 l0_10.length c0_10], .agg #[.bool a1_0, .slice A1_1 l1_1.length c1_1, .int .i64 a1_2, .int .i64 a1_3, .slice A1_4 l1_4.length c1_4, .slice A1_5 l1_5.length c1_5, .int .i64 a1_6, .slice A1_7 l1_7.length c1_7, .slice A1_8 l1_8.length c1_8, .slice A1_9 l1_9.length c1_9, .slice A1_10 l1_10.length c1_10]] w fun e w' => e = .returned (.bool r) ∧ Below w.heap.size w w' := by
  have hu77 := Try.underlying77
  have hu46 := Try.underlying46
  have HR0_1 := Aside0.mk hr0_1
  have HC0_1 := Aside0.mk hc0_1
  clear hr0_1 hc0_1
  have HR0_4 := Aside0.mk hr0_4
  have HC0_4 := Aside0.mk hc0_4
  clear hr0_4 hc0_4
  have HR0_5 := Aside0.mk hr0_5
  have HC0_5 := Aside0.mk hc0_5
  clear hr0_5 hc0_5
  have HR0_7 := Aside0.mk hr0_7
  have HC0_7 := Aside0.mk hc0_7
  clear hr0_7 hc0_7
  have HR0_8 := Aside0.mk hr0_8
  have HC0_8 := Aside0.mk hc0_8
  clear hr0_8 hc0_8
  have HR0_9 := Aside0.mk hr0_9
  have HC0_9 := Aside0.mk hc0_9
  clear hr0_9 hc0_9
  have HR0_10 := Aside0.mk hr0_10
  have HC0_10 := Aside0.mk hc0_10
  clear hr0_10 hc0_10
  have HR1_1 := Aside0.mk hr1_1
  have HC1_1 := Aside0.mk hc1_1
  clear hr1_1 hc1_1
  have HR1_4 := Aside0.mk hr1_4
  have HC1_4 := Aside0.mk hc1_4
  clear hr1_4 hc1_4
  have HR1_5 := Aside0.mk hr1_5
  have HC1_5 := Aside0.mk hc1_5
  clear hr1_5 hc1_5
  have HR1_7 := Aside0.mk hr1_7
  have HC1_7 := Aside0.mk hc1_7
  clear hr1_7 hc1_7
  have HR1_8 := Aside0.mk hr1_8
  have HC1_8 := Aside0.mk hc1_8
  clear hr1_8 hc1_8
  have HR1_9 := Aside0.mk hr1_9
  have HC1_9 := Aside0.mk hc1_9
  clear hr1_9 hc1_9
  have HR1_10 := Aside0.mk hr1_10
  have HC1_10 := Aside0.mk hc1_10
  clear hr1_10 hc1_10
  have HB := Aside0.mk (Below.refl w.heap.size w)
  have H : ((laws_eqServer.f k a0_0 l0_1 a0_2 a0_3 l0_4 l0_5 a0_6 a1_0 l1_1 a1_2 a1_3 l1_4 l1_5 a1_6).bind fun t660 => (if t660 = true then ((laws_eqHostS.f k l0_7 l1_7).bind fun t661 => (if t661 = true then ((laws_eqIntS.f k l0_8 l1_8).bind fun t662 => (if t662 = true then ((laws_eqStringS.f k l0_9 l1_9).bind fun t663 => (if t663 = true then ((laws_eqSizeS.f k l0_10 l1_10).bind fun t664 => (if t664 = true then (some true) else (some false))) else (some false))) else (some false))) else (some false))) else (some false))) = some r := h
  clear h
  replace H := Option.bind_eq_some_iff.mp H
  obtain ⟨t660, A30, H⟩ := H
  replace H : (if t660 = true then ((laws_eqHostS.f k l0_7 l1_7).bind fun t661 => (if t661 = true then ((laws_eqIntS.f k l0_8 l1_8).bind fun t662 => (if t662 = true then ((laws_eqStringS.f k l0_9 l1_9).bind fun t663 => (if t663 = true then ((laws_eqSizeS.f k l0_10 l1_10).bind fun t664 => (if t664 = true then (some true) else (some false))) else (some false))) else (some false))) else (some false))) else (some false)) = some r := H
  have A3 := Aside0.mk A30
  clear A30
  by_cases c4 : t660 = true
  · subst c4
    have H1 : ((laws_eqHostS.f k l0_7 l1_7).bind fun t661 => (if t661 = true then ((laws_eqIntS.f k l0_8 l1_8).bind fun t662 => (if t662 = true then ((laws_eqStringS.f k l0_9 l1_9).bind fun t663 => (if t663 = true then ((laws_eqSizeS.f k l0_10 l1_10).bind fun t664 => (if t664 = true then (some true) else (some false))) else (some false))) else (some false))) else (some false))) = some r := by rw [if_pos rfl] at H; exact H
    clear H
    have H := H1
    clear H1
    replace H := Option.bind_eq_some_iff.mp H
    obtain ⟨t661, A50, H⟩ := H
    replace H : (if t661 = true then ((laws_eqIntS.f k l0_8 l1_8).bind fun t662 => (if t662 = true then ((laws_eqStringS.f k l0_9 l1_9).bind fun t663 => (if t663 = true then ((laws_eqSizeS.f k l0_10 l1_10).bind fun t664 => (if t664 = true then (some true) else (some false))) else (some false))) else (some false))) else (some false)) = some r := H
    have A5 := Aside0.mk A50
    clear A50
    by_cases c6 : t661 = true
    · subst c6
      have H1 : ((laws_eqIntS.f k l0_8 l1_8).bind fun t662 => (if t662 = true then ((laws_eqStringS.f k l0_9 l1_9).bind fun t663 => (if t663 = true then ((laws_eqSizeS.f k l0_10 l1_10).bind fun t664 => (if t664 = true then (some true) else (some false))) else (some false))) else (some false))) = some r := by rw [if_pos rfl] at H; exact H
      clear H
      have H := H1
      clear H1
      replace H := Option.bind_eq_some_iff.mp H
      obtain ⟨t662, A70, H⟩ := H
      replace H : (if t662 = true then ((laws_eqStringS.f k l0_9 l1_9).bind fun t663 => (if t663 = true then ((laws_eqSizeS.f k l0_10 l1_10).bind fun t664 => (if t664 = true then (some true) else (some false))) else (some false))) else (some false)) = some r := H
      have A7 := Aside0.mk A70
      clear A70
      by_cases c8 : t662 = true
      · subst c8
        have H1 : ((laws_eqStringS.f k l0_9 l1_9).bind fun t663 => (if t663 = true then ((laws_eqSizeS.f k l0_10 l1_10).bind fun t664 => (if t664 = true then (some true) else (some false))) else (some false))) = some r := by rw [if_pos rfl] at H; exact H
        clear H
        have H := H1
        clear H1
        replace H := Option.bind_eq_some_iff.mp H
        obtain ⟨t663, A90, H⟩ := H
        replace H : (if t663 = true then ((laws_eqSizeS.f k l0_10 l1_10).bind fun t664 => (if t664 = true then (some true) else (some false))) else (some false)) = some r := H
        have A9 := Aside0.mk A90
        clear A90
        by_cases c10 : t663 = true
        · subst c10
          have H1 : ((laws_eqSizeS.f k l0_10 l1_10).bind fun t664 => (if t664 = true then (some true) else (some false))) = some r := by rw [if_pos rfl] at H; exact H
          clear H
          have H := H1
          clear H1
          replace H := Option.bind_eq_some_iff.mp H
          obtain ⟨t664, A110, H⟩ := H
          replace H : (if t664 = true then (some true) else (some false)) = some r := H
          have A11 := Aside0.mk A110
          clear A110
          by_cases c12 : t664 = true
          · subst c12
            have H1 : (some true) = some r := by rw [if_pos rfl] at H; exact H
            clear H
            have H := H1
            clear H1
            obtain rfl := Option.some.inj H
            go_enter Try.func43, Try.ntmps43
            go_wp2_with (first | ((with_reducible refine gate_dst (N := 2) rfl ?_); refine BX 2 #[.bool a0_0, .slice A0_1 l0_1.length c0_1, .int .i64 a0_2, .int .i64 a0_3, .slice A0_4 l0_4.length c0_4, .slice A0_5 l0_5.length c0_5, .int .i64 a0_6, .slice A0_7 l0_7.length c0_7, .slice A0_8 l0_8.length c0_8, .slice A0_9 l0_9.length c0_9, .slice A0_10 l0_10.length c0_10] 77 ?_; intro gb658 hg w13 hbox hb; have BK658 := Aside0.mk (hbox); have GW658 : Aside0 (w.heap.size ≤ gb658) := WG hg (BB HB.out); have GE658 := GW658; replace HB := Aside0.mk (below_step (BB HB.out) hb); clear hb hbox hg) | ((with_reducible refine gate_dst (N := 3) rfl ?_); refine BX 3 #[.bool a1_0, .slice A1_1 l1_1.length c1_1, .int .i64 a1_2, .int .i64 a1_3, .slice A1_4 l1_4.length c1_4, .slice A1_5 l1_5.length c1_5, .int .i64 a1_6, .slice A1_7 l1_7.length c1_7, .slice A1_8 l1_8.length c1_8, .slice A1_9 l1_9.length c1_9, .slice A1_10 l1_10.length c1_10] 77 ?_; intro gb659 hg w14 hbox hb; have BK659 := Aside0.mk (hbox); have GW659 : Aside0 (w.heap.size ≤ gb659) := WG hg (BB1 HB.out GE658.out); have GE659 := GW659; have NB658_659 := NL BK658.out hg; have NB659_658 := NG BK658.out hg; replace BK658 := Aside0.mk (KB BK658.out hb); replace HB := Aside0.mk (below_step (BB1 HB.out GE658.out) hb); clear hb hbox hg; have hnb15 := NB658_659.out; have hnc15 := NB659_658.out; have hcz16 := blk_cell BK658.out; have hfz16 := blk_frozen BK658.out; have hcz17 := blk_cell BK659.out; have hfz17 := blk_frozen BK659.out) | ((with_reducible refine gate_callee (f := 27) rfl ?_); refine GL (some 9) rfl rfl Try.func27 #[.agg #[.bool a0_0, .slice A0_1 l0_1.length c0_1, .int .i64 a0_2, .int .i64 a0_3, .slice A0_4 l0_4.length c0_4, .slice A0_5 l0_5.length c0_5, .int .i64 a0_6], .agg #[.bool a1_0, .slice A1_1 l1_1.length c1_1, .int .i64 a1_2, .int .i64 a1_3, .slice A1_4 l1_4.length c1_4, .slice A1_5 l1_5.length c1_5, .int .i64 a1_6]] rfl ?_; (with_reducible refine (laws_eqServer.calls k a0_0 _ _ l0_1 a0_2 a0_3 _ _ l0_4 _ _ l0_5 a0_6 a1_0 _ _ l1_1 a1_2 a1_3 _ _ l1_4 _ _ l1_5 a1_6 true _ ?side1 ?side2 ?side3 ?side4 ?side5 ?side6 ?side7 ?side8 ?side9 ?side10 ?side11 ?side12 A3.out).mono ?_); (case side1 => exact CC (Kd.C_below HR0_1.out HB.out)); (case side2 => exact HC0_1.out); (case side3 => exact CC (Kd.C_below HR0_4.out HB.out)); (case side4 => exact HC0_4.out); (case side5 => exact CC (Kd.C_below HR0_5.out HB.out)); (case side6 => exact HC0_5.out); (case side7 => exact CC (Kd.C_below HR1_1.out HB.out)); (case side8 => exact HC1_1.out); (case side9 => exact CC (Kd.C_below HR1_4.out HB.out)); (case side10 => exact HC1_4.out); (case side11 => exact CC (Kd.C_below HR1_5.out HB.out)); (case side12 => exact HC1_5.out); rintro e w18 ⟨rfl, hb⟩; refine ⟨_, rfl, ?_⟩; replace BK658 := Aside0.mk (KB BK658.out hb); replace BK659 := Aside0.mk (KB BK659.out hb); replace HB := Aside0.mk (below_step (BB2 HB.out GE658.out GE659.out) hb); (try clear hb); have hcz19 := blk_cell BK658.out; have hfz19 := blk_frozen BK658.out; have hcz20 := blk_cell BK659.out; have hfz20 := blk_frozen BK659.out) | ((with_reducible refine gate_callee (f := 15) rfl ?_); refine GL (some 15) rfl rfl Try.func15 #[.slice A0_7 l0_7.length c0_7, .slice A1_7 l1_7.length c1_7] rfl ?_; (with_reducible refine (laws_eqHostS.calls k _ _ l0_7 _ _ l1_7 true _ ?side1 ?side2 ?side3 ?side4 A5.out).mono ?_); (case side1 => exact CC (Kd.C_below HR0_7.out HB.out)); (case side2 => exact HC0_7.out); (case side3 => exact CC (Kd.C_below HR1_7.out HB.out)); (case side4 => exact HC1_7.out); rintro e w21 ⟨rfl, hb⟩; refine ⟨_, rfl, ?_⟩; replace BK658 := Aside0.mk (KB BK658.out hb); replace BK659 := Aside0.mk (KB BK659.out hb); replace HB := Aside0.mk (below_step (BB2 HB.out GE658.out GE659.out) hb); (try clear hb); have hcz22 := blk_cell BK658.out; have hfz22 := blk_frozen BK658.out; have hcz23 := blk_cell BK659.out; have hfz23 := blk_frozen BK659.out) | ((with_reducible refine gate_callee (f := 32) rfl ?_); refine GL (some 21) rfl rfl Try.func32 #[.slice A0_8 l0_8.length c0_8, .slice A1_8 l1_8.length c1_8] rfl ?_; (with_reducible refine (laws_eqIntS.calls k _ _ l0_8 _ _ l1_8 true _ ?side1 ?side2 ?side3 ?side4 A7.out).mono ?_); (case side1 => exact CC (Kd.C_below HR0_8.out HB.out)); (case side2 => exact HC0_8.out); (case side3 => exact CC (Kd.C_below HR1_8.out HB.out)); (case side4 => exact HC1_8.out); rintro e w' ⟨rfl, ⟨nd, rfl⟩⟩; refine ⟨_, rfl, ?_⟩) | ((with_reducible refine gate_callee (f := 18) rfl ?_); refine GL (some 27) rfl rfl Try.func18 #[.slice A0_9 l0_9.length c0_9, .slice A1_9 l1_9.length c1_9] rfl ?_; (with_reducible refine (laws_eqStringS.calls k _ _ l0_9 _ _ l1_9 true _ ?side1 ?side2 ?side3 ?side4 A9.out).mono ?_); (case side1 => repeat (first | exact (Kd.C_below HR0_9.out (BB2 HB.out GE658.out GE659.out)) | (with_reducible refine Kd.C_alloc ?_ _) | (with_reducible refine Kd.C_drewN ?_ _) | (with_reducible refine Kd.C_drew ?_))); (case side2 => exact HC0_9.out); (case side3 => repeat (first | exact (Kd.C_below HR1_9.out (BB2 HB.out GE658.out GE659.out)) | (with_reducible refine Kd.C_alloc ?_ _) | (with_reducible refine Kd.C_drewN ?_ _) | (with_reducible refine Kd.C_drew ?_))); (case side4 => exact HC1_9.out); rintro e w' ⟨rfl, ⟨nd, rfl⟩⟩; refine ⟨_, rfl, ?_⟩) | ((with_reducible refine gate_callee (f := 87) rfl ?_); refine GL (some 33) rfl rfl Try.func87 #[.slice A0_10 l0_10.length c0_10, .slice A1_10 l1_10.length c1_10] rfl ?_; (with_reducible refine (laws_eqSizeS.calls k _ _ l0_10 _ _ l1_10 true _ ?side1 ?side2 ?side3 ?side4 A11.out).mono ?_); (case side1 => repeat (first | exact (Kd.C_below HR0_10.out (BB2 HB.out GE658.out GE659.out)) | (with_reducible refine Kd.C_alloc ?_ _) | (with_reducible refine Kd.C_drewN ?_ _) | (with_reducible refine Kd.C_drew ?_))); (case side2 => exact HC0_10.out); (case side3 => repeat (first | exact (Kd.C_below HR1_10.out (BB2 HB.out GE658.out GE659.out)) | (with_reducible refine Kd.C_alloc ?_ _) | (with_reducible refine Kd.C_drewN ?_ _) | (with_reducible refine Kd.C_drew ?_))); (case side4 => exact HC1_10.out); rintro e w24 ⟨rfl, hb⟩; refine ⟨_, rfl, ?_⟩; replace BK658 := Aside0.mk (KB BK658.out hb); replace BK659 := Aside0.mk (KB BK659.out hb); replace HB := Aside0.mk (below_step (BB2 HB.out GE658.out GE659.out) hb); (try clear hb)))
            go_ret
            exact ⟨ER, (BB2 HB.out GE658.out GE659.out)⟩
          · replace c12 := Bool.eq_false_iff.mpr c12
            subst c12
            have H1 : (some false) = some r := by rw [if_neg (show ¬ (false = true) by decide)] at H; exact H
            clear H
            have H := H1
            clear H1
            exact absurd ((Option.some.inj H).trans hr_.out) (by decide)
        · replace c10 := Bool.eq_false_iff.mpr c10
          subst c10
          have H1 : (some false) = some r := by rw [if_neg (show ¬ (false = true) by decide)] at H; exact H
          clear H
          have H := H1
          clear H1
          exact absurd ((Option.some.inj H).trans hr_.out) (by decide)
      · replace c8 := Bool.eq_false_iff.mpr c8
        subst c8
        have H1 : (some false) = some r := by rw [if_neg (show ¬ (false = true) by decide)] at H; exact H
        clear H
        have H := H1
        clear H1
        exact absurd ((Option.some.inj H).trans hr_.out) (by decide)
    · replace c6 := Bool.eq_false_iff.mpr c6
      subst c6
      have H1 : (some false) = some r := by rw [if_neg (show ¬ (false = true) by decide)] at H; exact H
      clear H
      have H := H1
      clear H1
      exact absurd ((Option.some.inj H).trans hr_.out) (by decide)
  · replace c4 := Bool.eq_false_iff.mpr c4
    subst c4
    have H1 : (some false) = some r := by rw [if_neg (show ¬ (false = true) by decide)] at H; exact H
    clear H
    have H := H1
    clear H1
    exact absurd ((Option.some.inj H).trans hr_.out) (by decide)

end Go.Proofs.Ytfgnaneajonapaa.Pr

namespace Go.Proofs.Ytfgnaneajonapaa.Pr
open Go.RowKit Go.Proofs.YtfgnaneajonapaaW.PrintWords Go.Proofs.YtfgnaneajonapaaW.PrintLast Go.Proofs.YtfgnaneajonapaaW.PrintMore
attribute [local go_sem] max2_int min2_int max_two min_two max_three min_three max_four min_four
set_option linter.unusedVariables false
set_option linter.unusedSimpArgs false
end Go.Proofs.Ytfgnaneajonapaa.Pr

namespace Go.Proofs.Ytfgnaneajonapaa.Pr
open Go.RowKit Go.Proofs.YtfgnaneajonapaaW.PrintWords Go.Proofs.YtfgnaneajonapaaW.PrintLast Go.Proofs.YtfgnaneajonapaaW.PrintMore
attribute [local go_sem] max2_int min2_int max_two min_two max_three min_three max_four min_four
set_option linter.unusedVariables false
set_option linter.unusedSimpArgs false
end Go.Proofs.Ytfgnaneajonapaa.Pr

namespace Go.Proofs.Ytfgnaneajonapaa.Lw
open Go.RowKit Go.Proofs.YtfgnaneajonapaaW.PrintWords Go.Proofs.Ytfgnaneajonapaa.Pr Go.Proofs.Ytfgnaneajonapaa.Evs
set_option linter.unusedVariables false
abbrev ImWorld := S77
def lnWorld (x : ImWorld) : Prop := (lnServer x.f0) ∧ (x.f1.length < 9223372036854775000 ∧ ∀ y ∈ x.f1, lnHost y) ∧ (x.f2.length < 9223372036854775000) ∧ (x.f3.length < 9223372036854775000) ∧ (x.f4.length < 9223372036854775000 ∧ ∀ y ∈ x.f4, lnSize y)
theorem eqWorld_refl (x : ImWorld) (hx : lnWorld x) : Ev (fun k => laws_eqWorld.f k (x.f0.f0) (x.f0.f1.f0) (x.f0.f1.f1) (x.f0.f2) (x.f0.f3.f0) (x.f0.f4) (x.f0.f5) (x.f1) (x.f2) (x.f3) (x.f4) (x.f0.f0) (x.f0.f1.f0) (x.f0.f1.f1) (x.f0.f2) (x.f0.f3.f0) (x.f0.f4) (x.f0.f5) (x.f1) (x.f2) (x.f3) (x.f4)) true := by
  unfold lnWorld at hx
  obtain ⟨h0, h1, h2, h3, h4⟩ := hx
  unfold laws_eqWorld.f
  repeat (first | with_reducible exact ev_some _ | with_reducible refine ev_pos rfl ?_ | with_reducible refine ev_neg (by simp; done) ?_ | with_reducible refine ev_bind (eqServer_refl x.f0 h0) ?_ | with_reducible refine ev_bind (eqHostS_ev x.f1 (by have := h1.1; omega) h1.2) ?_ | with_reducible refine ev_bind (eqIntS_ev x.f2 (by have := h2; omega)) ?_ | with_reducible refine ev_bind (eqStringS_ev x.f3 (by have := h3; omega)) ?_ | with_reducible refine ev_bind (eqSizeS_ev x.f4 (by have := h4.1; omega)) ?_)
end Go.Proofs.Ytfgnaneajonapaa.Lw

namespace Go.Proofs.Ytfgnaneajonapaa.Pr
open Go.RowKit Go.Proofs.YtfgnaneajonapaaW.PrintWords Go.Proofs.YtfgnaneajonapaaW.PrintLast Go.Proofs.YtfgnaneajonapaaW.PrintMore
attribute [local go_sem] max2_int min2_int max_two min_two max_three min_three max_four min_four
set_option linter.unusedVariables false
set_option linter.unusedSimpArgs false
def laws_markDisk.f (k : Nat) (l0_0 : List (S192)) (a1 : Int) : Option (Int × (List (S192))) := (laws_markFileS.f k l0_0 a1).bind fun bt329 => (some (bt329.1, bt329.2))
set_option maxHeartbeats 8000000 in
set_option maxRecDepth 100000 in
theorem laws_markDisk.calls (k : Nat) (P0_0_ : Nat → Prop) (u9000_ : Value) (l0_0 : List (S192)) (a1 : Int) (r1 : Int) (r2 : List (S192)) (w0 w : World) (hB : Below w0.heap.size w0 w) (ho0_0 : Kd.R k192 192 w w0.heap.size P0_0_ u9000_ l0_0) (h : laws_markDisk.f k l0_0 a1 = some (r1, r2)) :
    Calls Try.prog 67 #[.agg #[u9000_], .int .i64 a1] w fun e w' => e = .returned (.int .i64 r1) ∧ Kd.R k192 192 w' w0.heap.size (fun k_ => (P0_0_ k_ ∨ w.heap.size ≤ k_)) u9000_ r2 ∧ Below w0.heap.size w0 w' ∧ Kept w w' (fun k_ => P0_0_ k_) := by
  have hu43 := Try.underlying43
  have HO0_0 := Aside0.mk (show Kd.R k192 192 w w0.heap.size (fun k_ => (P0_0_ k_ ∨ w.heap.size ≤ k_)) u9000_ l0_0 from Kd.R_mono ho0_0 (fun k_ hk => (.inl hk)))
  have HK := Aside0.mk (Kept.refl w (fun k_ => P0_0_ k_))
  have HW0 := Aside0.mk hB.size
  have HB := Aside0.mk hB
  clear hB
  have H : ((laws_markFileS.f k l0_0 a1).bind fun bt329 => (some (bt329.1, bt329.2))) = some (r1, r2) := h
  clear h
  replace H := Option.bind_eq_some_iff.mp H
  obtain ⟨⟨t329, t330⟩, A30, H⟩ := H
  replace H : (some (t329, t330)) = some (r1, r2) := H
  have A3 := Aside0.mk A30
  clear A30
  simp only [Option.some.injEq, Prod.mk.injEq] at H
  obtain ⟨rfl, rfl⟩ := H
  obtain ⟨Ao4, co4, eo4⟩ := Kd.R_slice HO0_0.out
  subst eo4
  go_enter Try.func67, Try.ntmps67
  go_wp2_with (first | ((with_reducible refine gate_dst (N := 2) rfl ?_); refine BX 2 #[.slice Ao4 l0_0.length co4] 43 ?_; intro gb328 hg w5 hbox hb; have n0_ := Aside0.mk (Kd.R_below (RR HO0_0.out) hb); have n1_ := Aside0.mk (Kept.below (S := (fun k_ => P0_0_ k_)) (by repeat (first | (with_reducible first | exact HK.out | apply Kept.alloc | apply Kept.drewN | apply Kept.drew) | exact HK.out)) hb); have n2_ := Aside0.mk (below_step (BB HB.out) hb); have n3_ := Aside0.mk (hbox); have n4_ := Aside0.mk ((by rw [hg]; exact (by first | exact HK.out.1 | exact (show Kept w _ (fun k_ => P0_0_ k_) from by repeat (first | (with_reducible first | exact HK.out | apply Kept.alloc | apply Kept.drewN | apply Kept.drew) | exact HK.out)).1) : w.heap.size ≤ gb328)); have n5_ := Aside0.mk ((by rw [hg]; exact (below_size (BB HB.out)) : w0.heap.size ≤ gb328)); clear HO0_0; clear HK; clear HB; have HO0_0 := n0_; have HK := n1_; have HB := n2_; have BK328 := n3_; have GW328 := n4_; have GE328 := n5_; clear n0_ n1_ n2_ n3_ n4_ n5_; clear hb hbox hg; have hcz6 := blk_cell BK328.out; have hfz6 := blk_frozen BK328.out) | ((with_reducible refine gate_callee (f := 112) rfl ?_); refine GL (some 8) rfl rfl Try.func112 #[.slice Ao4 l0_0.length co4, .int .i64 a1] rfl ?_; (with_reducible refine (laws_markFileS.calls k (fun k_ => some k_ = (.slice Ao4 l0_0.length co4 : Value).ownBlock) (.slice Ao4 l0_0.length co4) l0_0 a1 t329 t330 w0 _ ?side1 ?side2 A3.out).mono ?_); (case side1 => repeat (first | (with_reducible first | exact HB.out | apply below_alloc | apply pw_below_drewN | apply below_drew1 | refine below_set ?_ GE328.out) | exact HB.out)); (case side2 => exact Kd.R_tight rfl HO0_0.out); rintro e w7 ⟨rfl, hy0, hb, hkp⟩; refine ⟨_, rfl, ?_⟩; have n0_ := Aside0.mk (Kd.R_reok rfl hy0 (fun k_ e_ => HO0_0.out.1 k_ e_)); have n1_ := Aside0.mk (blk_kept (by (with_reducible repeat (first | refine blk_drewN ?_ _ | refine blk_drew ?_ | refine blk_alloc ?_ _)); exact BK328.out) hkp (fun hs_ => (fun e_ => (Kd.R_ne HO0_0.out BK328.out (by decide)) e_) hs_)); have n2_ := Aside0.mk (Kept.then_ (S := (fun k_ => P0_0_ k_)) (by repeat (first | (with_reducible first | exact HK.out | apply Kept.alloc | apply Kept.drewN | apply Kept.drew | refine Kept.setCell ?_ (.inr GW328.out) _) | exact HK.out)) hkp (fun k_ hs_ => (fun e_ => (HO0_0.out.1 k_ e_.symm)) hs_)); have n3_ := Aside0.mk (hb); clear HO0_0; clear BK328; clear HK; clear HB; have HO0_0 := n0_; have BK328 := n1_; have HK := n2_; have HB := n3_; clear n0_ n1_ n2_ n3_; (try clear hb); (try clear hkp); (try clear hy0)))
  go_ret
  exact ⟨ER, by (with_reducible repeat (first | apply Kd.R_alloc | apply Kd.R_drewN | apply Kd.R_drew)); exact HO0_0.out, (BB1 HB.out GE328.out), by repeat (first | (with_reducible first | exact HK.out | apply Kept.alloc | apply Kept.drewN | apply Kept.drew | refine Kept.setCell ?_ (.inr GW328.out) _) | exact HK.out)⟩

end Go.Proofs.Ytfgnaneajonapaa.Pr

namespace Go.Proofs.Ytfgnaneajonapaa.Pr
open Go.RowKit Go.Proofs.YtfgnaneajonapaaW.PrintWords Go.Proofs.YtfgnaneajonapaaW.PrintLast Go.Proofs.YtfgnaneajonapaaW.PrintMore
set_option linter.unusedVariables false
set_option linter.unusedSimpArgs false
open Go.Proofs.Ytfgnaneajonapaa.Evs
set_option maxHeartbeats 2000000 in
set_option maxRecDepth 100000 in
theorem laws_markTree.calls (P0 : Nat → Prop) (v : Value) (l : List S135) (a1 n : Int) (w0 w : World) (hB : Below w0.heap.size w0 w) (ho : Kd.S k135 135 w w0.heap.size P0 v l) (hn : 0 ≤ n) (hb : n + cntInodeS l < 9223372036854775000) :
    Calls Try.prog 66 #[.agg #[v, .int .i64 a1], .int .i64 n] w fun e w' => e = .returned (.int .i64 (n + cntInodeS l)) ∧ Kd.S k135 135 w' w0.heap.size P0 v (mkInodeS l n) ∧ Below w0.heap.size w0 w' ∧ Kept w w' P0 := by
  have hu := Try.underlying40
  obtain ⟨A, c, rfl⟩ := Kd.S_slice ho
  have HO := Aside0.mk ho
  have HB := Aside0.mk hB
  have HA := Aside0.mk hb
  clear ho hB hb
  go_enter Try.func66, Try.ntmps66
  go_wp2_with fail
  refine (laws_markInodeS.calls P0 _ l n w0 _ (HB.out.alloc HB.out.size _) (Kd.S_alloc HO.out _) hn HA.out).mono ?_
  rintro e w1 ⟨rfl, hs, hb, hk⟩
  go_wp2
  go_ret
  exact ⟨rfl, hs, hb, ((Kept.refl w P0).alloc _).then_ hk (fun k hk => .inl hk)⟩
set_option maxHeartbeats 2000000 in
set_option maxRecDepth 100000 in
theorem laws_markServer.calls (P1 P4 P5 : Nat → Prop) (a0 : Bool) (v1 : Value) (l1 : List S135) (a2 a3 : Int) (v4 : Value) (l4 : List S192) (v5 : Value) (l5 : List S120) (a6 n : Int) (w0 w : World) (hB : Below w0.heap.size w0 w)
    (h1 : Kd.S k135 135 w w0.heap.size P1 v1 l1) (h4 : Kd.R k192 192 w w0.heap.size P4 v4 l4) (h5 : Kd.R k120 120 w w0.heap.size P5 v5 l5) (d14 : ∀ k, P1 k → P4 k → False) (d15 : ∀ k, P1 k → P5 k → False) (d45 : ∀ k, P4 k → P5 k → False)
    (hn : 0 ≤ n) (hb : n + cntInodeS l1 + 3 * l4.length + 3 * l5.length < 9223372036854775000) :
    Calls Try.prog 28 #[.agg #[.bool a0, v1, .int .i64 a2, .int .i64 a3, v4, v5, .int .i64 a6], .int .i64 n] w fun e w' => e = .returned (.int .i64 (n + cntInodeS l1 + 3 * l4.length + 3 * l5.length)) ∧
      Kd.S k135 135 w' w0.heap.size P1 v1 (mkInodeS l1 n) ∧ Kd.R k192 192 w' w0.heap.size P4 v4 (Lw.mkFileS l4 (n + cntInodeS l1)) ∧ Kd.R k120 120 w' w0.heap.size P5 v5 (Lw.mkLeaseS l5 (n + cntInodeS l1 + 3 * l4.length)) ∧ Below w0.heap.size w0 w' ∧ Kept w w' (fun k => P1 k ∨ P4 k ∨ P5 k) := by
  have hu := Try.underlying46
  have hu2 := Try.underlying40
  have hu3 := Try.underlying43
  obtain ⟨A1, c1, rfl⟩ := Kd.S_slice h1
  obtain ⟨A4, c4, rfl⟩ := Kd.R_slice h4
  obtain ⟨A5, c5, rfl⟩ := Kd.R_slice h5
  have hp := cntInodeS_pos l1
  obtain ⟨q4, hq4⟩ := ev_rounds (Lw.markFileS_ev l4 (n + cntInodeS l1) (by omega) (by omega))
  obtain ⟨q5, hq5⟩ := ev_rounds (Lw.markLeaseS_ev l5 (n + cntInodeS l1 + 3 * l4.length) (by omega) (by omega))
  have hq4' : laws_markDisk.f q4 l4 (n + cntInodeS l1) = some (n + cntInodeS l1 + 3 * l4.length, Lw.mkFileS l4 (n + cntInodeS l1)) := by unfold laws_markDisk.f; rw [hq4]; rfl
  have HQ4 := Aside0.mk hq4'
  have HQ5 := Aside0.mk hq5
  have H1 := Aside0.mk (Kd.S_mono (Kd.S_bound h1) (ok' := fun k => P1 k ∧ k < w.heap.size) (fun k hk => ⟨hk.1, hk.2.2.1⟩))
  have H4 := Aside0.mk (Kd.R_mono (Kd.R_bound h4) (ok' := fun k => P4 k ∧ k < w.heap.size) (fun k hk => ⟨hk.1, hk.2.2.1⟩))
  have H5 := Aside0.mk (Kd.R_mono (Kd.R_bound h5) (ok' := fun k => P5 k ∧ k < w.heap.size) (fun k hk => ⟨hk.1, hk.2.2.1⟩))
  have HB := Aside0.mk hB
  have HA := Aside0.mk (show n + cntInodeS l1 < 9223372036854775000 by omega)
  have HN := Aside0.mk hn
  have D14 := Aside0.mk d14
  have D15 := Aside0.mk d15
  have D45 := Aside0.mk d45
  have F4 : Aside0 (∀ okA okB W (x : S192) cs, k192.M W w0.heap.size okA x cs → k192.M W w0.heap.size okB x cs) := ⟨fun _ _ _ x cs hM => by obtain rfl := k192_openM hM; exact k192_mkM _ _ _ x⟩
  have F5 : Aside0 (∀ okA okB W (x : S120) cs, k120.M W w0.heap.size okA x cs → k120.M W w0.heap.size okB x cs) := ⟨fun _ _ _ x cs hM => by obtain rfl := k120_openM hM; exact k120_mkM _ _ _ x⟩
  clear h1 h4 h5 hB hb hn hp hq4 hq4' hq5 d14 d15 d45
  go_enter Try.func28, Try.ntmps28
  go_wp2_with fail
  refine (laws_markTree.calls _ _ l1 a2 n w0 _ (HB.out.alloc HB.out.size _) (Kd.S_alloc H1.out _) HN.out HA.out).mono ?_
  rintro e w1 ⟨rfl, hs, hb, hk⟩
  have hbx := hk.2 w.heap.size (by simp) (fun hm => by have := hm.2; omega)
  have f4 := (World.cell?_of_block (a := ⟨w.heap.size, 4, none⟩) hbx).trans (show _ = some (.slice A4 l4.length c4) by go_simp)
  have f5 := (World.cell?_of_block (a := ⟨w.heap.size, 5, none⟩) hbx).trans (show _ = some (.slice A5 l5.length c5) by go_simp)
  replace H1 := Aside0.mk hs
  replace H4 := Aside0.mk (Kd.R_step (Kd.R_alloc H4.out _) (fun k ho hlt => hk.2 k hlt (fun hm => D14.out k hm.1 ho.1)))
  replace H5 := Aside0.mk (Kd.R_step (Kd.R_alloc H5.out _) (fun k ho hlt => hk.2 k hlt (fun hm => D15.out k hm.1 ho.1)))
  have HK := Aside0.mk (((Kept.refl w (fun k => P1 k ∨ P4 k ∨ P5 k)).alloc _).then_ hk (fun k hm => .inl (.inl hm.1)))
  have HB1 := Aside0.mk hb
  have hz := hk.1
  simp at hz
  clear hs hb hk hbx
  go_wp2_with fail
  refine (laws_markDisk.calls q4 (fun k => P4 k ∧ k < w.heap.size) _ l4 (n + cntInodeS l1) _ _ w0 _ HB1.out H4.out HQ4.out).mono ?_
  rintro e w2 ⟨rfl, hr, hb, hk⟩
  have hbx := hk.2 w.heap.size (by omega) (fun hm => by have := hm.2; omega)
  replace f5 := (World.cell?_of_block (a := ⟨w.heap.size, 5, none⟩) hbx).trans f5
  replace H1 := Aside0.mk (Kd.S_step H1.out (fun k ho hlt => hk.2 k hlt (fun hm => D14.out k ho.1 hm.1)))
  replace H4 := Aside0.mk (R_reok hr (fun k hk => H4.out.1 k hk) (fun _ _ x cs hM => F4.out _ _ _ x cs hM))
  replace H5 := Aside0.mk (Kd.R_step H5.out (fun k ho hlt => hk.2 k hlt (fun hm => D45.out k hm.1 ho.1)))
  replace HK := Aside0.mk (HK.out.then_ hk (fun k hm => .inl (.inr (.inl hm.1))))
  replace HB1 := Aside0.mk hb
  have hz2 := hk.1
  clear hr hb hk hbx f4
  go_wp2_with fail
  refine (laws_markLeaseS.calls q5 (fun k => P5 k ∧ k < w.heap.size) _ l5 (n + cntInodeS l1 + 3 * l4.length) _ _ w0 _ HB1.out H5.out HQ5.out).mono ?_
  rintro e w3 ⟨rfl, hr, hb, hk⟩
  replace H1 := Aside0.mk (Kd.S_step H1.out (fun k ho hlt => hk.2 k hlt (fun hm => D15.out k ho.1 hm.1)))
  replace H4 := Aside0.mk (Kd.R_step H4.out (fun k ho hlt => hk.2 k hlt (fun hm => D45.out k ho.1 hm.1)))
  replace H5 := Aside0.mk (R_reok hr (fun k hk => H5.out.1 k hk) (fun _ _ x cs hM => F5.out _ _ _ x cs hM))
  replace HK := Aside0.mk (HK.out.then_ hk (fun k hm => .inl (.inr (.inr hm.1))))
  replace HB1 := Aside0.mk hb
  clear hr hb hk
  go_wp2
  go_ret
  exact ⟨rfl, Kd.S_mono H1.out (fun k hk => hk.1), Kd.R_mono H4.out (fun k hk => hk.1), Kd.R_mono H5.out (fun k hk => hk.1), HB1.out, HK.out⟩
end Go.Proofs.Ytfgnaneajonapaa.Pr

namespace Go.Proofs.Ytfgnaneajonapaa.Pr
open Go.RowKit Go.Proofs.YtfgnaneajonapaaW.PrintWords Go.Proofs.YtfgnaneajonapaaW.PrintLast Go.Proofs.YtfgnaneajonapaaW.PrintMore
attribute [local go_sem] max2_int min2_int max_two min_two max_three min_three max_four min_four
set_option linter.unusedVariables false
set_option linter.unusedSimpArgs false
def laws_markIntS.l0 : Nat → List Int → Int → Int → Option (Int × List Int)
  | 0, _, _, _ => none
  | k + 1, x0, x1, x5 => if x5 < (x0.length : Int) then (if 0 ≤ x5 then (laws_markIntS.l0 k (x0.set (x5 : Int).toNat x1) (wrap64 (x1 + 1)) (wrap64 (x5 + 1))) else (none)) else (some (x1, x0))
def laws_markIntS.f (k : Nat) (l0 : List Int) (a1 : Int) : Option (Int × List Int) := laws_markIntS.l0 k l0 a1 0
set_option maxHeartbeats 8000000 in
set_option maxRecDepth 100000 in
theorem laws_markIntS.calls (k : Nat) (P0_ : Nat → Prop) (u9000_ : Value) (l0 : List Int) (a1 : Int) (r1 : Int) (r2 : List Int) (w0 w : World) (hB : Below w0.heap.size w0 w) (ho0 : Kd.R (Kd.int .i64) 3 w w0.heap.size P0_ u9000_ l0) (h : laws_markIntS.f k l0 a1 = some (r1, r2)) :
    Calls Try.prog 33 #[u9000_, .int .i64 a1] w fun e w' => e = .returned (.int .i64 r1) ∧ Kd.R (Kd.int .i64) 3 w' w0.heap.size (fun k_ => (P0_ k_ ∨ w.heap.size ≤ k_)) u9000_ r2 ∧ Below w0.heap.size w0 w' ∧ Kept w w' (fun k_ => P0_ k_) := by
  have HO0 := Aside0.mk (show Kd.R (Kd.int .i64) 3 w w0.heap.size (fun k_ => (P0_ k_ ∨ w.heap.size ≤ k_)) u9000_ l0 from Kd.R_mono ho0 (fun k_ hk => (.inl hk)))
  have HK := Aside0.mk (Kept.refl w (fun k_ => P0_ k_))
  have HW0 := Aside0.mk hB.size
  have HB := Aside0.mk hB
  clear hB
  have H : (laws_markIntS.l0 k l0 a1 0) = some (r1, r2) := h
  clear h
  have H' := Aside0.mk H
  clear H
  go_enter Try.func33, Try.ntmps33
  go_wp2
  go_loopg [1, 5] k (fun kq v1 v5 w' => ∃ (x0_1 : List Int) (x1_1 : Int) (x5_1 : Int), v1 = .int .i64 x1_1 ∧ v5 = .int .i64 x5_1 ∧ Aside0 (laws_markIntS.l0 kq x0_1 x1_1 x5_1 = some (r1, r2)) ∧ Aside0 (kq ≤ k) ∧ Aside0 (Kd.R (Kd.int .i64) 3 w' w0.heap.size (fun k_ => (P0_ k_ ∨ w.heap.size ≤ k_)) u9000_ x0_1) ∧ Aside0 (Kept w w' (fun k_ => P0_ k_)) ∧ Aside0 (Below w0.heap.size w0 w'))
  case atStart => exact ⟨(l0), (a1), (0), FR, FR, H', ⟨Nat.le_refl _⟩, ⟨(RR HO0.out)⟩, ⟨by repeat (first | (with_reducible first | exact HK.out | apply Kept.alloc | apply Kept.drewN | apply Kept.drew) | exact HK.out)⟩, ⟨(BB HB.out)⟩⟩
  case round =>
    clear H'
    try clear p2
    obtain ⟨x0_1, x1_1, x5_1, rfl, rfl, HA, HK1, HO_0, HK, HB⟩ := hrel
    cases gk with
    | zero => exact absurd HA.out (by simp [laws_markIntS.l0])
    | succ k1 =>
      have H := HA.out
      clear HA
      simp only [laws_markIntS.l0] at H
      by_cases c3 : x5_1 < (x0_1.length : Int)
      · rw [if_pos c3] at H
        have c3b0 : decide (x5_1 < (x0_1.length : Int)) = true := decide_eq_true c3
        clear c3
        by_cases c4 : 0 ≤ x5_1
        · rw [if_pos c4] at H
          have c4b0 : decide (0 ≤ x5_1) = true := decide_eq_true c4
          clear c4
          obtain ⟨y434, hy434⟩ : ∃ y_ : List Int, y_ = (x0_1.set (x5_1 : Int).toNat x1_1) := ⟨_, rfl⟩
          replace H : (laws_markIntS.l0 k1 y434 (wrap64 (x1_1 + 1)) (wrap64 (x5_1 + 1))) = some (r1, r2) := by first | (rw [hy434]; with_reducible exact H) | (have H2_ := (Option.bind_some _ _).symm.trans H; rw [hy434]; with_reducible exact H2_) | (have H2_ := (Option.bind_some _ _).symm.trans H; with_reducible exact H2_) | with_reducible exact H | (rw [hy434]; exact H) | exact H
          have Ny434 := Aside0.mk hy434
          clear hy434
          have H' := Aside0.mk H
          clear H
          obtain ⟨Ao6, co6, eo6⟩ := Kd.R_slice HO_0.out
          subst eo6
          have p5 : 0 ≤ (x5_1 : Int) := DT
          have q5 : (x5_1 : Int) < ((x0_1.length : Int) : Int) := DT
          obtain ⟨go5, co5, eo5, gb5, gl5, cl5, HG5⟩ := Kd.R_form HO_0.out (by omega)
          (first | cases eo5 | (injection eo5 with ea_ en_ ec_; (first | subst ea_ | (injection ea_ with ea_; subst ea_)); subst ec_; clear en_))
          have GB5 := Aside0.mk gb5
          have GG5 := Aside0.mk HG5
          clear gb5 gl5 HG5
          have HMgo5 := Aside0.mk (show (P0_ go5 ∨ w.heap.size ≤ go5) from (HO_0.out.1 _ rfl))
          obtain ⟨hx5_0, hf5_0⟩ := Kd.R_celln 0 HO_0.out (x5_1 : Int) p5 q5
          replace p5 := eq_true p5
          replace q5 := eq_true q5
          have HP7 := Kd.R_putg HO_0.out (x5_1 : Int) x1_1
          go_wp2_with (first | ((with_reducible refine gate_store (t := 3) (p := 15) rfl ?_); refine store_event (t := 3) (p := 15) (v := ?vo_w8) (w1 := (wr.setCell ⟨go5, (x5_1 : Int).toNat, none⟩ (.int .i64 x1_1))) ?hg ?ho ?hn ?hr ?_; (case ho => rfl); (case hg => rfl); (case hn => rfl); (case hr => first | (go_simp; done) | (go_simp; rfl)); intro w8 hw; have hg : wr.grownBy w8 (some go5) := (by rw [hw]; exact HP7.2); have hp_ : Kd.R (Kd.int .i64) 3 w8 w0.heap.size (fun k_ => (P0_ k_ ∨ w.heap.size ≤ k_)) (.slice (some ⟨go5, 0, none⟩) x0_1.length co6) y434 := (by rw [hw, Ny434.out]; exact HP7.1); clear HP7; have n0_ := Aside0.mk (hp_); have n1_ := Aside0.mk ((by rw [hw]; exact below_set (HB.out) GB5.out : Below w0.heap.size w0 w8)); have n2_ := Aside0.mk (Kept.of_grown (S := (fun k_ => P0_ k_)) hg (by repeat (first | (with_reducible first | exact HK.out | apply Kept.alloc | apply Kept.drewN | apply Kept.drew) | exact HK.out)) (fun k_ e_ => (HO_0.out.1 k_ e_))); clear HO_0; clear HB; clear HK; have HO_0 := n0_; have HB := n1_; have HK := n2_; clear n0_ n1_ n2_; clear hg hw hp_))
          go_roundg k1
          case measure => have := HK1.out; omega
          case rel => exact ⟨(y434), (wrap64 (x1_1 + 1)), (wrap64 (x5_1 + 1)), FR, FR, H', ⟨by have := HK1.out; omega⟩, ⟨(RR HO_0.out)⟩, ⟨by repeat (first | (with_reducible first | exact HK.out | apply Kept.alloc | apply Kept.drewN | apply Kept.drew) | exact HK.out)⟩, ⟨(BB HB.out)⟩⟩
        · rw [if_neg c4] at H
          exact absurd H (by simp)
      · rw [if_neg c3] at H
        have c3b0 : decide (x5_1 < (x0_1.length : Int)) = false := decide_eq_false c3
        clear c3
        simp only [Option.some.injEq, Prod.mk.injEq] at H
        obtain ⟨rfl, rfl⟩ := H
        obtain ⟨Ao9, co9, eo9⟩ := Kd.R_slice HO_0.out
        subst eo9
        go_wp2
        go_ret
        exact ⟨ER, by (with_reducible repeat (first | apply Kd.R_alloc | apply Kd.R_drewN | apply Kd.R_drew)); exact HO_0.out, (BB HB.out), by repeat (first | (with_reducible first | exact HK.out | apply Kept.alloc | apply Kept.drewN | apply Kept.drew) | exact HK.out)⟩

end Go.Proofs.Ytfgnaneajonapaa.Pr

namespace Go.Proofs.Ytfgnaneajonapaa.Pr
open Go.RowKit Go.Proofs.YtfgnaneajonapaaW.PrintWords Go.Proofs.YtfgnaneajonapaaW.PrintLast Go.Proofs.YtfgnaneajonapaaW.PrintMore
attribute [local go_sem] max2_int min2_int max_two min_two max_three min_three max_four min_four
set_option linter.unusedVariables false
set_option linter.unusedSimpArgs false
def laws_heldIntS.l0 : Nat → List Int → Int → Int → Option (Int)
  | 0, _, _, _ => none
  | k + 1, x0, x1, x5 => if x5 < (x0.length : Int) then (if 0 ≤ x5 then (if (rd x0 x5) = x1 then (laws_heldIntS.l0 k x0 (wrap64 (x1 + 1)) (wrap64 (x5 + 1))) else (some (-1))) else (none)) else (some x1)
def laws_heldIntS.f (k : Nat) (l0 : List Int) (a1 : Int) : Option (Int) := laws_heldIntS.l0 k l0 a1 0
set_option maxHeartbeats 8000000 in
set_option maxRecDepth 100000 in
theorem laws_heldIntS.calls (k : Nat) (A0 : Option Addr) (c0 : Nat) (l0 : List Int) (a1 : Int) (r : Int) (w : World) (hr0 : Kd.C (Kd.int .i64) w A0 l0.length l0) (hc0 : l0.length ≤ c0) (h : laws_heldIntS.f k l0 a1 = some r) :
    Calls Try.prog 34 #[.slice A0 l0.length c0, .int .i64 a1] w fun e w' => e = .returned (.int .i64 r) ∧ Drawn0 w w' := by
  have HR0 := Aside0.mk hr0
  have HC0 := Aside0.mk hc0
  clear hr0 hc0
  have H : (laws_heldIntS.l0 k l0 a1 0) = some r := h
  clear h
  have H' := Aside0.mk H
  clear H
  go_enter Try.func34, Try.ntmps34
  go_wp2
  go_loopg [1, 5] k (fun kq v1 v5 w' => ∃ (x1_1 : Int) (x5_1 : Int), v1 = .int .i64 x1_1 ∧ v5 = .int .i64 x5_1 ∧ Aside0 (laws_heldIntS.l0 kq l0 x1_1 x5_1 = some r) ∧ Aside0 (kq ≤ k) ∧ Drawn0 w w')
  case atStart => exact ⟨(a1), (0), FR, FR, H', ⟨Nat.le_refl _⟩, by repeat (first | exact Drawn0.refl _ | apply Drawn0.step)⟩
  case round =>
    clear H'
    try clear p2
    obtain ⟨x1_1, x5_1, rfl, rfl, HA, HK1, ⟨m1, rfl⟩⟩ := hrel
    cases gk with
    | zero => exact absurd HA.out (by simp [laws_heldIntS.l0])
    | succ k1 =>
      have H := HA.out
      clear HA
      simp only [laws_heldIntS.l0] at H
      by_cases c3 : x5_1 < (l0.length : Int)
      · rw [if_pos c3] at H
        have c3b0 : decide (x5_1 < (l0.length : Int)) = true := decide_eq_true c3
        clear c3
        by_cases c4 : 0 ≤ x5_1
        · rw [if_pos c4] at H
          have c4b0 : decide (0 ≤ x5_1) = true := decide_eq_true c4
          clear c4
          by_cases c5 : (rd l0 x5_1) = x1_1
          · rw [if_pos c5] at H
            have c5b0 : ((rd l0 x5_1) == x1_1) = true := beq_iff_eq.mpr c5
            have c5b1 : ((rd l0 x5_1) != x1_1) = false := bne_eq_false_iff_eq.mpr c5
            clear c5
            have H' := Aside0.mk H
            clear H
            have p435 : 0 ≤ (x5_1 : Int) := DT
            have q435 : x5_1 < (l0.length : Int) := DT
            obtain ⟨ad435, e435, hx435_0⟩ := Kd.at_int HR0.out x5_1 p435 q435
            cases e435
            replace p435 := eq_true p435
            replace q435 := eq_true q435
            go_wp2
            go_roundg k1
            case measure => have := HK1.out; omega
            case rel => exact ⟨(wrap64 (x1_1 + 1)), (wrap64 (x5_1 + 1)), FR, FR, H', ⟨by have := HK1.out; omega⟩, by repeat (first | exact Drawn0.refl _ | apply Drawn0.step)⟩
          · rw [if_neg c5] at H
            have c5b0 : ((rd l0 x5_1) == x1_1) = false := beq_eq_false_iff_ne.mpr c5
            have c5b1 : ((rd l0 x5_1) != x1_1) = true := bne_iff_ne.mpr c5
            obtain rfl := Option.some.inj H
            have p435 : 0 ≤ (x5_1 : Int) := DT
            have q435 : x5_1 < (l0.length : Int) := DT
            obtain ⟨ad435, e435, hx435_0⟩ := Kd.at_int HR0.out x5_1 p435 q435
            cases e435
            replace p435 := eq_true p435
            replace q435 := eq_true q435
            go_wp2
            go_ret
            exact ⟨FR, by repeat (first | exact Drawn0.refl _ | apply Drawn0.step)⟩
        · rw [if_neg c4] at H
          exact absurd H (by simp)
      · rw [if_neg c3] at H
        have c3b0 : decide (x5_1 < (l0.length : Int)) = false := decide_eq_false c3
        clear c3
        obtain rfl := Option.some.inj H
        go_wp2
        go_ret
        exact ⟨FR, by repeat (first | exact Drawn0.refl _ | apply Drawn0.step)⟩

end Go.Proofs.Ytfgnaneajonapaa.Pr

namespace Go.Proofs.Ytfgnaneajonapaa.Lw
open Go.RowKit Go.Proofs.YtfgnaneajonapaaW.PrintWords Go.Proofs.Ytfgnaneajonapaa.Pr Go.Proofs.Ytfgnaneajonapaa.Evs
set_option linter.unusedVariables false
noncomputable def mkIntS : List Int → Int → List Int
  | [], _ => []
  | _ :: s, n => n :: mkIntS s (n + 1)
theorem markIntS_loop (s : List Int) : ∀ (q : List Int) (n : Int), 0 ≤ n → n + s.length < 9223372036854775000 → q.length + s.length < 9223372036854775807 →
    Ev (fun k => laws_markIntS.l0 k (q ++ s) n (q.length : Int)) (n + s.length, q ++ mkIntS s n) := by
  induction s with
  | nil => intro q n h0 h1 hl; exact ev_step (fun k => laws_markIntS.l0.eq_2 _ _ _ k) (ev_neg (by simp) (ev_eq (ev_some _) (by simp [mkIntS])))
  | cons x s ih =>
    intro q n h0 h1 hl
    simp at h1 hl
    have e1 : wrap64 (n + 1) = n + 1 := wrap_in (by omega) (by omega)
    have e0 : wrap64 ((q.length : Int) + 1) = (q.length : Int) + 1 := wrap_in (by omega) (by omega)
    have hr : (n + ((x :: s).length : Int), q ++ mkIntS (x :: s) n) = (n + 1 + (s.length : Int), (q ++ [n]) ++ mkIntS s (n + 1)) := by
      simp [mkIntS]
      omega
    rw [hr]
    have h := ih (q ++ [n]) (n + 1) (by omega) (by omega) (by simp; omega)
    refine ev_step (fun k => laws_markIntS.l0.eq_2 _ _ _ k) ?_
    simp only [e0, e1]
    repeat (first | with_reducible refine ev_pos (by first | omega | (simp; omega)) ?_ | with_reducible refine ev_bind (mt_ev _ (by omega)) ?_ | with_reducible refine ev_call rfl ?_)
    simp only [set_mid _ _ _ _ _ rfl]
    simpa using h
theorem markIntS_ev (l : List Int) (n : Int) (h0 : 0 ≤ n) (h1 : n + l.length < 9223372036854775000) : Ev (fun k => laws_markIntS.f k l n) (n + l.length, mkIntS l n) := by
  unfold laws_markIntS.f
  simpa using markIntS_loop l [] n h0 h1 (by simp; omega)
theorem heldIntS_loop (s : List Int) : ∀ (q : List Int) (n : Int), 0 ≤ n → n + s.length < 9223372036854775000 → q.length + s.length < 9223372036854775807 →
    Ev (fun k => laws_heldIntS.l0 k (q ++ mkIntS s n) n (q.length : Int)) (n + s.length) := by
  induction s with
  | nil => intro q n h0 h1 hl; exact ev_step (fun k => laws_heldIntS.l0.eq_2 _ _ _ k) (ev_neg (by simp [mkIntS]) (ev_eq (ev_some _) (by simp)))
  | cons x s ih =>
    intro q n h0 h1 hl
    simp at h1 hl
    have e1 : wrap64 (n + 1) = n + 1 := wrap_in (by omega) (by omega)
    have e0 : wrap64 ((q.length : Int) + 1) = (q.length : Int) + 1 := wrap_in (by omega) (by omega)
    simp only [mkIntS]
    refine ev_step (fun k => laws_heldIntS.l0.eq_2 _ _ _ k) ?_
    simp only [rdInt, e0, e1]
    repeat (first | with_reducible refine ev_pos (by first | omega | (simp; done) | (simp; omega)) ?_ | with_reducible refine ev_neg (by simp; done) ?_ | with_reducible refine ev_bind (mt_ev _ (by omega)) ?_)
    have h := ih (q ++ [n]) (n + 1) (by omega) (by omega) (by simp; omega)
    have hr : n + ((x :: s).length : Int) = n + 1 + (s.length : Int) := by simp; omega
    rw [hr]
    simpa using h
theorem heldIntS_ev (l : List Int) (n : Int) (h0 : 0 ≤ n) (h1 : n + l.length < 9223372036854775000) : Ev (fun k => laws_heldIntS.f k (mkIntS l n) n) (n + l.length) := by
  unfold laws_heldIntS.f
  simpa using heldIntS_loop l [] n h0 h1 (by simp; omega)
end Go.Proofs.Ytfgnaneajonapaa.Lw

namespace Go.Proofs.Ytfgnaneajonapaa.Pr
open Go.RowKit Go.Proofs.YtfgnaneajonapaaW.PrintWords Go.Proofs.YtfgnaneajonapaaW.PrintLast Go.Proofs.YtfgnaneajonapaaW.PrintMore
attribute [local go_sem] max2_int min2_int max_two min_two max_three min_three max_four min_four
set_option linter.unusedVariables false
set_option linter.unusedSimpArgs false
def laws_markStringS.l0 : Nat → List ByteArray → Int → Int → Option (Int × List ByteArray)
  | 0, _, _, _ => none
  | k + 1, x0, x1, x5 => if x5 < (x0.length : Int) then ((laws_markText.f k x1).bind fun t239 => (if 0 ≤ x5 then (laws_markStringS.l0 k (x0.set (x5 : Int).toNat t239) (wrap64 (x1 + 1)) (wrap64 (x5 + 1))) else (none))) else (some (x1, x0))
def laws_markStringS.f (k : Nat) (l0 : List ByteArray) (a1 : Int) : Option (Int × List ByteArray) := laws_markStringS.l0 k l0 a1 0
set_option maxHeartbeats 8000000 in
set_option maxRecDepth 100000 in
theorem laws_markStringS.calls (k : Nat) (P0_ : Nat → Prop) (u9000_ : Value) (l0 : List ByteArray) (a1 : Int) (r1 : Int) (r2 : List ByteArray) (w0 w : World) (hB : Below w0.heap.size w0 w) (ho0 : Kd.R Kd.string 9 w w0.heap.size P0_ u9000_ l0) (h : laws_markStringS.f k l0 a1 = some (r1, r2)) :
    Calls Try.prog 21 #[u9000_, .int .i64 a1] w fun e w' => e = .returned (.int .i64 r1) ∧ Kd.R Kd.string 9 w' w0.heap.size (fun k_ => (P0_ k_ ∨ w.heap.size ≤ k_)) u9000_ r2 ∧ Below w0.heap.size w0 w' ∧ Kept w w' (fun k_ => P0_ k_) := by
  have HO0 := Aside0.mk (show Kd.R Kd.string 9 w w0.heap.size (fun k_ => (P0_ k_ ∨ w.heap.size ≤ k_)) u9000_ l0 from Kd.R_mono ho0 (fun k_ hk => (.inl hk)))
  have HK := Aside0.mk (Kept.refl w (fun k_ => P0_ k_))
  have HW0 := Aside0.mk hB.size
  have HB := Aside0.mk hB
  clear hB
  have H : (laws_markStringS.l0 k l0 a1 0) = some (r1, r2) := h
  clear h
  have H' := Aside0.mk H
  clear H
  go_enter Try.func21, Try.ntmps21
  go_wp2
  go_loopg [1, 5] k (fun kq v1 v5 w' => ∃ (x0_1 : List ByteArray) (x1_1 : Int) (x5_1 : Int), v1 = .int .i64 x1_1 ∧ v5 = .int .i64 x5_1 ∧ Aside0 (laws_markStringS.l0 kq x0_1 x1_1 x5_1 = some (r1, r2)) ∧ Aside0 (kq ≤ k) ∧ Aside0 (Kd.R Kd.string 9 w' w0.heap.size (fun k_ => (P0_ k_ ∨ w.heap.size ≤ k_)) u9000_ x0_1) ∧ Aside0 (Kept w w' (fun k_ => P0_ k_)) ∧ Aside0 (Below w0.heap.size w0 w'))
  case atStart => exact ⟨(l0), (a1), (0), FR, FR, H', ⟨Nat.le_refl _⟩, ⟨(RR HO0.out)⟩, ⟨by repeat (first | (with_reducible first | exact HK.out | apply Kept.alloc | apply Kept.drewN | apply Kept.drew) | exact HK.out)⟩, ⟨(BB HB.out)⟩⟩
  case round =>
    clear H'
    try clear c2
    try clear p2
    obtain ⟨x0_1, x1_1, x5_1, rfl, rfl, HA, HK1, HO_0, HK, HB⟩ := hrel
    cases gk with
    | zero => exact absurd HA.out (by simp [laws_markStringS.l0])
    | succ k1 =>
      have H := HA.out
      clear HA
      simp only [laws_markStringS.l0] at H
      by_cases c3 : x5_1 < (x0_1.length : Int)
      · rw [if_pos c3] at H
        have c3b0 : decide (x5_1 < (x0_1.length : Int)) = true := decide_eq_true c3
        clear c3
        replace H := Option.bind_eq_some_iff.mp H
        obtain ⟨t239, A40, H⟩ := H
        replace H : (if 0 ≤ x5_1 then (laws_markStringS.l0 k1 (x0_1.set (x5_1 : Int).toNat t239) (wrap64 (x1_1 + 1)) (wrap64 (x5_1 + 1))) else (none)) = some (r1, r2) := H
        have A4 := Aside0.mk A40
        clear A40
        by_cases c5 : 0 ≤ x5_1
        · rw [if_pos c5] at H
          have c5b0 : decide (0 ≤ x5_1) = true := decide_eq_true c5
          clear c5
          obtain ⟨y240, hy240⟩ : ∃ y_ : List ByteArray, y_ = (x0_1.set (x5_1 : Int).toNat t239) := ⟨_, rfl⟩
          replace H : (laws_markStringS.l0 k1 y240 (wrap64 (x1_1 + 1)) (wrap64 (x5_1 + 1))) = some (r1, r2) := by first | (rw [hy240]; with_reducible exact H) | (have H2_ := (Option.bind_some _ _).symm.trans H; rw [hy240]; with_reducible exact H2_) | (have H2_ := (Option.bind_some _ _).symm.trans H; with_reducible exact H2_) | with_reducible exact H | (rw [hy240]; exact H) | exact H
          have Ny240 := Aside0.mk hy240
          clear hy240
          have H' := Aside0.mk H
          clear H
          obtain ⟨Ao7, co7, eo7⟩ := Kd.R_slice HO_0.out
          subst eo7
          go_wp2_with (first | ((with_reducible refine gate_callee (f := 60) rfl ?_); refine GL (some 15) rfl rfl Try.func60 #[.int .i64 x1_1] rfl ?_; (with_reducible refine (laws_markText.calls k1 x1_1 t239 _ A4.out).mono ?_); rintro e w8 ⟨rfl, hb⟩; refine ⟨_, rfl, ?_⟩; replace HO_0 := Aside0.mk (Kd.R_below (RR HO_0.out) hb); replace HK := Aside0.mk (Kept.below (S := (fun k_ => P0_ k_)) (by repeat (first | (with_reducible first | exact HK.out | apply Kept.alloc | apply Kept.drewN | apply Kept.drew) | exact HK.out)) hb); replace HB := Aside0.mk (below_step (BB HB.out) hb); (try clear hb); have p6 : 0 ≤ (x5_1 : Int) := DT; have q6 : (x5_1 : Int) < ((x0_1.length : Int) : Int) := DT; obtain ⟨go6, co6, eo6, gb6, gl6, cl6, HG6⟩ := Kd.R_form HO_0.out (by omega); (first | cases eo6 | (injection eo6 with ea_ en_ ec_; (first | subst ea_ | (injection ea_ with ea_; subst ea_)); subst ec_; clear en_)); have GB6 := Aside0.mk gb6; have GG6 := Aside0.mk HG6; clear gb6 gl6 HG6; have HMgo6 := Aside0.mk (show (P0_ go6 ∨ w.heap.size ≤ go6) from (HO_0.out.1 _ rfl)); obtain ⟨hx6_0, hf6_0⟩ := Kd.R_celln (⟨#[]⟩ : ByteArray) HO_0.out (x5_1 : Int) p6 q6; replace p6 := eq_true p6; replace q6 := eq_true q6; obtain ⟨hy9_, hz9_⟩ := Kd.R_celln (⟨#[]⟩ : ByteArray) HO_0.out (x5_1 : Int) DT DT; have HP9 := Kd.R_putg HO_0.out (x5_1 : Int) t239) | ((with_reducible refine gate_store (t := 9) (p := 16) rfl ?_); refine store_event (t := 9) (p := 16) (v := ?vo_w10) (w1 := (w8.setCell ⟨go6, (x5_1 : Int).toNat, none⟩ (.string t239))) ?hg ?ho ?hn ?hr ?_; (case ho => rfl); (case hg => rfl); (case hn => rfl); (case hr => first | (go_simp; done) | (go_simp; rfl)); intro w10 hw; have hg : w8.grownBy w10 (some go6) := (by rw [hw]; exact HP9.2); have hp_ : Kd.R Kd.string 9 w10 w0.heap.size (fun k_ => (P0_ k_ ∨ w.heap.size ≤ k_)) (.slice (some ⟨go6, 0, none⟩) x0_1.length co7) y240 := (by rw [hw, Ny240.out]; exact HP9.1); clear HP9; have n0_ := Aside0.mk (hp_); have n1_ := Aside0.mk ((by rw [hw]; exact below_set (HB.out) GB6.out : Below w0.heap.size w0 w10)); have n2_ := Aside0.mk (Kept.of_grown (S := (fun k_ => P0_ k_)) hg (by repeat (first | (with_reducible first | exact HK.out | apply Kept.alloc | apply Kept.drewN | apply Kept.drew) | exact HK.out)) (fun k_ e_ => (HO_0.out.1 k_ e_))); clear HO_0; clear HB; clear HK; have HO_0 := n0_; have HB := n1_; have HK := n2_; clear n0_ n1_ n2_; clear hg hw hp_))
          go_roundg k1
          case measure => have := HK1.out; omega
          case rel => exact ⟨(y240), (wrap64 (x1_1 + 1)), (wrap64 (x5_1 + 1)), FR, FR, H', ⟨by have := HK1.out; omega⟩, ⟨(RR HO_0.out)⟩, ⟨by repeat (first | (with_reducible first | exact HK.out | apply Kept.alloc | apply Kept.drewN | apply Kept.drew) | exact HK.out)⟩, ⟨(BB HB.out)⟩⟩
        · rw [if_neg c5] at H
          exact absurd H (by simp)
      · rw [if_neg c3] at H
        have c3b0 : decide (x5_1 < (x0_1.length : Int)) = false := decide_eq_false c3
        clear c3
        simp only [Option.some.injEq, Prod.mk.injEq] at H
        obtain ⟨rfl, rfl⟩ := H
        obtain ⟨Ao11, co11, eo11⟩ := Kd.R_slice HO_0.out
        subst eo11
        go_wp2
        go_ret
        exact ⟨ER, by (with_reducible repeat (first | apply Kd.R_alloc | apply Kd.R_drewN | apply Kd.R_drew)); exact HO_0.out, (BB HB.out), by repeat (first | (with_reducible first | exact HK.out | apply Kept.alloc | apply Kept.drewN | apply Kept.drew) | exact HK.out)⟩

end Go.Proofs.Ytfgnaneajonapaa.Pr

namespace Go.Proofs.Ytfgnaneajonapaa.Pr
open Go.RowKit Go.Proofs.YtfgnaneajonapaaW.PrintWords Go.Proofs.YtfgnaneajonapaaW.PrintLast Go.Proofs.YtfgnaneajonapaaW.PrintMore
attribute [local go_sem] max2_int min2_int max_two min_two max_three min_three max_four min_four
set_option linter.unusedVariables false
set_option linter.unusedSimpArgs false
def laws_heldStringS.l0 : Nat → List ByteArray → Int → Int → Option (Int)
  | 0, _, _, _ => none
  | k + 1, x0, x1, x5 => if x5 < (x0.length : Int) then (if 0 ≤ x5 then ((laws_markText.f k x1).bind fun t243 => (if (rdOf ByteArray.empty x0 x5).toList = t243.toList then (laws_heldStringS.l0 k x0 (wrap64 (x1 + 1)) (wrap64 (x5 + 1))) else (some (-1)))) else (none)) else (some x1)
def laws_heldStringS.f (k : Nat) (l0 : List ByteArray) (a1 : Int) : Option (Int) := laws_heldStringS.l0 k l0 a1 0
set_option maxHeartbeats 8000000 in
set_option maxRecDepth 100000 in
theorem laws_heldStringS.calls (k : Nat) (A0 : Option Addr) (c0 : Nat) (l0 : List ByteArray) (a1 : Int) (r : Int) (w : World) (hr0 : Kd.C Kd.string w A0 l0.length l0) (hc0 : l0.length ≤ c0) (h : laws_heldStringS.f k l0 a1 = some r) :
    Calls Try.prog 23 #[.slice A0 l0.length c0, .int .i64 a1] w fun e w' => e = .returned (.int .i64 r) ∧ Below w.heap.size w w' := by
  have HR0 := Aside0.mk hr0
  have HC0 := Aside0.mk hc0
  clear hr0 hc0
  have HB := Aside0.mk (Below.refl w.heap.size w)
  have H : (laws_heldStringS.l0 k l0 a1 0) = some r := h
  clear h
  have H' := Aside0.mk H
  clear H
  go_enter Try.func23, Try.ntmps23
  go_wp2
  go_loopg [1, 5] k (fun kq v1 v5 w' => ∃ (x1_1 : Int) (x5_1 : Int), v1 = .int .i64 x1_1 ∧ v5 = .int .i64 x5_1 ∧ Aside0 (laws_heldStringS.l0 kq l0 x1_1 x5_1 = some r) ∧ Aside0 (kq ≤ k) ∧ Aside0 (Below w.heap.size w w'))
  case atStart => exact ⟨(a1), (0), FR, FR, H', ⟨Nat.le_refl _⟩, ⟨(BB HB.out)⟩⟩
  case round =>
    clear H'
    try clear c2
    try clear p2
    obtain ⟨x1_1, x5_1, rfl, rfl, HA, HK1, HB⟩ := hrel
    cases gk with
    | zero => exact absurd HA.out (by simp [laws_heldStringS.l0])
    | succ k1 =>
      have H := HA.out
      clear HA
      simp only [laws_heldStringS.l0] at H
      by_cases c3 : x5_1 < (l0.length : Int)
      · rw [if_pos c3] at H
        have c3b0 : decide (x5_1 < (l0.length : Int)) = true := decide_eq_true c3
        clear c3
        by_cases c4 : 0 ≤ x5_1
        · rw [if_pos c4] at H
          have c4b0 : decide (0 ≤ x5_1) = true := decide_eq_true c4
          clear c4
          replace H := Option.bind_eq_some_iff.mp H
          obtain ⟨t243, A50, H⟩ := H
          replace H : (if (rdOf ByteArray.empty l0 x5_1).toList = t243.toList then (laws_heldStringS.l0 k1 l0 (wrap64 (x1_1 + 1)) (wrap64 (x5_1 + 1))) else (some (-1))) = some r := H
          have A5 := Aside0.mk A50
          clear A50
          by_cases c6 : (rdOf ByteArray.empty l0 x5_1).toList = t243.toList
          · rw [if_pos c6] at H
            have c6b0 : ((rdOf ByteArray.empty l0 x5_1).toList == t243.toList) = true := beq_iff_eq.mpr c6
            have c6b1 : ((rdOf ByteArray.empty l0 x5_1).toList != t243.toList) = false := bne_eq_false_iff_eq.mpr c6
            clear c6
            have H' := Aside0.mk H
            clear H
            try go_wp2
            have n0_ := Aside0.mk (below_drew1 HB.out)
            clear HB
            have HB := n0_
            clear n0_
            have p242 : 0 ≤ (x5_1 : Int) := DT
            have q242 : x5_1 < (l0.length : Int) := DT
            obtain ⟨ad242, e242, hx242_0⟩ := Kd.at_string HR0.out x5_1 p242 q242
            have hw242_0 := hx242_0
            cases e242
            replace hx242_0 := (HB.out.cell (World.block_lt_of_cell? w _ hx242_0)).trans hx242_0
            replace p242 := eq_true p242
            replace q242 := eq_true q242
            refine start_ (n := 7) (S := fun w' => w'.cell? (ad242.add (x5_1).toNat) = some (.string (rdOf ByteArray.empty l0 x5_1))) (ds := []) #[false, false, false, false, false, false, false] (by kernel_rfl) rfl rfl (((HB.out.cell (World.block_lt_of_cell? w _ hw242_0)).trans hw242_0)) (fun hHeld => ?_)
            generalize wr.drew = w7 at HB hx242_0 hHeld ⊢
            refine pure_ (i := 0) (N := some 12) (v := ?_) (a' := ?_) #[true, false, false, false, false, false, false] rfl rfl (by kernel_rfl) (fun _ _ _ h => h) (Or.inl ⟨by rfl, ?_⟩) ?_ ?_
            rotate_left
            · intro w'
              go_simp
              with_reducible rfl
            rotate_left
            · simp only [Act.put, List.setIfInBounds_toArray, List.set_cons_zero, List.set_cons_succ, i64_w, i32_w]
              rfl
            refine pure_ (i := 1) (N := some 13) (v := ?_) (a' := ?_) #[true, true, false, false, false, false, false] rfl rfl (by kernel_rfl) (fun _ _ _ h => h) (Or.inl ⟨by rfl, ?_⟩) ?_ ?_
            rotate_left
            · intro w'
              go_simp
              with_reducible rfl
            rotate_left
            · simp only [Act.put, List.setIfInBounds_toArray, List.set_cons_zero, List.set_cons_succ, i64_w, i32_w]
              rfl
            refine pure_ (i := 2) (N := some 14) (v := ?_) (a' := ?_) #[true, true, true, false, false, false, false] rfl rfl (by kernel_rfl) (fun _ _ _ h => h) (Or.inl ⟨by rfl, ?_⟩) ?_ ?_
            rotate_left
            · intro w'
              go_simp
              with_reducible rfl
            rotate_left
            · simp only [Act.put, List.setIfInBounds_toArray, List.set_cons_zero, List.set_cons_succ, i64_w, i32_w]
              rfl
            refine pure_ (i := 4) (N := some 16) (v := ?_) (a' := ?_) #[true, true, true, false, true, false, false] rfl rfl (by kernel_rfl) (fun _ _ _ h => h) (Or.inl ⟨by rfl, ?_⟩) ?_ ?_
            rotate_left
            · intro w'
              go_simp
              with_reducible rfl
            rotate_left
            · simp only [Act.put, List.setIfInBounds_toArray, List.set_cons_zero, List.set_cons_succ, i64_w, i32_w]
              rfl
            refine take_ (i := 3) (N := some 15) (v := ?_) (a' := ?_) #[true, true, true, true, true, false, false] rfl rfl (by kernel_rfl) (fun _ _ _ h => h) (Or.inl ⟨by rfl, ?_⟩) hHeld ?_ ?_
            rotate_left
            · intro w' s0
              go_simp
              with_reducible rfl
            rotate_left
            · simp only [Act.put, List.setIfInBounds_toArray, List.set_cons_zero, List.set_cons_succ, i64_w, i32_w]
              rfl
            refine one_ (i := 5) (N := some 17) #[true, true, true, true, true, true, false] rfl rfl (by kernel_rfl) (by decide) (fun K hK => ?_)
            refine goes_ Try.func60 (by kernel_rfl) rfl #[.int .i64 x1_1] (by rfl) rfl rfl (by (try simp only [List.map_toArray, List.map_cons, List.map_nil]); first | done | rfl | (simp only [List.length_drop, List.length_take]; rfl)) ?_
            with_reducible refine (laws_markText.calls k1 x1_1 t243 _ A5.out).mono ?_
            rintro e w8 ⟨rfl, hb⟩
            refine ⟨_, rfl, ?_⟩
            have n0_ := Aside0.mk (below_step (BB HB.out) hb)
            clear HB
            have HB := n0_
            clear n0_
            (try clear hb)
            (try clear hb2)
            (try clear hk)
            (try clear hi)
            refine hK.out _ _ (((HB.out.cell (World.block_lt_of_cell? w _ hw242_0)).trans hw242_0)) (fun hHeld => ?_)
            clear hK K
            refine norm_ (a' := ?_) ?_ ?_
            rotate_left
            · show Act.put _ (some 17) _ = _
              simp only [Act.put, List.setIfInBounds_toArray, List.set_cons_zero, List.set_cons_succ, i64_w, i32_w]
              rfl
            refine pure_ (i := 6) (N := some 18) (v := ?_) (a' := ?_) #[true, true, true, true, true, true, true] rfl rfl (by kernel_rfl) (fun _ _ _ h => h) (Or.inl ⟨by rfl, ?_⟩) ?_ ?_
            rotate_left
            · intro w'
              go_simp
              with_reducible rfl
            rotate_left
            · simp only [Act.put, List.setIfInBounds_toArray, List.set_cons_zero, List.set_cons_succ, i64_w, i32_w]
              rfl
            refine done_ (by kernel_rfl) ?_
            try go_wp2
            go_roundg k1
            case measure => have := HK1.out; omega
            case rel => exact ⟨(wrap64 (x1_1 + 1)), (wrap64 (x5_1 + 1)), FR, FR, H', ⟨by have := HK1.out; omega⟩, ⟨(BB HB.out)⟩⟩
          · rw [if_neg c6] at H
            have c6b0 : ((rdOf ByteArray.empty l0 x5_1).toList == t243.toList) = false := beq_eq_false_iff_ne.mpr c6
            have c6b1 : ((rdOf ByteArray.empty l0 x5_1).toList != t243.toList) = true := bne_iff_ne.mpr c6
            obtain rfl := Option.some.inj H
            try go_wp2
            have n0_ := Aside0.mk (below_drew1 HB.out)
            clear HB
            have HB := n0_
            clear n0_
            have p242 : 0 ≤ (x5_1 : Int) := DT
            have q242 : x5_1 < (l0.length : Int) := DT
            obtain ⟨ad242, e242, hx242_0⟩ := Kd.at_string HR0.out x5_1 p242 q242
            have hw242_0 := hx242_0
            cases e242
            replace hx242_0 := (HB.out.cell (World.block_lt_of_cell? w _ hx242_0)).trans hx242_0
            replace p242 := eq_true p242
            replace q242 := eq_true q242
            refine start_ (n := 7) (S := fun w' => w'.cell? (ad242.add (x5_1).toNat) = some (.string (rdOf ByteArray.empty l0 x5_1))) (ds := []) #[false, false, false, false, false, false, false] (by kernel_rfl) rfl rfl (((HB.out.cell (World.block_lt_of_cell? w _ hw242_0)).trans hw242_0)) (fun hHeld => ?_)
            generalize wr.drew = w9 at HB hx242_0 hHeld ⊢
            refine pure_ (i := 0) (N := some 12) (v := ?_) (a' := ?_) #[true, false, false, false, false, false, false] rfl rfl (by kernel_rfl) (fun _ _ _ h => h) (Or.inl ⟨by rfl, ?_⟩) ?_ ?_
            rotate_left
            · intro w'
              go_simp
              with_reducible rfl
            rotate_left
            · simp only [Act.put, List.setIfInBounds_toArray, List.set_cons_zero, List.set_cons_succ, i64_w, i32_w]
              rfl
            refine pure_ (i := 1) (N := some 13) (v := ?_) (a' := ?_) #[true, true, false, false, false, false, false] rfl rfl (by kernel_rfl) (fun _ _ _ h => h) (Or.inl ⟨by rfl, ?_⟩) ?_ ?_
            rotate_left
            · intro w'
              go_simp
              with_reducible rfl
            rotate_left
            · simp only [Act.put, List.setIfInBounds_toArray, List.set_cons_zero, List.set_cons_succ, i64_w, i32_w]
              rfl
            refine pure_ (i := 2) (N := some 14) (v := ?_) (a' := ?_) #[true, true, true, false, false, false, false] rfl rfl (by kernel_rfl) (fun _ _ _ h => h) (Or.inl ⟨by rfl, ?_⟩) ?_ ?_
            rotate_left
            · intro w'
              go_simp
              with_reducible rfl
            rotate_left
            · simp only [Act.put, List.setIfInBounds_toArray, List.set_cons_zero, List.set_cons_succ, i64_w, i32_w]
              rfl
            refine pure_ (i := 4) (N := some 16) (v := ?_) (a' := ?_) #[true, true, true, false, true, false, false] rfl rfl (by kernel_rfl) (fun _ _ _ h => h) (Or.inl ⟨by rfl, ?_⟩) ?_ ?_
            rotate_left
            · intro w'
              go_simp
              with_reducible rfl
            rotate_left
            · simp only [Act.put, List.setIfInBounds_toArray, List.set_cons_zero, List.set_cons_succ, i64_w, i32_w]
              rfl
            refine take_ (i := 3) (N := some 15) (v := ?_) (a' := ?_) #[true, true, true, true, true, false, false] rfl rfl (by kernel_rfl) (fun _ _ _ h => h) (Or.inl ⟨by rfl, ?_⟩) hHeld ?_ ?_
            rotate_left
            · intro w' s0
              go_simp
              with_reducible rfl
            rotate_left
            · simp only [Act.put, List.setIfInBounds_toArray, List.set_cons_zero, List.set_cons_succ, i64_w, i32_w]
              rfl
            refine one_ (i := 5) (N := some 17) #[true, true, true, true, true, true, false] rfl rfl (by kernel_rfl) (by decide) (fun K hK => ?_)
            refine goes_ Try.func60 (by kernel_rfl) rfl #[.int .i64 x1_1] (by rfl) rfl rfl (by (try simp only [List.map_toArray, List.map_cons, List.map_nil]); first | done | rfl | (simp only [List.length_drop, List.length_take]; rfl)) ?_
            with_reducible refine (laws_markText.calls k1 x1_1 t243 _ A5.out).mono ?_
            rintro e w10 ⟨rfl, hb⟩
            refine ⟨_, rfl, ?_⟩
            have n0_ := Aside0.mk (below_step (BB HB.out) hb)
            clear HB
            have HB := n0_
            clear n0_
            (try clear hb)
            (try clear hb2)
            (try clear hk)
            (try clear hi)
            refine hK.out _ _ (((HB.out.cell (World.block_lt_of_cell? w _ hw242_0)).trans hw242_0)) (fun hHeld => ?_)
            clear hK K
            refine norm_ (a' := ?_) ?_ ?_
            rotate_left
            · show Act.put _ (some 17) _ = _
              simp only [Act.put, List.setIfInBounds_toArray, List.set_cons_zero, List.set_cons_succ, i64_w, i32_w]
              rfl
            refine pure_ (i := 6) (N := some 18) (v := ?_) (a' := ?_) #[true, true, true, true, true, true, true] rfl rfl (by kernel_rfl) (fun _ _ _ h => h) (Or.inl ⟨by rfl, ?_⟩) ?_ ?_
            rotate_left
            · intro w'
              go_simp
              with_reducible rfl
            rotate_left
            · simp only [Act.put, List.setIfInBounds_toArray, List.set_cons_zero, List.set_cons_succ, i64_w, i32_w]
              rfl
            refine done_ (by kernel_rfl) ?_
            try go_wp2
            go_ret
            exact ⟨ER, (BB HB.out)⟩
        · rw [if_neg c4] at H
          exact absurd H (by simp)
      · rw [if_neg c3] at H
        have c3b0 : decide (x5_1 < (l0.length : Int)) = false := decide_eq_false c3
        clear c3
        obtain rfl := Option.some.inj H
        go_wp2
        go_ret
        exact ⟨ER, (BB HB.out)⟩

end Go.Proofs.Ytfgnaneajonapaa.Pr

namespace Go.Proofs.Ytfgnaneajonapaa.Lw
open Go.RowKit Go.Proofs.YtfgnaneajonapaaW.PrintWords Go.Proofs.Ytfgnaneajonapaa.Pr Go.Proofs.Ytfgnaneajonapaa.Evs
set_option linter.unusedVariables false
noncomputable def mkStringS : List ByteArray → Int → List ByteArray
  | [], _ => []
  | _ :: s, n => mt n :: mkStringS s (n + 1)
theorem markStringS_loop (s : List ByteArray) : ∀ (q : List ByteArray) (n : Int), 0 ≤ n → n + s.length < 9223372036854775000 → q.length + s.length < 9223372036854775807 →
    Ev (fun k => laws_markStringS.l0 k (q ++ s) n (q.length : Int)) (n + s.length, q ++ mkStringS s n) := by
  induction s with
  | nil => intro q n h0 h1 hl; exact ev_step (fun k => laws_markStringS.l0.eq_2 _ _ _ k) (ev_neg (by simp) (ev_eq (ev_some _) (by simp [mkStringS])))
  | cons x s ih =>
    intro q n h0 h1 hl
    simp at h1 hl
    have e1 : wrap64 (n + 1) = n + 1 := wrap_in (by omega) (by omega)
    have e0 : wrap64 ((q.length : Int) + 1) = (q.length : Int) + 1 := wrap_in (by omega) (by omega)
    have hr : (n + ((x :: s).length : Int), q ++ mkStringS (x :: s) n) = (n + 1 + (s.length : Int), (q ++ [mt n]) ++ mkStringS s (n + 1)) := by
      simp [mkStringS]
      omega
    rw [hr]
    have h := ih (q ++ [mt n]) (n + 1) (by omega) (by omega) (by simp; omega)
    refine ev_step (fun k => laws_markStringS.l0.eq_2 _ _ _ k) ?_
    simp only [e0, e1]
    repeat (first | with_reducible refine ev_pos (by first | omega | (simp; omega)) ?_ | with_reducible refine ev_bind (mt_ev _ (by omega)) ?_ | with_reducible refine ev_call rfl ?_)
    simp only [set_mid _ _ _ _ _ rfl]
    simpa using h
theorem markStringS_ev (l : List ByteArray) (n : Int) (h0 : 0 ≤ n) (h1 : n + l.length < 9223372036854775000) : Ev (fun k => laws_markStringS.f k l n) (n + l.length, mkStringS l n) := by
  unfold laws_markStringS.f
  simpa using markStringS_loop l [] n h0 h1 (by simp; omega)
theorem heldStringS_loop (s : List ByteArray) : ∀ (q : List ByteArray) (n : Int), 0 ≤ n → n + s.length < 9223372036854775000 → q.length + s.length < 9223372036854775807 →
    Ev (fun k => laws_heldStringS.l0 k (q ++ mkStringS s n) n (q.length : Int)) (n + s.length) := by
  induction s with
  | nil => intro q n h0 h1 hl; exact ev_step (fun k => laws_heldStringS.l0.eq_2 _ _ _ k) (ev_neg (by simp [mkStringS]) (ev_eq (ev_some _) (by simp)))
  | cons x s ih =>
    intro q n h0 h1 hl
    simp at h1 hl
    have e1 : wrap64 (n + 1) = n + 1 := wrap_in (by omega) (by omega)
    have e0 : wrap64 ((q.length : Int) + 1) = (q.length : Int) + 1 := wrap_in (by omega) (by omega)
    simp only [mkStringS]
    refine ev_step (fun k => laws_heldStringS.l0.eq_2 _ _ _ k) ?_
    simp only [rdString, e0, e1]
    repeat (first | with_reducible refine ev_pos (by first | omega | (simp; done) | (simp; omega)) ?_ | with_reducible refine ev_neg (by simp; done) ?_ | with_reducible refine ev_bind (mt_ev _ (by omega)) ?_)
    have h := ih (q ++ [mt n]) (n + 1) (by omega) (by omega) (by simp; omega)
    have hr : n + ((x :: s).length : Int) = n + 1 + (s.length : Int) := by simp; omega
    rw [hr]
    simpa using h
theorem heldStringS_ev (l : List ByteArray) (n : Int) (h0 : 0 ≤ n) (h1 : n + l.length < 9223372036854775000) : Ev (fun k => laws_heldStringS.f k (mkStringS l n) n) (n + l.length) := by
  unfold laws_heldStringS.f
  simpa using heldStringS_loop l [] n h0 h1 (by simp; omega)
end Go.Proofs.Ytfgnaneajonapaa.Lw

namespace Go.Proofs.Ytfgnaneajonapaa.Pr
open Go.RowKit Go.Proofs.YtfgnaneajonapaaW.PrintWords Go.Proofs.YtfgnaneajonapaaW.PrintLast Go.Proofs.YtfgnaneajonapaaW.PrintMore
attribute [local go_sem] max2_int min2_int max_two min_two max_three min_three max_four min_four
set_option linter.unusedVariables false
set_option linter.unusedSimpArgs false
def laws_markSizeS.l0 : Nat → List (S168) → Int → Int → Option (Int × (List (S168)))
  | 0, _, _, _ => none
  | k + 1, x0, x1, x5 => if x5 < (x0.length : Int) then (if 0 ≤ x5 then ((some (x0.set (x5 : Int).toNat (⟨x1, (rd_T168 x0 x5).f1⟩ : S168) : List (S168))).bind fun y665 => ((laws_markText.f k (wrap64 (x1 + 1))).bind fun t666 => (laws_markSizeS.l0 k (y665.set (x5 : Int).toNat (⟨(rd_T168 y665 x5).f0, t666⟩ : S168)) (wrap64 ((wrap64 (x1 + 1)) + 1)) (wrap64 (x5 + 1))))) else (none)) else (some (x1, x0))
def laws_markSizeS.f (k : Nat) (l0 : List (S168)) (a1 : Int) : Option (Int × (List (S168))) := laws_markSizeS.l0 k l0 a1 0
set_option maxHeartbeats 8000000 in
set_option maxRecDepth 100000 in
theorem laws_markSizeS.calls (k : Nat) (P0_ : Nat → Prop) (u9000_ : Value) (l0 : List (S168)) (a1 : Int) (r1 : Int) (r2 : List (S168)) (w0 w : World) (hB : Below w0.heap.size w0 w) (ho0 : Kd.R k168 168 w w0.heap.size P0_ u9000_ l0) (h : laws_markSizeS.f k l0 a1 = some (r1, r2)) :
    Calls Try.prog 88 #[u9000_, .int .i64 a1] w fun e w' => e = .returned (.int .i64 r1) ∧ Kd.R k168 168 w' w0.heap.size (fun k_ => (P0_ k_ ∨ w.heap.size ≤ k_)) u9000_ r2 ∧ Below w0.heap.size w0 w' ∧ Kept w w' (fun k_ => P0_ k_) := by
  have HO0 := Aside0.mk (show Kd.R k168 168 w w0.heap.size (fun k_ => (P0_ k_ ∨ w.heap.size ≤ k_)) u9000_ l0 from Kd.R_mono ho0 (fun k_ hk => (.inl hk)))
  have HK := Aside0.mk (Kept.refl w (fun k_ => P0_ k_))
  have HW0 := Aside0.mk hB.size
  have HB := Aside0.mk hB
  clear hB
  have H : (laws_markSizeS.l0 k l0 a1 0) = some (r1, r2) := h
  clear h
  have H' := Aside0.mk H
  clear H
  go_enter Try.func88, Try.ntmps88
  go_wp2
  go_loopg [1, 5] k (fun kq v1 v5 w' => ∃ (x0_1 : List (S168)) (x1_1 : Int) (x5_1 : Int), v1 = .int .i64 x1_1 ∧ v5 = .int .i64 x5_1 ∧ Aside0 (laws_markSizeS.l0 kq x0_1 x1_1 x5_1 = some (r1, r2)) ∧ Aside0 (kq ≤ k) ∧ Aside0 (Kd.R k168 168 w' w0.heap.size (fun k_ => (P0_ k_ ∨ w.heap.size ≤ k_)) u9000_ x0_1) ∧ Aside0 (Kept w w' (fun k_ => P0_ k_)) ∧ Aside0 (Below w0.heap.size w0 w'))
  case atStart => exact ⟨(l0), (a1), (0), FR, FR, H', ⟨Nat.le_refl _⟩, ⟨(RR HO0.out)⟩, ⟨by repeat (first | (with_reducible first | exact HK.out | apply Kept.alloc | apply Kept.drewN | apply Kept.drew) | exact HK.out)⟩, ⟨(BB HB.out)⟩⟩
  case round =>
    clear H'
    try clear p2
    obtain ⟨x0_1, x1_1, x5_1, rfl, rfl, HA, HK1, HO_0, HK, HB⟩ := hrel
    cases gk with
    | zero => exact absurd HA.out (by simp [laws_markSizeS.l0])
    | succ k1 =>
      have H := HA.out
      clear HA
      simp only [laws_markSizeS.l0] at H
      by_cases c3 : x5_1 < (x0_1.length : Int)
      · rw [if_pos c3] at H
        have c3b0 : decide (x5_1 < (x0_1.length : Int)) = true := decide_eq_true c3
        clear c3
        by_cases c4 : 0 ≤ x5_1
        · rw [if_pos c4] at H
          have c4b0 : decide (0 ≤ x5_1) = true := decide_eq_true c4
          clear c4
          obtain ⟨y665, hy665⟩ : ∃ y_ : List (S168), y_ = (x0_1.set (x5_1 : Int).toNat (⟨x1_1, (rd_T168 x0_1 x5_1).f1⟩ : S168)) := ⟨_, rfl⟩
          replace H : ((laws_markText.f k1 (wrap64 (x1_1 + 1))).bind fun t666 => (laws_markSizeS.l0 k1 (y665.set (x5_1 : Int).toNat (⟨(rd_T168 y665 x5_1).f0, t666⟩ : S168)) (wrap64 ((wrap64 (x1_1 + 1)) + 1)) (wrap64 (x5_1 + 1)))) = some (r1, r2) := by first | (rw [hy665]; with_reducible exact H) | (have H2_ := (Option.bind_some _ _).symm.trans H; rw [hy665]; with_reducible exact H2_) | (have H2_ := (Option.bind_some _ _).symm.trans H; with_reducible exact H2_) | with_reducible exact H | (rw [hy665]; exact H) | exact H
          have Ny665 := Aside0.mk hy665
          clear hy665
          replace H := Option.bind_eq_some_iff.mp H
          obtain ⟨t666, A60, H⟩ := H
          replace H : (laws_markSizeS.l0 k1 (y665.set (x5_1 : Int).toNat (⟨(rd_T168 y665 x5_1).f0, t666⟩ : S168)) (wrap64 ((wrap64 (x1_1 + 1)) + 1)) (wrap64 (x5_1 + 1))) = some (r1, r2) := H
          have A6 := Aside0.mk A60
          clear A60
          obtain ⟨y667, hy667⟩ : ∃ y_ : List (S168), y_ = (y665.set (x5_1 : Int).toNat (⟨(rd_T168 y665 x5_1).f0, t666⟩ : S168)) := ⟨_, rfl⟩
          replace H : (laws_markSizeS.l0 k1 y667 (wrap64 ((wrap64 (x1_1 + 1)) + 1)) (wrap64 (x5_1 + 1))) = some (r1, r2) := by first | (rw [hy667]; with_reducible exact H) | (have H2_ := (Option.bind_some _ _).symm.trans H; rw [hy667]; with_reducible exact H2_) | (have H2_ := (Option.bind_some _ _).symm.trans H; with_reducible exact H2_) | with_reducible exact H | (rw [hy667]; exact H) | exact H
          have Ny667 := Aside0.mk hy667
          clear hy667
          have H' := Aside0.mk H
          clear H
          obtain ⟨Ao8, co8, eo8⟩ := Kd.R_slice HO_0.out
          subst eo8
          have p5 : 0 ≤ (x5_1 : Int) := DT
          have q5 : (x5_1 : Int) < ((x0_1.length : Int) : Int) := DT
          obtain ⟨go5, co5, eo5, gb5, gl5, cl5, HG5⟩ := Kd.R_form HO_0.out (by omega)
          (first | cases eo5 | (injection eo5 with ea_ en_ ec_; (first | subst ea_ | (injection ea_ with ea_; subst ea_)); subst ec_; clear en_))
          have GB5 := Aside0.mk gb5
          have GG5 := Aside0.mk HG5
          clear gb5 gl5 HG5
          have HMgo5 := Aside0.mk (show (P0_ go5 ∨ w.heap.size ≤ go5) from (HO_0.out.1 _ rfl))
          obtain ⟨ce5, hcl5, hM5, hcc5, hfr5⟩ := Kd.R_elem HO_0.out z168 (x5_1 : Int) p5 q5
          obtain rfl := k168_openM hM5
          have hx5_0 : wr.cell? ⟨go5, (x5_1 : Int).toNat * 2, none⟩ = some (.int .i64 ((rd_T168 x0_1 x5_1).f0)) := hcc5 0 _ rfl
          have hx5_1 : wr.cell? ⟨go5, (x5_1 : Int).toNat * 2 + 1, none⟩ = some (.string ((rd_T168 x0_1 x5_1).f1)) := hcc5 1 _ rfl
          have hf5_0 : wr.frozen? ⟨go5, (x5_1 : Int).toNat * 2, none⟩ = false := hfr5 0
          have hf5_1 : wr.frozen? ⟨go5, (x5_1 : Int).toNat * 2 + 1, none⟩ = false := hfr5 1
          clear hcl5 hcc5 hfr5 hM5
          replace p5 := eq_true p5
          replace q5 := eq_true q5
          have HX9 := Aside0.mk (show Kd.R k168 168 wr w0.heap.size (fun k_ => (P0_ k_ ∨ w.heap.size ≤ k_)) (.slice (some ⟨go5, 0, none⟩) x0_1.length co8) x0_1 from (RR HO_0.out))
          obtain ⟨ce9, hcl9, hM9, hcc9, hfr9⟩ := Kd.R_elem HX9.out z168 (x5_1 : Int) DT (by have h_ : (x5_1 : Int) < ((x0_1.length : Int) : Int) := DT; first | exact h_ | (have e_ := (Kd.R_reads' HO_0.out).1; omega) | simpa using h_)
          obtain rfl := k168_openM hM9
          have HP9 := Kd.R_seg HX9.out (x5_1 : Int) DT (by have h_ : (x5_1 : Int) < ((x0_1.length : Int) : Int) := DT; first | exact h_ | (have e_ := (Kd.R_reads' HO_0.out).1; omega) | simpa using h_) (seg := [.int .i64 x1_1]) (j := 0) hcl9 hcc9 (show 1 ≤ 2 from by decide) (x' := (⟨x1_1, (rd_T168 x0_1 x5_1).f1⟩ : S168)) (k168_mkM _ _ _ (⟨x1_1, (rd_T168 x0_1 x5_1).f1⟩ : S168) ) (fun _ hk => hk)
          have hx9_0 := hcc9 0 _ rfl
          (try simp only [show (k168).sz = 2 from rfl, Nat.mul_one, Nat.add_zero] at hx9_0)
          have hf9_0 := hfr9 0
          (try simp only [show (k168).sz = 2 from rfl, Nat.mul_one, Nat.add_zero] at hf9_0)
          clear hcl9 hcc9 hfr9 hM9
          go_wp2_with (first | ((with_reducible refine gate_store (t := 3) (p := 16) rfl ?_); refine store_event (t := 3) (p := 16) (v := ?vo_w10) (w1 := (wr.setCell ⟨go5, (x5_1 : Int).toNat * 2, none⟩ (.int .i64 x1_1))) ?hg ?ho ?hn ?hr ?_; (case ho => rfl); (case hg => rfl); (case hn => rfl); (case hr => first | (go_simp; done) | (go_simp; rfl)); intro w10 hw; have hg : wr.grownBy w10 (some go5) := (by rw [hw]; exact HP9.2); have hp_ : Kd.R k168 168 w10 w0.heap.size (fun k_ => (P0_ k_ ∨ w.heap.size ≤ k_)) (.slice (some ⟨go5, 0, none⟩) x0_1.length co8) y665 := (by rw [hw, Ny665.out]; exact HP9.1); clear HP9; have n0_ := Aside0.mk (hp_); have n1_ := Aside0.mk ((by rw [hw]; exact below_set (HB.out) GB5.out : Below w0.heap.size w0 w10)); have n2_ := Aside0.mk (Kept.of_grown (S := (fun k_ => P0_ k_)) hg (by repeat (first | (with_reducible first | exact HK.out | apply Kept.alloc | apply Kept.drewN | apply Kept.drew) | exact HK.out)) (fun k_ e_ => (HO_0.out.1 k_ e_))); clear HO_0; clear HB; clear HK; have HO_0 := n0_; have HB := n1_; have HK := n2_; clear n0_ n1_ n2_; clear hg hw hp_) | ((with_reducible refine gate_callee (f := 60) rfl ?_); refine GL (some 22) rfl rfl Try.func60 #[.int .i64 (wrap64 (x1_1 + 1))] rfl ?_; (with_reducible refine (laws_markText.calls k1 (wrap64 (x1_1 + 1)) t666 _ A6.out).mono ?_); rintro e w11 ⟨rfl, hb⟩; refine ⟨_, rfl, ?_⟩; replace HO_0 := Aside0.mk (Kd.R_below (RR HO_0.out) hb); replace HK := Aside0.mk (Kept.below (S := (fun k_ => P0_ k_)) (by repeat (first | (with_reducible first | exact HK.out | apply Kept.alloc | apply Kept.drewN | apply Kept.drew) | exact HK.out)) hb); replace HB := Aside0.mk (below_step (BB HB.out) hb); (try clear hb); have p7 : 0 ≤ (x5_1 : Int) := DT; have q7 : (x5_1 : Int) < ((x0_1.length : Int) : Int) := DT; obtain ⟨ce7, hcl7, hM7, hcc7, hfr7⟩ := Kd.R_elem HO_0.out z168 (x5_1 : Int) p7 q7; obtain rfl := k168_openM hM7; have hx7_0 : w11.cell? ⟨go5, (x5_1 : Int).toNat * 2, none⟩ = some (.int .i64 ((rd_T168 y665 x5_1).f0)) := hcc7 0 _ rfl; have hx7_1 : w11.cell? ⟨go5, (x5_1 : Int).toNat * 2 + 1, none⟩ = some (.string ((rd_T168 y665 x5_1).f1)) := hcc7 1 _ rfl; have hf7_0 : w11.frozen? ⟨go5, (x5_1 : Int).toNat * 2, none⟩ = false := hfr7 0; have hf7_1 : w11.frozen? ⟨go5, (x5_1 : Int).toNat * 2 + 1, none⟩ = false := hfr7 1; clear hcl7 hcc7 hfr7 hM7; replace p7 := eq_true p7; replace q7 := eq_true q7; have HX12 := Aside0.mk (show Kd.R k168 168 w11 w0.heap.size (fun k_ => (P0_ k_ ∨ w.heap.size ≤ k_)) (.slice (some ⟨go5, 0, none⟩) x0_1.length co8) y665 from (RR HO_0.out)); obtain ⟨ce12, hcl12, hM12, hcc12, hfr12⟩ := Kd.R_elem HX12.out z168 (x5_1 : Int) DT (by have h_ : (x5_1 : Int) < ((x0_1.length : Int) : Int) := DT; first | exact h_ | (have e_ := (Kd.R_reads' HO_0.out).1; omega) | simpa using h_); obtain rfl := k168_openM hM12; have HP12 := Kd.R_seg HX12.out (x5_1 : Int) DT (by have h_ : (x5_1 : Int) < ((x0_1.length : Int) : Int) := DT; first | exact h_ | (have e_ := (Kd.R_reads' HO_0.out).1; omega) | simpa using h_) (seg := [.string t666]) (j := 1) hcl12 hcc12 (show 2 ≤ 2 from by decide) (x' := (⟨(rd_T168 y665 x5_1).f0, t666⟩ : S168)) (k168_mkM _ _ _ (⟨(rd_T168 y665 x5_1).f0, t666⟩ : S168) ) (fun _ hk => hk); have hx12_1 := hcc12 1 _ rfl; (try simp only [show (k168).sz = 2 from rfl, Nat.mul_one, Nat.add_zero] at hx12_1); have hf12_1 := hfr12 1; (try simp only [show (k168).sz = 2 from rfl, Nat.mul_one, Nat.add_zero] at hf12_1); clear hcl12 hcc12 hfr12 hM12) | ((with_reducible refine gate_store (t := 9) (p := 24) rfl ?_); refine store_event (t := 9) (p := 24) (v := ?vo_w13) (w1 := (w11.setCell ⟨go5, (x5_1 : Int).toNat * 2 + 1, none⟩ (.string t666))) ?hg ?ho ?hn ?hr ?_; (case ho => rfl); (case hg => rfl); (case hn => rfl); (case hr => first | (go_simp; done) | (go_simp; rfl)); intro w13 hw; have hg : w11.grownBy w13 (some go5) := (by rw [hw]; exact HP12.2); have hp_ : Kd.R k168 168 w13 w0.heap.size (fun k_ => (P0_ k_ ∨ w.heap.size ≤ k_)) (.slice (some ⟨go5, 0, none⟩) x0_1.length co8) y667 := (by rw [hw, Ny667.out]; exact HP12.1); clear HP12; have n0_ := Aside0.mk (hp_); have n1_ := Aside0.mk ((by rw [hw]; exact below_set (HB.out) GB5.out : Below w0.heap.size w0 w13)); have n2_ := Aside0.mk (Kept.of_grown (S := (fun k_ => P0_ k_)) hg (by repeat (first | (with_reducible first | exact HK.out | apply Kept.alloc | apply Kept.drewN | apply Kept.drew) | exact HK.out)) (fun k_ e_ => (HO_0.out.1 k_ e_))); clear HO_0; clear HB; clear HK; have HO_0 := n0_; have HB := n1_; have HK := n2_; clear n0_ n1_ n2_; clear hg hw hp_))
          go_roundg k1
          case measure => have := HK1.out; omega
          case rel => exact ⟨(y667), (wrap64 ((wrap64 (x1_1 + 1)) + 1)), (wrap64 (x5_1 + 1)), FR, FR, H', ⟨by have := HK1.out; omega⟩, ⟨(RR HO_0.out)⟩, ⟨by repeat (first | (with_reducible first | exact HK.out | apply Kept.alloc | apply Kept.drewN | apply Kept.drew) | exact HK.out)⟩, ⟨(BB HB.out)⟩⟩
        · rw [if_neg c4] at H
          exact absurd H (by simp)
      · rw [if_neg c3] at H
        have c3b0 : decide (x5_1 < (x0_1.length : Int)) = false := decide_eq_false c3
        clear c3
        simp only [Option.some.injEq, Prod.mk.injEq] at H
        obtain ⟨rfl, rfl⟩ := H
        obtain ⟨Ao14, co14, eo14⟩ := Kd.R_slice HO_0.out
        subst eo14
        go_wp2
        go_ret
        exact ⟨ER, by (with_reducible repeat (first | apply Kd.R_alloc | apply Kd.R_drewN | apply Kd.R_drew)); exact HO_0.out, (BB HB.out), by repeat (first | (with_reducible first | exact HK.out | apply Kept.alloc | apply Kept.drewN | apply Kept.drew) | exact HK.out)⟩

end Go.Proofs.Ytfgnaneajonapaa.Pr

namespace Go.Proofs.Ytfgnaneajonapaa.Pr
open Go.RowKit Go.Proofs.YtfgnaneajonapaaW.PrintWords Go.Proofs.YtfgnaneajonapaaW.PrintLast Go.Proofs.YtfgnaneajonapaaW.PrintMore
attribute [local go_sem] max2_int min2_int max_two min_two max_three min_three max_four min_four
set_option linter.unusedVariables false
set_option linter.unusedSimpArgs false
def laws_heldSizeS.l0 : Nat → List (S168) → Int → Int → Option (Int)
  | 0, _, _, _ => none
  | k + 1, x0, x1, x5 => if x5 < (x0.length : Int) then (if 0 ≤ x5 then (if ((rd_T168 x0 x5).f0) = x1 then ((laws_markText.f k (wrap64 (x1 + 1))).bind fun t680 => (if ((rd_T168 x0 x5).f1).toList = t680.toList then (laws_heldSizeS.l0 k x0 (wrap64 ((wrap64 (x1 + 1)) + 1)) (wrap64 (x5 + 1))) else (some (-1)))) else (some (-1))) else (none)) else (some x1)
def laws_heldSizeS.f (k : Nat) (l0 : List (S168)) (a1 : Int) : Option (Int) := laws_heldSizeS.l0 k l0 a1 0
def laws_heldSizeS.T7 : Bool × List (List Nat × List Nat) := (true, [([], []), ([], []), ([0, 1], [0, 1]), ([2], [2]), ([3], [3]), ([], []), ([5], [5]), ([4, 6], [4, 6])])
def laws_heldSizeS.B7 : List Nat := [0, 0, 3, 7, 15, 0, 32, 127]
theorem laws_heldSizeS.tab7 : rtab .any (opsOf Try.f90 7) = laws_heldSizeS.T7 := by kernel_rfl
theorem laws_heldSizeS.bits7 : waitsOk laws_heldSizeS.T7.2 laws_heldSizeS.B7 = true := by kernel_rfl
set_option maxHeartbeats 8000000 in
set_option maxRecDepth 100000 in
theorem laws_heldSizeS.calls (k : Nat) (A0 : Option Addr) (c0 : Nat) (l0 : List (S168)) (a1 : Int) (r : Int) (w : World) (hr0 : Kd.C k168 w A0 l0.length l0) (hc0 : l0.length ≤ c0) (h : laws_heldSizeS.f k l0 a1 = some r) :
    Calls Try.prog 90 #[.slice A0 l0.length c0, .int .i64 a1] w fun e w' => e = .returned (.int .i64 r) ∧ Below w.heap.size w w' := by
  have HR0 := Aside0.mk hr0
  have HC0 := Aside0.mk hc0
  clear hr0 hc0
  have HB := Aside0.mk (Below.refl w.heap.size w)
  have H : (laws_heldSizeS.l0 k l0 a1 0) = some r := h
  clear h
  have H' := Aside0.mk H
  clear H
  go_enter Try.func90, Try.ntmps90
  go_wp2
  go_loopg [1, 5] k (fun kq v1 v5 w' => ∃ (x1_1 : Int) (x5_1 : Int), v1 = .int .i64 x1_1 ∧ v5 = .int .i64 x5_1 ∧ Aside0 (laws_heldSizeS.l0 kq l0 x1_1 x5_1 = some r) ∧ Aside0 (kq ≤ k) ∧ Aside0 (Below w.heap.size w w'))
  case atStart => exact ⟨(a1), (0), FR, FR, H', ⟨Nat.le_refl _⟩, ⟨(BB HB.out)⟩⟩
  case round =>
    clear H'
    try clear p2
    obtain ⟨x1_1, x5_1, rfl, rfl, HA, HK1, HB⟩ := hrel
    cases gk with
    | zero => exact absurd HA.out (by simp [laws_heldSizeS.l0])
    | succ k1 =>
      have H := HA.out
      clear HA
      simp only [laws_heldSizeS.l0] at H
      by_cases c3 : x5_1 < (l0.length : Int)
      · rw [if_pos c3] at H
        have c3b0 : decide (x5_1 < (l0.length : Int)) = true := decide_eq_true c3
        clear c3
        by_cases c4 : 0 ≤ x5_1
        · rw [if_pos c4] at H
          have c4b0 : decide (0 ≤ x5_1) = true := decide_eq_true c4
          clear c4
          by_cases c5 : ((rd_T168 l0 x5_1).f0) = x1_1
          · rw [if_pos c5] at H
            have c5b0 : (((rd_T168 l0 x5_1).f0) == x1_1) = true := beq_iff_eq.mpr c5
            have c5b1 : (((rd_T168 l0 x5_1).f0) != x1_1) = false := bne_eq_false_iff_eq.mpr c5
            clear c5
            replace H := Option.bind_eq_some_iff.mp H
            obtain ⟨t680, A60, H⟩ := H
            replace H : (if ((rd_T168 l0 x5_1).f1).toList = t680.toList then (laws_heldSizeS.l0 k1 l0 (wrap64 ((wrap64 (x1_1 + 1)) + 1)) (wrap64 (x5_1 + 1))) else (some (-1))) = some r := H
            have A6 := Aside0.mk A60
            clear A60
            by_cases c7 : ((rd_T168 l0 x5_1).f1).toList = t680.toList
            · rw [if_pos c7] at H
              have c7b0 : (((rd_T168 l0 x5_1).f1).toList == t680.toList) = true := beq_iff_eq.mpr c7
              have c7b1 : (((rd_T168 l0 x5_1).f1).toList != t680.toList) = false := bne_eq_false_iff_eq.mpr c7
              clear c7
              have H' := Aside0.mk H
              clear H
              have p678 : 0 ≤ (x5_1 : Int) := DT
              have q678 : x5_1 < (l0.length : Int) := DT
              obtain ⟨ad678, e678, hx678_0, hx678_1⟩ := at_T168 HR0.out x5_1 p678 q678
              cases e678
              replace hx678_0 := (HB.out.cell (World.block_lt_of_cell? w _ hx678_0)).trans hx678_0
              replace hx678_1 := (HB.out.cell (World.block_lt_of_cell? w _ hx678_1)).trans hx678_1
              replace p678 := eq_true p678
              replace q678 := eq_true q678
              try go_wp2
              have n0_ := Aside0.mk (below_drew1 HB.out)
              clear HB
              have HB := n0_
              clear n0_
              have p679 : 0 ≤ (x5_1 : Int) := DT
              have q679 : x5_1 < (l0.length : Int) := DT
              obtain ⟨ad679, e679, hx679_0, hx679_1⟩ := at_T168 HR0.out x5_1 p679 q679
              have hw679_1 := hx679_1
              have hw679_0 := hx679_0
              obtain rfl : ad678 = ad679 := (by injection e679)
              replace hx679_0 := (HB.out.cell (World.block_lt_of_cell? w _ hx679_0)).trans hx679_0
              replace hx679_1 := (HB.out.cell (World.block_lt_of_cell? w _ hx679_1)).trans hx679_1
              replace p679 := eq_true p679
              replace q679 := eq_true q679
              refine start_ (n := 8) (S := fun w' => w'.cell? (ad678.add ((x5_1).toNat * 2)) = some (.int .i64 ((rd_T168 l0 x5_1).f0)) ∧ w'.cell? ⟨(ad678.add ((x5_1).toNat * 2)).block, (ad678.add ((x5_1).toNat * 2)).off + 1, none⟩ = some (.string ((rd_T168 l0 x5_1).f1))) (ds := []) #[false, false, false, false, false, false, false, false] (by kernel_rfl) rfl rfl ⟨((HB.out.cell (World.block_lt_of_cell? w _ hw679_0)).trans hw679_0), ((HB.out.cell (World.block_lt_of_cell? w _ hw679_1)).trans hw679_1)⟩ (fun hHeld => ?_); refine with_tabW laws_heldSizeS.tab7 laws_heldSizeS.bits7 (fun HT_ HW_ => ?_)
              generalize wr.drew = w8 at HB hx679_0 hx679_1 hHeld ⊢
              refine pure_ (i := 0) (N := some 21) (v := ?_) (a' := ?_) #[true, false, false, false, false, false, false, false] rfl rfl (any_of HT_.out (by kernel_rfl)) (fun _ _ _ h => h) (Or.inl ⟨by rfl, ?_⟩) ?_ ?_
              rotate_left
              · intro w'
                go_simp
                with_reducible rfl
              rotate_left
              · simp only [Act.put, List.setIfInBounds_toArray, List.set_cons_zero, List.set_cons_succ, i64_w, i32_w]
                rfl
              refine pure_ (i := 1) (N := some 22) (v := ?_) (a' := ?_) #[true, true, false, false, false, false, false, false] rfl rfl (any_of HT_.out (by kernel_rfl)) (fun _ _ _ h => h) (Or.inl ⟨by rfl, ?_⟩) ?_ ?_
              rotate_left
              · intro w'
                go_simp
                with_reducible rfl
              rotate_left
              · simp only [Act.put, List.setIfInBounds_toArray, List.set_cons_zero, List.set_cons_succ, i64_w, i32_w]
                rfl
              refine pure_ (i := 2) (N := some 23) (v := ?_) (a' := ?_) #[true, true, true, false, false, false, false, false] rfl rfl (any_of HT_.out (by kernel_rfl)) (fun _ _ _ h => h) (Or.inl ⟨by rfl, ?_⟩) ?_ ?_
              rotate_left
              · intro w'
                go_simp
                with_reducible rfl
              rotate_left
              · simp only [Act.put, List.setIfInBounds_toArray, List.set_cons_zero, List.set_cons_succ, i64_w, i32_w]
                rfl
              refine pure_ (i := 3) (N := some 24) (v := ?_) (a' := ?_) #[true, true, true, true, false, false, false, false] rfl rfl (any_of HT_.out (by kernel_rfl)) (fun _ _ _ h => h) (Or.inl ⟨by rfl, ?_⟩) ?_ ?_
              rotate_left
              · intro w'
                go_simp
                with_reducible rfl
              rotate_left
              · simp only [Act.put, List.setIfInBounds_toArray, List.set_cons_zero, List.set_cons_succ, i64_w, i32_w]
                rfl
              refine pure_ (i := 5) (N := some 26) (v := ?_) (a' := ?_) #[true, true, true, true, false, true, false, false] rfl rfl (any_of HT_.out (by kernel_rfl)) (fun _ _ _ h => h) (Or.inl ⟨by rfl, ?_⟩) ?_ ?_
              rotate_left
              · intro w'
                go_simp
                with_reducible rfl
              rotate_left
              · simp only [Act.put, List.setIfInBounds_toArray, List.set_cons_zero, List.set_cons_succ, i64_w, i32_w]
                rfl
              refine take_ (i := 4) (N := some 25) (v := ?_) (a' := ?_) #[true, true, true, true, true, true, false, false] rfl rfl (take_ofW HT_.out HW_.out (by kernel_rfl)) (fun _ _ _ h => h) (Or.inl ⟨by rfl, ?_⟩) hHeld ?_ ?_
              rotate_left
              · rintro w' ⟨s0, s1⟩
                go_simp
                with_reducible rfl
              rotate_left
              · simp only [Act.put, List.setIfInBounds_toArray, List.set_cons_zero, List.set_cons_succ, i64_w, i32_w]
                rfl
              refine one_ (i := 6) (N := some 27) #[true, true, true, true, true, true, true, false] rfl rfl (one_of HT_.out (by kernel_rfl)) (by decide) (fun K hK => ?_)
              refine goes_ Try.func60 (by kernel_rfl) rfl #[.int .i64 (wrap64 (x1_1 + 1))] (by rfl) rfl rfl (by (try simp only [List.map_toArray, List.map_cons, List.map_nil]); first | done | rfl | (simp only [List.length_drop, List.length_take]; rfl)) ?_
              with_reducible refine (laws_markText.calls k1 (wrap64 (x1_1 + 1)) t680 _ A6.out).mono ?_
              rintro e w9 ⟨rfl, hb⟩
              refine ⟨_, rfl, ?_⟩
              have n0_ := Aside0.mk (below_step (BB HB.out) hb)
              clear HB
              have HB := n0_
              clear n0_
              (try clear hb)
              (try clear hb2)
              (try clear hk)
              (try clear hi)
              refine hK.out _ _ ⟨((HB.out.cell (World.block_lt_of_cell? w _ hw679_0)).trans hw679_0), ((HB.out.cell (World.block_lt_of_cell? w _ hw679_1)).trans hw679_1)⟩ (fun hHeld => ?_)
              clear hK K
              refine norm_ (a' := ?_) ?_ ?_
              rotate_left
              · show Act.put _ (some 27) _ = _
                simp only [Act.put, List.setIfInBounds_toArray, List.set_cons_zero, List.set_cons_succ, i64_w, i32_w]
                rfl
              refine pure_ (i := 7) (N := some 28) (v := ?_) (a' := ?_) #[true, true, true, true, true, true, true, true] rfl rfl (any_of HT_.out (by kernel_rfl)) (fun _ _ _ h => h) (Or.inl ⟨by rfl, ?_⟩) ?_ ?_
              rotate_left
              · intro w'
                go_simp
                with_reducible rfl
              rotate_left
              · simp only [Act.put, List.setIfInBounds_toArray, List.set_cons_zero, List.set_cons_succ, i64_w, i32_w]
                rfl
              refine done_ (done_of HT_.out (by kernel_rfl)) ?_
              try go_wp2
              go_roundg k1
              case measure => have := HK1.out; omega
              case rel => exact ⟨(wrap64 ((wrap64 (x1_1 + 1)) + 1)), (wrap64 (x5_1 + 1)), FR, FR, H', ⟨by have := HK1.out; omega⟩, ⟨(BB HB.out)⟩⟩
            · rw [if_neg c7] at H
              have c7b0 : (((rd_T168 l0 x5_1).f1).toList == t680.toList) = false := beq_eq_false_iff_ne.mpr c7
              have c7b1 : (((rd_T168 l0 x5_1).f1).toList != t680.toList) = true := bne_iff_ne.mpr c7
              obtain rfl := Option.some.inj H
              have p678 : 0 ≤ (x5_1 : Int) := DT
              have q678 : x5_1 < (l0.length : Int) := DT
              obtain ⟨ad678, e678, hx678_0, hx678_1⟩ := at_T168 HR0.out x5_1 p678 q678
              cases e678
              replace hx678_0 := (HB.out.cell (World.block_lt_of_cell? w _ hx678_0)).trans hx678_0
              replace hx678_1 := (HB.out.cell (World.block_lt_of_cell? w _ hx678_1)).trans hx678_1
              replace p678 := eq_true p678
              replace q678 := eq_true q678
              try go_wp2
              have n0_ := Aside0.mk (below_drew1 HB.out)
              clear HB
              have HB := n0_
              clear n0_
              have p679 : 0 ≤ (x5_1 : Int) := DT
              have q679 : x5_1 < (l0.length : Int) := DT
              obtain ⟨ad679, e679, hx679_0, hx679_1⟩ := at_T168 HR0.out x5_1 p679 q679
              have hw679_1 := hx679_1
              have hw679_0 := hx679_0
              obtain rfl : ad678 = ad679 := (by injection e679)
              replace hx679_0 := (HB.out.cell (World.block_lt_of_cell? w _ hx679_0)).trans hx679_0
              replace hx679_1 := (HB.out.cell (World.block_lt_of_cell? w _ hx679_1)).trans hx679_1
              replace p679 := eq_true p679
              replace q679 := eq_true q679
              refine start_ (n := 8) (S := fun w' => w'.cell? (ad678.add ((x5_1).toNat * 2)) = some (.int .i64 ((rd_T168 l0 x5_1).f0)) ∧ w'.cell? ⟨(ad678.add ((x5_1).toNat * 2)).block, (ad678.add ((x5_1).toNat * 2)).off + 1, none⟩ = some (.string ((rd_T168 l0 x5_1).f1))) (ds := []) #[false, false, false, false, false, false, false, false] (by kernel_rfl) rfl rfl ⟨((HB.out.cell (World.block_lt_of_cell? w _ hw679_0)).trans hw679_0), ((HB.out.cell (World.block_lt_of_cell? w _ hw679_1)).trans hw679_1)⟩ (fun hHeld => ?_); refine with_tabW laws_heldSizeS.tab7 laws_heldSizeS.bits7 (fun HT_ HW_ => ?_)
              generalize wr.drew = w10 at HB hx679_0 hx679_1 hHeld ⊢
              refine pure_ (i := 0) (N := some 21) (v := ?_) (a' := ?_) #[true, false, false, false, false, false, false, false] rfl rfl (any_of HT_.out (by kernel_rfl)) (fun _ _ _ h => h) (Or.inl ⟨by rfl, ?_⟩) ?_ ?_
              rotate_left
              · intro w'
                go_simp
                with_reducible rfl
              rotate_left
              · simp only [Act.put, List.setIfInBounds_toArray, List.set_cons_zero, List.set_cons_succ, i64_w, i32_w]
                rfl
              refine pure_ (i := 1) (N := some 22) (v := ?_) (a' := ?_) #[true, true, false, false, false, false, false, false] rfl rfl (any_of HT_.out (by kernel_rfl)) (fun _ _ _ h => h) (Or.inl ⟨by rfl, ?_⟩) ?_ ?_
              rotate_left
              · intro w'
                go_simp
                with_reducible rfl
              rotate_left
              · simp only [Act.put, List.setIfInBounds_toArray, List.set_cons_zero, List.set_cons_succ, i64_w, i32_w]
                rfl
              refine pure_ (i := 2) (N := some 23) (v := ?_) (a' := ?_) #[true, true, true, false, false, false, false, false] rfl rfl (any_of HT_.out (by kernel_rfl)) (fun _ _ _ h => h) (Or.inl ⟨by rfl, ?_⟩) ?_ ?_
              rotate_left
              · intro w'
                go_simp
                with_reducible rfl
              rotate_left
              · simp only [Act.put, List.setIfInBounds_toArray, List.set_cons_zero, List.set_cons_succ, i64_w, i32_w]
                rfl
              refine pure_ (i := 3) (N := some 24) (v := ?_) (a' := ?_) #[true, true, true, true, false, false, false, false] rfl rfl (any_of HT_.out (by kernel_rfl)) (fun _ _ _ h => h) (Or.inl ⟨by rfl, ?_⟩) ?_ ?_
              rotate_left
              · intro w'
                go_simp
                with_reducible rfl
              rotate_left
              · simp only [Act.put, List.setIfInBounds_toArray, List.set_cons_zero, List.set_cons_succ, i64_w, i32_w]
                rfl
              refine pure_ (i := 5) (N := some 26) (v := ?_) (a' := ?_) #[true, true, true, true, false, true, false, false] rfl rfl (any_of HT_.out (by kernel_rfl)) (fun _ _ _ h => h) (Or.inl ⟨by rfl, ?_⟩) ?_ ?_
              rotate_left
              · intro w'
                go_simp
                with_reducible rfl
              rotate_left
              · simp only [Act.put, List.setIfInBounds_toArray, List.set_cons_zero, List.set_cons_succ, i64_w, i32_w]
                rfl
              refine take_ (i := 4) (N := some 25) (v := ?_) (a' := ?_) #[true, true, true, true, true, true, false, false] rfl rfl (take_ofW HT_.out HW_.out (by kernel_rfl)) (fun _ _ _ h => h) (Or.inl ⟨by rfl, ?_⟩) hHeld ?_ ?_
              rotate_left
              · rintro w' ⟨s0, s1⟩
                go_simp
                with_reducible rfl
              rotate_left
              · simp only [Act.put, List.setIfInBounds_toArray, List.set_cons_zero, List.set_cons_succ, i64_w, i32_w]
                rfl
              refine one_ (i := 6) (N := some 27) #[true, true, true, true, true, true, true, false] rfl rfl (one_of HT_.out (by kernel_rfl)) (by decide) (fun K hK => ?_)
              refine goes_ Try.func60 (by kernel_rfl) rfl #[.int .i64 (wrap64 (x1_1 + 1))] (by rfl) rfl rfl (by (try simp only [List.map_toArray, List.map_cons, List.map_nil]); first | done | rfl | (simp only [List.length_drop, List.length_take]; rfl)) ?_
              with_reducible refine (laws_markText.calls k1 (wrap64 (x1_1 + 1)) t680 _ A6.out).mono ?_
              rintro e w11 ⟨rfl, hb⟩
              refine ⟨_, rfl, ?_⟩
              have n0_ := Aside0.mk (below_step (BB HB.out) hb)
              clear HB
              have HB := n0_
              clear n0_
              (try clear hb)
              (try clear hb2)
              (try clear hk)
              (try clear hi)
              refine hK.out _ _ ⟨((HB.out.cell (World.block_lt_of_cell? w _ hw679_0)).trans hw679_0), ((HB.out.cell (World.block_lt_of_cell? w _ hw679_1)).trans hw679_1)⟩ (fun hHeld => ?_)
              clear hK K
              refine norm_ (a' := ?_) ?_ ?_
              rotate_left
              · show Act.put _ (some 27) _ = _
                simp only [Act.put, List.setIfInBounds_toArray, List.set_cons_zero, List.set_cons_succ, i64_w, i32_w]
                rfl
              refine pure_ (i := 7) (N := some 28) (v := ?_) (a' := ?_) #[true, true, true, true, true, true, true, true] rfl rfl (any_of HT_.out (by kernel_rfl)) (fun _ _ _ h => h) (Or.inl ⟨by rfl, ?_⟩) ?_ ?_
              rotate_left
              · intro w'
                go_simp
                with_reducible rfl
              rotate_left
              · simp only [Act.put, List.setIfInBounds_toArray, List.set_cons_zero, List.set_cons_succ, i64_w, i32_w]
                rfl
              refine done_ (done_of HT_.out (by kernel_rfl)) ?_
              try go_wp2
              go_ret
              exact ⟨ER, (BB HB.out)⟩
          · rw [if_neg c5] at H
            have c5b0 : (((rd_T168 l0 x5_1).f0) == x1_1) = false := beq_eq_false_iff_ne.mpr c5
            have c5b1 : (((rd_T168 l0 x5_1).f0) != x1_1) = true := bne_iff_ne.mpr c5
            obtain rfl := Option.some.inj H
            have p678 : 0 ≤ (x5_1 : Int) := DT
            have q678 : x5_1 < (l0.length : Int) := DT
            obtain ⟨ad678, e678, hx678_0, hx678_1⟩ := at_T168 HR0.out x5_1 p678 q678
            cases e678
            replace hx678_0 := (HB.out.cell (World.block_lt_of_cell? w _ hx678_0)).trans hx678_0
            replace hx678_1 := (HB.out.cell (World.block_lt_of_cell? w _ hx678_1)).trans hx678_1
            replace p678 := eq_true p678
            replace q678 := eq_true q678
            go_wp2
            go_ret
            exact ⟨ER, (BB HB.out)⟩
        · rw [if_neg c4] at H
          exact absurd H (by simp)
      · rw [if_neg c3] at H
        have c3b0 : decide (x5_1 < (l0.length : Int)) = false := decide_eq_false c3
        clear c3
        obtain rfl := Option.some.inj H
        go_wp2
        go_ret
        exact ⟨ER, (BB HB.out)⟩

end Go.Proofs.Ytfgnaneajonapaa.Pr

namespace Go.Proofs.Ytfgnaneajonapaa.Lw
open Go.RowKit Go.Proofs.YtfgnaneajonapaaW.PrintWords Go.Proofs.Ytfgnaneajonapaa.Pr Go.Proofs.Ytfgnaneajonapaa.Evs
set_option linter.unusedVariables false
noncomputable def mkSize (x : ImSize) (n : Int) : ImSize := ⟨n, mt (n + 1)⟩
noncomputable def mkSizeS : List ImSize → Int → List ImSize
  | [], _ => []
  | x :: s, n => mkSize x n :: mkSizeS s (n + 2)
theorem markSizeS_loop (s : List ImSize) : ∀ (q : List ImSize) (n : Int), 0 ≤ n → n + 2 * s.length < 9223372036854775000 → q.length + s.length < 9223372036854775807 →
    Ev (fun k => laws_markSizeS.l0 k (q ++ s) n (q.length : Int)) (n + 2 * s.length, q ++ mkSizeS s n) := by
  induction s with
  | nil => intro q n h0 h1 hl; exact ev_step (fun k => laws_markSizeS.l0.eq_2 _ _ _ k) (ev_neg (by simp) (ev_eq (ev_some _) (by simp [mkSizeS])))
  | cons x s ih =>
    intro q n h0 h1 hl
    simp at h1 hl
    have e1 : wrap64 (n + 1) = n + 1 := wrap_in (by omega) (by omega)
    have e2 : wrap64 (n + 1 + 1) = n + 1 + 1 := wrap_in (by omega) (by omega)
    have e0 : wrap64 ((q.length : Int) + 1) = (q.length : Int) + 1 := wrap_in (by omega) (by omega)
    have hr : (n + 2 * ((x :: s).length : Int), q ++ mkSizeS (x :: s) n) = (n + 1 + 1 + 2 * (s.length : Int), (q ++ [mkSize x n]) ++ mkSizeS s (n + 1 + 1)) := by
      have : n + 1 + 1 = n + 2 := by omega
      simp [mkSizeS, this]
      omega
    rw [hr]
    have h := ih (q ++ [mkSize x n]) (n + 1 + 1) (by omega) (by omega) (by simp; omega)
    refine ev_step (fun k => laws_markSizeS.l0.eq_2 _ _ _ k) ?_
    simp only [e0, e1, e2]
    repeat (first | with_reducible refine ev_pos (by first | omega | (simp; omega)) ?_ | with_reducible refine ev_bind (mt_ev _ (by omega)) ?_ | with_reducible refine ev_call rfl ?_)
    simp only [rd168, set_mid _ _ _ _ _ rfl]
    simpa [mkSize] using h
theorem markSizeS_ev (l : List ImSize) (n : Int) (h0 : 0 ≤ n) (h1 : n + 2 * l.length < 9223372036854775000) : Ev (fun k => laws_markSizeS.f k l n) (n + 2 * l.length, mkSizeS l n) := by
  unfold laws_markSizeS.f
  simpa using markSizeS_loop l [] n h0 h1 (by simp; omega)
theorem heldSizeS_loop (s : List ImSize) : ∀ (q : List ImSize) (n : Int), 0 ≤ n → n + 2 * s.length < 9223372036854775000 → q.length + s.length < 9223372036854775807 →
    Ev (fun k => laws_heldSizeS.l0 k (q ++ mkSizeS s n) n (q.length : Int)) (n + 2 * s.length) := by
  induction s with
  | nil => intro q n h0 h1 hl; exact ev_step (fun k => laws_heldSizeS.l0.eq_2 _ _ _ k) (ev_neg (by simp [mkSizeS]) (ev_eq (ev_some _) (by simp)))
  | cons x s ih =>
    intro q n h0 h1 hl
    simp at h1 hl
    have e1 : wrap64 (n + 1) = n + 1 := wrap_in (by omega) (by omega)
    have e2 : wrap64 (n + 1 + 1) = n + 1 + 1 := wrap_in (by omega) (by omega)
    have e0 : wrap64 ((q.length : Int) + 1) = (q.length : Int) + 1 := wrap_in (by omega) (by omega)
    simp only [mkSizeS]
    refine ev_step (fun k => laws_heldSizeS.l0.eq_2 _ _ _ k) ?_
    simp only [rd168, e0, e1, e2]
    repeat (first | with_reducible refine ev_pos (by first | omega | (simp [mkSize]; done) | (simp; omega)) ?_ | with_reducible refine ev_bind (mt_ev _ (by omega)) ?_)
    have h := ih (q ++ [mkSize x n]) (n + 1 + 1) (by omega) (by omega) (by simp; omega)
    have hr : n + 2 * ((x :: s).length : Int) = n + 1 + 1 + 2 * (s.length : Int) := by simp; omega
    have e : n + 2 = n + 1 + 1 := by omega
    rw [hr, e]
    simpa using h
theorem heldSizeS_ev (l : List ImSize) (n : Int) (h0 : 0 ≤ n) (h1 : n + 2 * l.length < 9223372036854775000) : Ev (fun k => laws_heldSizeS.f k (mkSizeS l n) n) (n + 2 * l.length) := by
  unfold laws_heldSizeS.f
  simpa using heldSizeS_loop l [] n h0 h1 (by simp; omega)
end Go.Proofs.Ytfgnaneajonapaa.Lw

namespace Go.Proofs.Ytfgnaneajonapaa.Pr
open Go.RowKit Go.Proofs.YtfgnaneajonapaaW.PrintWords Go.Proofs.YtfgnaneajonapaaW.PrintLast Go.Proofs.YtfgnaneajonapaaW.PrintMore
attribute [local go_sem] max2_int min2_int max_two min_two max_three min_three max_four min_four
set_option linter.unusedVariables false
set_option linter.unusedSimpArgs false
def spec_TreeNew.f  : Option ((List (S135)) × Int) := some ((([(⟨1, 0, (⟨#[]⟩ : ByteArray), true, 1, 0, 0, ([] : List (S137)), 0⟩ : S135)] : List (S135))), 2)
set_option maxHeartbeats 8000000 in
set_option maxRecDepth 100000 in
theorem spec_TreeNew.calls  (r1 : List (S135)) (r2 : Int) (w : World) (h : spec_TreeNew.f  = some (r1, r2)) :
    Calls Try.prog 61 #[] w fun e w' => ∃ v0_ : Value, e = .returned (.agg #[v0_, .int .i64 r2]) ∧ Kd.S k135 135 w' w.heap.size (fun _ => True) v0_ r1 ∧ Below w.heap.size w w' := by
  have hu40 := Try.underlying40
  have hu135 := Try.underlying135
  have HB := Aside0.mk (Below.refl w.heap.size w)
  have H : (some ((([(⟨1, 0, (⟨#[]⟩ : ByteArray), true, 1, 0, 0, ([] : List (S137)), 0⟩ : S135)] : List (S135))), 2)) = some (r1, r2) := h
  clear h
  obtain ⟨y271, hy271⟩ : ∃ y_ : List (S135), y_ = (([(⟨1, 0, (⟨#[]⟩ : ByteArray), true, 1, 0, 0, ([] : List (S137)), 0⟩ : S135)] : List (S135))) := ⟨_, rfl⟩
  replace H : (some (y271, 2)) = some (r1, r2) := by first | (rw [hy271]; with_reducible exact H) | (have H2_ := (Option.bind_some _ _).symm.trans H; rw [hy271]; with_reducible exact H2_) | (have H2_ := (Option.bind_some _ _).symm.trans H; with_reducible exact H2_) | with_reducible exact H | (rw [hy271]; exact H) | exact H
  have Ny271 := Aside0.mk hy271
  clear hy271
  simp only [Option.some.injEq, Prod.mk.injEq] at H
  obtain ⟨rfl, rfl⟩ := H
  go_enter Try.func61, Try.ntmps61
  go_wp2_with (first | ((with_reducible refine gate_dst (N := 0) rfl ?_); refine BX 0 #[.slice none 0 0, .int .i64 0] 40 ?_; intro gb270 hg w1 hbox hb; have BK270 := Aside0.mk (hbox); have GW270 : Aside0 (w.heap.size ≤ gb270) := WG hg (BB HB.out); have GE270 := GW270; replace HB := Aside0.mk (below_step (BB HB.out) hb); clear hb hbox hg) | ((with_reducible refine gate_dst (N := 2) rfl ?_); refine Kd.S_lit k135 _ 135 ?hg (N := 2) ?hd (xs := ([(⟨1, 0, (⟨#[]⟩ : ByteArray), true, 1, 0, 0, ([] : List (S137)), 0⟩ : S135)] : List (S135))) (inner := [.int .i64 1, .int .i64 0, .string (⟨#[]⟩ : ByteArray), .bool true, .int .i64 1, .int .i64 0, .int .i64 0, .slice none 0 0, .int .i64 0]) (ok := fun _ => True) (okp := fun _ => True) ?hr ?hp (fun _ hk => hk) trivial (Below.refl _ _) (Nat.le_refl _) (by simp) ?_; (case hd => rfl); (case hg => rfl); (case hr => first | (go_simp; done) | (go_simp; rfl)); (case hp => exact (Reps.c9 (show Kd.M k135 _ _ _ (⟨1, 0, (⟨#[]⟩ : ByteArray), true, 1, 0, 0, ([] : List (S137)), 0⟩ : S135) [.int .i64 1, .int .i64 0, .string (⟨#[]⟩ : ByteArray), .bool true, .int .i64 1, .int .i64 0, .int .i64 0, .slice none 0 0, .int .i64 0] from (k135_mkM _ _ _ (⟨1, 0, (⟨#[]⟩ : ByteArray), true, 1, 0, 0, ([] : List (S137)), 0⟩ : S135) (Kd.R_nil _ _ _ _ _))) (Reps.none _ _))); intro v272 w2 ho3 hb hg_ hnew_; clear hg_ hnew_; (first | rw [← Ny271.out] at ho3 | (simp only [Int.reduceToNat] at ho3; rw [← Ny271.out] at ho3)); have HO273 := Aside0.mk (Kd.S_lower ho3 (below_size (BB1 HB.out GE270.out))); replace BK270 := Aside0.mk (KB BK270.out hb); replace HB := Aside0.mk (below_step (BB1 HB.out GE270.out) hb); clear hb ho3; obtain ⟨Ao4, co4, eo4⟩ := Kd.S_slice HO273.out; subst eo4; have hcz5 := blk_cell BK270.out; have hfz5 := blk_frozen BK270.out))
  refine bodyPost_ret (results_cell_row rfl _ _ gb270 40 #[.slice Ao4 y271.length co4, .int .i64 2] (0, 0) _ rfl (by (with_reducible repeat (first | refine blk_drewN ?_ _ | refine blk_drew ?_ | refine blk_alloc ?_ _)); refine blk_put (cs := #[.slice Ao4 y271.length co4, .int .i64 0]) ?_ 1 _ rfl; (with_reducible repeat (first | refine blk_drewN ?_ _ | refine blk_drew ?_ | refine blk_alloc ?_ _)); refine blk_put (cs := #[.slice none 0 0, .int .i64 0]) ?_ 0 _ rfl; (with_reducible repeat (first | refine blk_drewN ?_ _ | refine blk_drew ?_ | refine blk_alloc ?_ _)); exact BK270.out) Try.underlying40 rfl (by kernel_rfl)) rfl ?_
  exact ⟨_, ER, by (with_reducible repeat (first | apply Kd.S_alloc | apply Kd.S_drewN | apply Kd.S_drew)); exact Kd.S_mono (Kd.S_far (p := ⟨gb270, 1, none⟩) (Kd.S_far (p := ⟨gb270, 0, none⟩) (Kd.S_types HO273.out BK270.out (by decide)) (fun _ hk => hk.2) (.slice Ao4 y271.length co4)) (fun _ hk => hk.2) (.int .i64 2)) (fun _ hk => trivial), (BB1 HB.out GE270.out)⟩

end Go.Proofs.Ytfgnaneajonapaa.Pr

namespace Go.Proofs.Ytfgnaneajonapaa.Pr
open Go.RowKit Go.Proofs.YtfgnaneajonapaaW.PrintWords Go.Proofs.YtfgnaneajonapaaW.PrintLast Go.Proofs.YtfgnaneajonapaaW.PrintMore
attribute [local go_sem] max2_int min2_int max_two min_two max_three min_three max_four min_four
set_option linter.unusedVariables false
set_option linter.unusedSimpArgs false
def spec_ServerNew.f  : Option (Bool × (List (S135)) × Int × Int × (List (S192)) × (List (S120)) × Int) := (spec_TreeNew.f).bind fun bt275 => (some (true, bt275.1, bt275.2, 1, ([] : List (S192)), ([] : List (S120)), 0))
set_option maxHeartbeats 8000000 in
set_option maxRecDepth 100000 in
theorem spec_ServerNew.calls  (r1 : Bool) (r2 : List (S135)) (r3 : Int) (r4 : Int) (r5 : List (S192)) (r6 : List (S120)) (r7 : Int) (w : World) (h : spec_ServerNew.f  = some (r1, r2, r3, r4, r5, r6, r7)) :
    Calls Try.prog 25 #[] w fun e w' => ∃ v1_ v4_ v5_ : Value, e = .returned (.agg #[.bool r1, v1_, .int .i64 r3, .int .i64 r4, v4_, v5_, .int .i64 r7]) ∧ Kd.S k135 135 w' w.heap.size (fun _ => True) v1_ r2 ∧ Kd.R k192 192 w' w.heap.size (fun _ => True) v4_ r5 ∧ Kd.R k120 120 w' w.heap.size (fun _ => True) v5_ r6 ∧ Below w.heap.size w w' := by
  have hu46 := Try.underlying46
  have HB := Aside0.mk (Below.refl w.heap.size w)
  have H : ((spec_TreeNew.f).bind fun bt275 => (some (true, bt275.1, bt275.2, 1, ([] : List (S192)), ([] : List (S120)), 0))) = some (r1, r2, r3, r4, r5, r6, r7) := h
  clear h
  replace H := Option.bind_eq_some_iff.mp H
  obtain ⟨⟨t275, t278⟩, A10, H⟩ := H
  replace H : (some (true, t275, t278, 1, ([] : List (S192)), ([] : List (S120)), 0)) = some (r1, r2, r3, r4, r5, r6, r7) := H
  have A1 := Aside0.mk A10
  clear A10
  simp only [Option.some.injEq, Prod.mk.injEq] at H
  obtain ⟨rfl, rfl, rfl, rfl, rfl, rfl, rfl⟩ := H
  go_enter Try.func25, Try.ntmps25
  go_wp2_with (first | ((with_reducible refine gate_dst (N := 0) rfl ?_); refine BX 0 #[.bool false, .slice none 0 0, .int .i64 0, .int .i64 0, .slice none 0 0, .slice none 0 0, .int .i64 0] 46 ?_; intro gb274 hg w2 hbox hb; have BK274 := Aside0.mk (hbox); have GW274 : Aside0 (w.heap.size ≤ gb274) := WG hg (BB HB.out); have GE274 := GW274; replace HB := Aside0.mk (below_step (BB HB.out) hb); clear hb hbox hg) | ((with_reducible refine gate_callee (f := 61) rfl ?_); refine GL (some 1) rfl rfl Try.func61 #[] rfl ?_; (with_reducible refine (spec_TreeNew.calls  t275 t278 _ A1.out).mono ?_); rintro e w3 ⟨v276, rfl, ho0, hb⟩; refine ⟨_, rfl, ?_⟩; have HO277 := Aside0.mk (Kd.S_lower ho0 (below_size (BB1 HB.out GE274.out))); replace BK274 := Aside0.mk (KB BK274.out hb); replace HB := Aside0.mk (below_step (BB1 HB.out GE274.out) hb); (try clear hb); (try clear ho0); obtain ⟨Ao4, co4, eo4⟩ := Kd.S_slice HO277.out; subst eo4; have hcz5 := blk_cell BK274.out; have hfz5 := blk_frozen BK274.out))
  refine bodyPost_ret (results_cell_row rfl _ _ gb274 46 #[.bool true, .slice Ao4 t275.length co4, .int .i64 t278, .int .i64 1, .slice none 0 0, .slice none 0 0, .int .i64 0] (0, 0) _ rfl (by (with_reducible repeat (first | refine blk_drewN ?_ _ | refine blk_drew ?_ | refine blk_alloc ?_ _)); refine blk_put (cs := #[.bool true, .slice Ao4 t275.length co4, .int .i64 t278, .int .i64 1, .slice none 0 0, .slice none 0 0, .int .i64 0]) ?_ 6 _ rfl; (with_reducible repeat (first | refine blk_drewN ?_ _ | refine blk_drew ?_ | refine blk_alloc ?_ _)); refine blk_put (cs := #[.bool true, .slice Ao4 t275.length co4, .int .i64 t278, .int .i64 1, .slice none 0 0, .slice none 0 0, .int .i64 0]) ?_ 5 _ rfl; (with_reducible repeat (first | refine blk_drewN ?_ _ | refine blk_drew ?_ | refine blk_alloc ?_ _)); refine blk_put (cs := #[.bool true, .slice Ao4 t275.length co4, .int .i64 t278, .int .i64 1, .slice none 0 0, .slice none 0 0, .int .i64 0]) ?_ 4 _ rfl; (with_reducible repeat (first | refine blk_drewN ?_ _ | refine blk_drew ?_ | refine blk_alloc ?_ _)); refine blk_put (cs := #[.bool true, .slice Ao4 t275.length co4, .int .i64 t278, .int .i64 0, .slice none 0 0, .slice none 0 0, .int .i64 0]) ?_ 3 _ rfl; (with_reducible repeat (first | refine blk_drewN ?_ _ | refine blk_drew ?_ | refine blk_alloc ?_ _)); refine blk_put (cs := #[.bool true, .slice Ao4 t275.length co4, .int .i64 0, .int .i64 0, .slice none 0 0, .slice none 0 0, .int .i64 0]) ?_ 2 _ rfl; (with_reducible repeat (first | refine blk_drewN ?_ _ | refine blk_drew ?_ | refine blk_alloc ?_ _)); refine blk_put (cs := #[.bool true, .slice none 0 0, .int .i64 0, .int .i64 0, .slice none 0 0, .slice none 0 0, .int .i64 0]) ?_ 1 _ rfl; (with_reducible repeat (first | refine blk_drewN ?_ _ | refine blk_drew ?_ | refine blk_alloc ?_ _)); refine blk_put (cs := #[.bool false, .slice none 0 0, .int .i64 0, .int .i64 0, .slice none 0 0, .slice none 0 0, .int .i64 0]) ?_ 0 _ rfl; (with_reducible repeat (first | refine blk_drewN ?_ _ | refine blk_drew ?_ | refine blk_alloc ?_ _)); exact BK274.out) Try.underlying46 rfl (by kernel_rfl)) rfl ?_
  exact ⟨_, _, _, ER, by (with_reducible repeat (first | apply Kd.S_alloc | apply Kd.S_drewN | apply Kd.S_drew)); exact Kd.S_mono (Kd.S_far (p := ⟨gb274, 6, none⟩) (Kd.S_far (p := ⟨gb274, 5, none⟩) (Kd.S_far (p := ⟨gb274, 4, none⟩) (Kd.S_far (p := ⟨gb274, 3, none⟩) (Kd.S_far (p := ⟨gb274, 2, none⟩) (Kd.S_far (p := ⟨gb274, 1, none⟩) (Kd.S_far (p := ⟨gb274, 0, none⟩) (Kd.S_types HO277.out BK274.out (by decide)) (fun _ hk => hk.2) (.bool true)) (fun _ hk => hk.2) (.slice Ao4 t275.length co4)) (fun _ hk => hk.2) (.int .i64 t278)) (fun _ hk => hk.2) (.int .i64 1)) (fun _ hk => hk.2) (.slice none 0 0)) (fun _ hk => hk.2) (.slice none 0 0)) (fun _ hk => hk.2) (.int .i64 0)) (fun _ hk => trivial), by first | exact Kd.R_nil _ _ _ _ _ | exact Kd.N_nil _ _ _ _ _ | exact Kd.V_nil _ _ _ _ _ | exact Kd.Q_nil _ _ _ _ _ | exact Kd.S_nil _ _ _ _ _, by first | exact Kd.R_nil _ _ _ _ _ | exact Kd.N_nil _ _ _ _ _ | exact Kd.V_nil _ _ _ _ _ | exact Kd.Q_nil _ _ _ _ _ | exact Kd.S_nil _ _ _ _ _, (BB1 HB.out GE274.out)⟩

end Go.Proofs.Ytfgnaneajonapaa.Pr

namespace Go.Proofs.Ytfgnaneajonapaa.Pr
open Go.RowKit Go.Proofs.YtfgnaneajonapaaW.PrintWords Go.Proofs.YtfgnaneajonapaaW.PrintLast Go.Proofs.YtfgnaneajonapaaW.PrintMore
attribute [local go_sem] max2_int min2_int max_two min_two max_three min_three max_four min_four
set_option linter.unusedVariables false
set_option linter.unusedSimpArgs false
def spec_WorldNew.l0 : Nat → Int → Bool → List (S135) → Int → Int → List (S192) → List (S120) → Int → List (S97) → Option (Bool × (List (S135)) × Int × Int × (List (S192)) × (List (S120)) × Int × (List (S97)) × List Int × List ByteArray × (List (S168)))
  | 0, _, _, _, _, _, _, _, _, _ => none
  | k + 1, x2, x632000, x632001, x632002, x632003, x632004, x632005, x632006, x632007 => if x2 ≤ 7 then (if x632007.length < 3518437208883 then (spec_WorldNew.l0 k (wrap64 (x2 + 1)) x632000 x632001 x632002 x632003 x632004 x632005 x632006 (x632007 ++ [(⟨x2, true, ([] : List (S146))⟩ : S97)])) else (none)) else (some (x632000, x632001, x632002, x632003, x632004, x632005, x632006, x632007, ([] : List Int), ([] : List ByteArray), ([] : List (S168))))
def spec_WorldNew.f (k : Nat)  : Option (Bool × (List (S135)) × Int × Int × (List (S192)) × (List (S120)) × Int × (List (S97)) × List Int × List ByteArray × (List (S168))) := (spec_ServerNew.f).bind fun bt618 => (spec_WorldNew.l0 k 1 bt618.1 bt618.2.1 bt618.2.2.1 bt618.2.2.2.1 bt618.2.2.2.2.1 bt618.2.2.2.2.2.1 bt618.2.2.2.2.2.2 ([] : List (S97)))
set_option maxHeartbeats 8000000 in
set_option maxRecDepth 100000 in
theorem spec_WorldNew.calls (k : Nat)  (r1 : Bool) (r2 : List (S135)) (r3 : Int) (r4 : Int) (r5 : List (S192)) (r6 : List (S120)) (r7 : Int) (r8 : List (S97)) (r9 : List Int) (r10 : List ByteArray) (r11 : List (S168)) (w : World) (h : spec_WorldNew.f k  = some (r1, r2, r3, r4, r5, r6, r7, r8, r9, r10, r11)) :
    Calls Try.prog 41 #[] w fun e w' => ∃ v1_ v4_ v5_ v7_ v8_ v9_ v10_ : Value, e = .returned (.agg #[.bool r1, v1_, .int .i64 r3, .int .i64 r4, v4_, v5_, .int .i64 r7, v7_, v8_, v9_, v10_]) ∧ Kd.S k135 135 w' w.heap.size (fun _ => True) v1_ r2 ∧ Kd.R k192 192 w' w.heap.size (fun _ => True) v4_ r5 ∧ Kd.R k120 120 w' w.heap.size (fun _ => True) v5_ r6 ∧ Kd.S k97 97 w' w.heap.size (fun _ => True) v7_ r8 ∧ Kd.R (Kd.int .i64) 3 w' w.heap.size (fun _ => True) v8_ r9 ∧ Kd.R Kd.string 9 w' w.heap.size (fun _ => True) v9_ r10 ∧ Kd.R k168 168 w' w.heap.size (fun _ => True) v10_ r11 ∧ Below w.heap.size w w' := by
  have hu77 := Try.underlying77
  have hu97 := Try.underlying97
  have HB := Aside0.mk (Below.refl w.heap.size w)
  have H : ((spec_ServerNew.f).bind fun bt618 => (spec_WorldNew.l0 k 1 bt618.1 bt618.2.1 bt618.2.2.1 bt618.2.2.2.1 bt618.2.2.2.2.1 bt618.2.2.2.2.2.1 bt618.2.2.2.2.2.2 ([] : List (S97)))) = some (r1, r2, r3, r4, r5, r6, r7, r8, r9, r10, r11) := h
  clear h
  replace H := Option.bind_eq_some_iff.mp H
  obtain ⟨⟨t618, t619, t622, t623, t624, t627, t630⟩, A10, H⟩ := H
  replace H : (spec_WorldNew.l0 k 1 t618 t619 t622 t623 t624 t627 t630 ([] : List (S97))) = some (r1, r2, r3, r4, r5, r6, r7, r8, r9, r10, r11) := H
  have A1 := Aside0.mk A10
  clear A10
  have H' := Aside0.mk H
  clear H
  go_enter Try.func41, Try.ntmps41
  go_wp2_with (first | ((with_reducible refine gate_dst (N := 0) rfl ?_); refine BX 0 #[.bool false, .slice none 0 0, .int .i64 0, .int .i64 0, .slice none 0 0, .slice none 0 0, .int .i64 0, .slice none 0 0, .slice none 0 0, .slice none 0 0, .slice none 0 0] 77 ?_; intro gb617 hg w2 hbox hb; have BK617 := Aside0.mk (hbox); have GW617 : Aside0 (w.heap.size ≤ gb617) := WG hg (BB HB.out); have GE617 := GW617; replace HB := Aside0.mk (below_step (BB HB.out) hb); clear hb hbox hg) | ((with_reducible refine gate_callee (f := 25) rfl ?_); refine GL (some 3) rfl rfl Try.func25 #[] rfl ?_; (with_reducible refine (spec_ServerNew.calls  t618 t619 t622 t623 t624 t627 t630 _ A1.out).mono ?_); rintro e w3 ⟨v620, v625, v628, rfl, ho0, ho1, ho2, hb⟩; refine ⟨_, rfl, ?_⟩; have HO621 := Aside0.mk (Kd.S_lower ho0 (below_size (BB1 HB.out GE617.out))); have HO626 := Aside0.mk (Kd.R_lower ho1 (below_size (BB1 HB.out GE617.out))); have HO629 := Aside0.mk (Kd.R_lower ho2 (below_size (BB1 HB.out GE617.out))); replace BK617 := Aside0.mk (KB BK617.out hb); replace HB := Aside0.mk (below_step (BB1 HB.out GE617.out) hb); (try clear hb); (try clear ho0); (try clear ho1); (try clear ho2); obtain ⟨Ao4, co4, eo4⟩ := Kd.R_slice HO629.out; subst eo4; obtain ⟨Ao5, co5, eo5⟩ := Kd.R_slice HO626.out; subst eo5; obtain ⟨Ao6, co6, eo6⟩ := Kd.S_slice HO621.out; subst eo6) | ((with_reducible refine gate_dst (N := 1) rfl ?_); refine BX 1 #[.bool false, .slice none 0 0, .int .i64 0, .int .i64 0, .slice none 0 0, .slice none 0 0, .int .i64 0, .slice none 0 0, .slice none 0 0, .slice none 0 0, .slice none 0 0] 77 ?_; intro gb631 hg w7 hbox hb; have BK631 := Aside0.mk (hbox); have GW631 : Aside0 (w.heap.size ≤ gb631) := WG hg (BB1 HB.out GE617.out); have GE631 := GW631; have NB617_631 := NL BK617.out hg; have NB631_617 := NG BK617.out hg; replace HO621 := Aside0.mk (Kd.S_below (SS HO621.out) hb); replace HO626 := Aside0.mk (Kd.R_below (RR HO626.out) hb); replace HO629 := Aside0.mk (Kd.R_below (RR HO629.out) hb); replace BK617 := Aside0.mk (KB BK617.out hb); replace HB := Aside0.mk (below_step (BB1 HB.out GE617.out) hb); clear hb hbox hg; have hnb8 := NB631_617.out; have hnc8 := NB617_631.out; have hcz9_0 : w7.cell? ⟨gb631, 0, none⟩ = some (.bool false) := (blk_cell BK631.out 0).trans rfl; have hcz9_1 : w7.cell? ⟨gb631, 1, none⟩ = some (.slice none 0 0) := (blk_cell BK631.out 1).trans rfl; have hcz9_2 : w7.cell? ⟨gb631, 2, none⟩ = some (.int .i64 0) := (blk_cell BK631.out 2).trans rfl; have hcz9_3 : w7.cell? ⟨gb631, 3, none⟩ = some (.int .i64 0) := (blk_cell BK631.out 3).trans rfl; have hcz9_4 : w7.cell? ⟨gb631, 4, none⟩ = some (.slice none 0 0) := (blk_cell BK631.out 4).trans rfl; have hcz9_5 : w7.cell? ⟨gb631, 5, none⟩ = some (.slice none 0 0) := (blk_cell BK631.out 5).trans rfl; have hcz9_6 : w7.cell? ⟨gb631, 6, none⟩ = some (.int .i64 0) := (blk_cell BK631.out 6).trans rfl; have hcz9_7 : w7.cell? ⟨gb631, 7, none⟩ = some (.slice none 0 0) := (blk_cell BK631.out 7).trans rfl; have hcz9_8 : w7.cell? ⟨gb631, 8, none⟩ = some (.slice none 0 0) := (blk_cell BK631.out 8).trans rfl; have hcz9_9 : w7.cell? ⟨gb631, 9, none⟩ = some (.slice none 0 0) := (blk_cell BK631.out 9).trans rfl; have hcz9_10 : w7.cell? ⟨gb631, 10, none⟩ = some (.slice none 0 0) := (blk_cell BK631.out 10).trans rfl; have hfz9_0 := blk_frozen BK631.out 0; have hfz9_1 := blk_frozen BK631.out 1; have hfz9_2 := blk_frozen BK631.out 2; have hfz9_3 := blk_frozen BK631.out 3; have hfz9_4 := blk_frozen BK631.out 4; have hfz9_5 := blk_frozen BK631.out 5; have hfz9_6 := blk_frozen BK631.out 6; have hfz9_7 := blk_frozen BK631.out 7; have hfz9_8 := blk_frozen BK631.out 8; have hfz9_9 := blk_frozen BK631.out 9; have hfz9_10 := blk_frozen BK631.out 10))
  go_loopg [2] k (fun kq v2 w' => ∃ (x2_1 : Int) (x632007_1 : List (S97)) (u632007 : Value), v2 = .int .i64 x2_1 ∧ Aside0 (spec_WorldNew.l0 kq x2_1 t618 t619 t622 t623 t624 t627 t630 x632007_1 = some (r1, r2, r3, r4, r5, r6, r7, r8, r9, r10, r11)) ∧ Aside0 (kq ≤ k) ∧ Aside0 (Kd.S k135 135 w' w.heap.size (fun _ => True) (.slice Ao6 t619.length co6) t619) ∧ Aside0 (Kd.R k192 192 w' w.heap.size (fun _ => True) (.slice Ao5 t624.length co5) t624) ∧ Aside0 (Kd.R k120 120 w' w.heap.size (fun _ => True) (.slice Ao4 t627.length co4) t627) ∧ Aside0 (Kd.S k97 97 w' w.heap.size (fun _ => True) u632007 x632007_1) ∧ Aside0 (w'.heap[gb617]? = some (.cells #[.bool false, (.slice none 0 0), .int .i64 0, .int .i64 0, (.slice none 0 0), (.slice none 0 0), .int .i64 0, (.slice none 0 0), (.slice none 0 0), (.slice none 0 0), (.slice none 0 0)] 77 (0, 0))) ∧ Aside0 (w'.heap[gb631]? = some (.cells #[.bool t618, (.slice Ao6 t619.length co6), .int .i64 t622, .int .i64 t623, (.slice Ao5 t624.length co5), (.slice Ao4 t627.length co4), .int .i64 t630, u632007, (.slice none 0 0), (.slice none 0 0), (.slice none 0 0)] 77 (0, 0))) ∧ Aside0 (Below w.heap.size w w'))
  case atStart => exact ⟨(1), (([] : List (S97))), (.slice none 0 0), FR, H', ⟨Nat.le_refl _⟩, ⟨by (with_reducible repeat (first | apply Kd.S_alloc | apply Kd.S_drewN | apply Kd.S_drew)); exact Kd.S_mono (Kd.S_far (p := ⟨gb631, 10, none⟩) (Kd.S_far (p := ⟨gb631, 9, none⟩) (Kd.S_far (p := ⟨gb631, 8, none⟩) (Kd.S_far (p := ⟨gb631, 7, none⟩) (Kd.S_far (p := ⟨gb631, 6, none⟩) (Kd.S_far (p := ⟨gb631, 5, none⟩) (Kd.S_far (p := ⟨gb631, 4, none⟩) (Kd.S_far (p := ⟨gb631, 3, none⟩) (Kd.S_far (p := ⟨gb631, 2, none⟩) (Kd.S_far (p := ⟨gb631, 1, none⟩) (Kd.S_far (p := ⟨gb631, 0, none⟩) (Kd.S_types HO621.out BK631.out (by decide)) (fun _ hk => hk.2) (.bool t618)) (fun _ hk => hk.2) (.slice Ao6 t619.length co6)) (fun _ hk => hk.2) (.int .i64 t622)) (fun _ hk => hk.2) (.int .i64 t623)) (fun _ hk => hk.2) (.slice Ao5 t624.length co5)) (fun _ hk => hk.2) (.slice Ao4 t627.length co4)) (fun _ hk => hk.2) (.int .i64 t630)) (fun _ hk => hk.2) (.slice none 0 0)) (fun _ hk => hk.2) (.slice none 0 0)) (fun _ hk => hk.2) (.slice none 0 0)) (fun _ hk => hk.2) (.slice none 0 0)) (fun _ hk => trivial)⟩, ⟨by (with_reducible repeat (first | apply Kd.R_alloc | apply Kd.R_drewN | apply Kd.R_drew)); exact Kd.R_mono (Kd.R_far (p := ⟨gb631, 10, none⟩) (Kd.R_far (p := ⟨gb631, 9, none⟩) (Kd.R_far (p := ⟨gb631, 8, none⟩) (Kd.R_far (p := ⟨gb631, 7, none⟩) (Kd.R_far (p := ⟨gb631, 6, none⟩) (Kd.R_far (p := ⟨gb631, 5, none⟩) (Kd.R_far (p := ⟨gb631, 4, none⟩) (Kd.R_far (p := ⟨gb631, 3, none⟩) (Kd.R_far (p := ⟨gb631, 2, none⟩) (Kd.R_far (p := ⟨gb631, 1, none⟩) (Kd.R_far (p := ⟨gb631, 0, none⟩) (Kd.R_types HO626.out BK631.out (by decide)) (fun _ hk => hk.2) (.bool t618)) (fun _ hk => hk.2) (.slice Ao6 t619.length co6)) (fun _ hk => hk.2) (.int .i64 t622)) (fun _ hk => hk.2) (.int .i64 t623)) (fun _ hk => hk.2) (.slice Ao5 t624.length co5)) (fun _ hk => hk.2) (.slice Ao4 t627.length co4)) (fun _ hk => hk.2) (.int .i64 t630)) (fun _ hk => hk.2) (.slice none 0 0)) (fun _ hk => hk.2) (.slice none 0 0)) (fun _ hk => hk.2) (.slice none 0 0)) (fun _ hk => hk.2) (.slice none 0 0)) (fun _ hk => trivial)⟩, ⟨by (with_reducible repeat (first | apply Kd.R_alloc | apply Kd.R_drewN | apply Kd.R_drew)); exact Kd.R_mono (Kd.R_far (p := ⟨gb631, 10, none⟩) (Kd.R_far (p := ⟨gb631, 9, none⟩) (Kd.R_far (p := ⟨gb631, 8, none⟩) (Kd.R_far (p := ⟨gb631, 7, none⟩) (Kd.R_far (p := ⟨gb631, 6, none⟩) (Kd.R_far (p := ⟨gb631, 5, none⟩) (Kd.R_far (p := ⟨gb631, 4, none⟩) (Kd.R_far (p := ⟨gb631, 3, none⟩) (Kd.R_far (p := ⟨gb631, 2, none⟩) (Kd.R_far (p := ⟨gb631, 1, none⟩) (Kd.R_far (p := ⟨gb631, 0, none⟩) (Kd.R_types HO629.out BK631.out (by decide)) (fun _ hk => hk.2) (.bool t618)) (fun _ hk => hk.2) (.slice Ao6 t619.length co6)) (fun _ hk => hk.2) (.int .i64 t622)) (fun _ hk => hk.2) (.int .i64 t623)) (fun _ hk => hk.2) (.slice Ao5 t624.length co5)) (fun _ hk => hk.2) (.slice Ao4 t627.length co4)) (fun _ hk => hk.2) (.int .i64 t630)) (fun _ hk => hk.2) (.slice none 0 0)) (fun _ hk => hk.2) (.slice none 0 0)) (fun _ hk => hk.2) (.slice none 0 0)) (fun _ hk => hk.2) (.slice none 0 0)) (fun _ hk => trivial)⟩, ⟨by first | exact Kd.S_nil _ _ _ _ _ | exact Kd.N_nil _ _ _ _ _ | exact Kd.V_nil _ _ _ _ _ | exact Kd.Q_nil _ _ _ _ _ | exact Kd.R_nil _ _ _ _ _⟩, ⟨by (with_reducible repeat (first | refine blk_drewN ?_ _ | refine blk_drew ?_ | refine blk_alloc ?_ _)); refine blk_far ?_ NB617_631.out _; (with_reducible repeat (first | refine blk_drewN ?_ _ | refine blk_drew ?_ | refine blk_alloc ?_ _)); refine blk_far ?_ NB617_631.out _; (with_reducible repeat (first | refine blk_drewN ?_ _ | refine blk_drew ?_ | refine blk_alloc ?_ _)); refine blk_far ?_ NB617_631.out _; (with_reducible repeat (first | refine blk_drewN ?_ _ | refine blk_drew ?_ | refine blk_alloc ?_ _)); refine blk_far ?_ NB617_631.out _; (with_reducible repeat (first | refine blk_drewN ?_ _ | refine blk_drew ?_ | refine blk_alloc ?_ _)); refine blk_far ?_ NB617_631.out _; (with_reducible repeat (first | refine blk_drewN ?_ _ | refine blk_drew ?_ | refine blk_alloc ?_ _)); refine blk_far ?_ NB617_631.out _; (with_reducible repeat (first | refine blk_drewN ?_ _ | refine blk_drew ?_ | refine blk_alloc ?_ _)); refine blk_far ?_ NB617_631.out _; (with_reducible repeat (first | refine blk_drewN ?_ _ | refine blk_drew ?_ | refine blk_alloc ?_ _)); refine blk_far ?_ NB617_631.out _; (with_reducible repeat (first | refine blk_drewN ?_ _ | refine blk_drew ?_ | refine blk_alloc ?_ _)); refine blk_far ?_ NB617_631.out _; (with_reducible repeat (first | refine blk_drewN ?_ _ | refine blk_drew ?_ | refine blk_alloc ?_ _)); refine blk_far ?_ NB617_631.out _; (with_reducible repeat (first | refine blk_drewN ?_ _ | refine blk_drew ?_ | refine blk_alloc ?_ _)); refine blk_far ?_ NB617_631.out _; (with_reducible repeat (first | refine blk_drewN ?_ _ | refine blk_drew ?_ | refine blk_alloc ?_ _)); exact BK617.out⟩, ⟨by (with_reducible repeat (first | refine blk_drewN ?_ _ | refine blk_drew ?_ | refine blk_alloc ?_ _)); refine blk_put (cs := #[.bool t618, .slice Ao6 t619.length co6, .int .i64 t622, .int .i64 t623, .slice Ao5 t624.length co5, .slice Ao4 t627.length co4, .int .i64 t630, .slice none 0 0, .slice none 0 0, .slice none 0 0, .slice none 0 0]) ?_ 10 _ rfl; (with_reducible repeat (first | refine blk_drewN ?_ _ | refine blk_drew ?_ | refine blk_alloc ?_ _)); refine blk_put (cs := #[.bool t618, .slice Ao6 t619.length co6, .int .i64 t622, .int .i64 t623, .slice Ao5 t624.length co5, .slice Ao4 t627.length co4, .int .i64 t630, .slice none 0 0, .slice none 0 0, .slice none 0 0, .slice none 0 0]) ?_ 9 _ rfl; (with_reducible repeat (first | refine blk_drewN ?_ _ | refine blk_drew ?_ | refine blk_alloc ?_ _)); refine blk_put (cs := #[.bool t618, .slice Ao6 t619.length co6, .int .i64 t622, .int .i64 t623, .slice Ao5 t624.length co5, .slice Ao4 t627.length co4, .int .i64 t630, .slice none 0 0, .slice none 0 0, .slice none 0 0, .slice none 0 0]) ?_ 8 _ rfl; (with_reducible repeat (first | refine blk_drewN ?_ _ | refine blk_drew ?_ | refine blk_alloc ?_ _)); refine blk_put (cs := #[.bool t618, .slice Ao6 t619.length co6, .int .i64 t622, .int .i64 t623, .slice Ao5 t624.length co5, .slice Ao4 t627.length co4, .int .i64 t630, .slice none 0 0, .slice none 0 0, .slice none 0 0, .slice none 0 0]) ?_ 7 _ rfl; (with_reducible repeat (first | refine blk_drewN ?_ _ | refine blk_drew ?_ | refine blk_alloc ?_ _)); refine blk_put (cs := #[.bool t618, .slice Ao6 t619.length co6, .int .i64 t622, .int .i64 t623, .slice Ao5 t624.length co5, .slice Ao4 t627.length co4, .int .i64 0, .slice none 0 0, .slice none 0 0, .slice none 0 0, .slice none 0 0]) ?_ 6 _ rfl; (with_reducible repeat (first | refine blk_drewN ?_ _ | refine blk_drew ?_ | refine blk_alloc ?_ _)); refine blk_put (cs := #[.bool t618, .slice Ao6 t619.length co6, .int .i64 t622, .int .i64 t623, .slice Ao5 t624.length co5, .slice none 0 0, .int .i64 0, .slice none 0 0, .slice none 0 0, .slice none 0 0, .slice none 0 0]) ?_ 5 _ rfl; (with_reducible repeat (first | refine blk_drewN ?_ _ | refine blk_drew ?_ | refine blk_alloc ?_ _)); refine blk_put (cs := #[.bool t618, .slice Ao6 t619.length co6, .int .i64 t622, .int .i64 t623, .slice none 0 0, .slice none 0 0, .int .i64 0, .slice none 0 0, .slice none 0 0, .slice none 0 0, .slice none 0 0]) ?_ 4 _ rfl; (with_reducible repeat (first | refine blk_drewN ?_ _ | refine blk_drew ?_ | refine blk_alloc ?_ _)); refine blk_put (cs := #[.bool t618, .slice Ao6 t619.length co6, .int .i64 t622, .int .i64 0, .slice none 0 0, .slice none 0 0, .int .i64 0, .slice none 0 0, .slice none 0 0, .slice none 0 0, .slice none 0 0]) ?_ 3 _ rfl; (with_reducible repeat (first | refine blk_drewN ?_ _ | refine blk_drew ?_ | refine blk_alloc ?_ _)); refine blk_put (cs := #[.bool t618, .slice Ao6 t619.length co6, .int .i64 0, .int .i64 0, .slice none 0 0, .slice none 0 0, .int .i64 0, .slice none 0 0, .slice none 0 0, .slice none 0 0, .slice none 0 0]) ?_ 2 _ rfl; (with_reducible repeat (first | refine blk_drewN ?_ _ | refine blk_drew ?_ | refine blk_alloc ?_ _)); refine blk_put (cs := #[.bool t618, .slice none 0 0, .int .i64 0, .int .i64 0, .slice none 0 0, .slice none 0 0, .int .i64 0, .slice none 0 0, .slice none 0 0, .slice none 0 0, .slice none 0 0]) ?_ 1 _ rfl; (with_reducible repeat (first | refine blk_drewN ?_ _ | refine blk_drew ?_ | refine blk_alloc ?_ _)); refine blk_put (cs := #[.bool false, .slice none 0 0, .int .i64 0, .int .i64 0, .slice none 0 0, .slice none 0 0, .int .i64 0, .slice none 0 0, .slice none 0 0, .slice none 0 0, .slice none 0 0]) ?_ 0 _ rfl; (with_reducible repeat (first | refine blk_drewN ?_ _ | refine blk_drew ?_ | refine blk_alloc ?_ _)); exact BK631.out⟩, ⟨(BB2 HB.out GE617.out GE631.out)⟩⟩
  case round =>
    clear H'
    try clear c2
    try clear p2
    try clear c4
    try clear c8
    try clear hcz9_0
    try clear hcz9_1
    try clear hcz9_10
    try clear hcz9_2
    try clear hcz9_3
    try clear hcz9_4
    try clear hcz9_5
    try clear hcz9_6
    try clear hcz9_7
    try clear hcz9_8
    try clear hcz9_9
    try clear hfz9_0
    try clear hfz9_1
    try clear hfz9_10
    try clear hfz9_2
    try clear hfz9_3
    try clear hfz9_4
    try clear hfz9_5
    try clear hfz9_6
    try clear hfz9_7
    try clear hfz9_8
    try clear hfz9_9
    obtain ⟨x2_1, x632007_1, u632007, rfl, HA, HK1, HO_632001, HO_632004, HO_632005, HO_632007, BK617, BK631, HB⟩ := hrel
    cases gk with
    | zero => exact absurd HA.out (by simp [spec_WorldNew.l0])
    | succ k1 =>
      have H := HA.out
      clear HA
      simp only [spec_WorldNew.l0] at H
      by_cases c10 : x2_1 ≤ 7
      · rw [if_pos c10] at H
        have c10b0 : decide (x2_1 ≤ 7) = true := decide_eq_true c10
        clear c10
        by_cases c11 : x632007_1.length < 3518437208883
        · rw [if_pos c11] at H
          have LMc11 := Aside0.mk c11
          clear c11
          obtain ⟨y632, hy632⟩ : ∃ y_ : List (S97), y_ = (x632007_1 ++ [(⟨x2_1, true, ([] : List (S146))⟩ : S97)]) := ⟨_, rfl⟩
          replace H : (spec_WorldNew.l0 k1 (wrap64 (x2_1 + 1)) t618 t619 t622 t623 t624 t627 t630 y632) = some (r1, r2, r3, r4, r5, r6, r7, r8, r9, r10, r11) := by first | (rw [hy632]; with_reducible exact H) | (have H2_ := (Option.bind_some _ _).symm.trans H; rw [hy632]; with_reducible exact H2_) | (have H2_ := (Option.bind_some _ _).symm.trans H; with_reducible exact H2_) | with_reducible exact H | (rw [hy632]; exact H) | exact H
          have Ny632 := Aside0.mk hy632
          clear hy632
          have H' := Aside0.mk H
          clear H
          have hnb12 := NB631_617.out
          have hnc12 := NB617_631.out
          have hcz13_0 : wr.cell? ⟨gb631, 0, none⟩ = some (.bool t618) := (blk_cell BK631.out 0).trans rfl
          have hcz13_1 : wr.cell? ⟨gb631, 1, none⟩ = some (.slice Ao6 t619.length co6) := (blk_cell BK631.out 1).trans rfl
          have hcz13_2 : wr.cell? ⟨gb631, 2, none⟩ = some (.int .i64 t622) := (blk_cell BK631.out 2).trans rfl
          have hcz13_3 : wr.cell? ⟨gb631, 3, none⟩ = some (.int .i64 t623) := (blk_cell BK631.out 3).trans rfl
          have hcz13_4 : wr.cell? ⟨gb631, 4, none⟩ = some (.slice Ao5 t624.length co5) := (blk_cell BK631.out 4).trans rfl
          have hcz13_5 : wr.cell? ⟨gb631, 5, none⟩ = some (.slice Ao4 t627.length co4) := (blk_cell BK631.out 5).trans rfl
          have hcz13_6 : wr.cell? ⟨gb631, 6, none⟩ = some (.int .i64 t630) := (blk_cell BK631.out 6).trans rfl
          have hcz13_7 : wr.cell? ⟨gb631, 7, none⟩ = some (u632007) := (blk_cell BK631.out 7).trans rfl
          have hcz13_8 : wr.cell? ⟨gb631, 8, none⟩ = some (.slice none 0 0) := (blk_cell BK631.out 8).trans rfl
          have hcz13_9 : wr.cell? ⟨gb631, 9, none⟩ = some (.slice none 0 0) := (blk_cell BK631.out 9).trans rfl
          have hcz13_10 : wr.cell? ⟨gb631, 10, none⟩ = some (.slice none 0 0) := (blk_cell BK631.out 10).trans rfl
          have hfz13_0 := blk_frozen BK631.out 0
          have hfz13_1 := blk_frozen BK631.out 1
          have hfz13_2 := blk_frozen BK631.out 2
          have hfz13_3 := blk_frozen BK631.out 3
          have hfz13_4 := blk_frozen BK631.out 4
          have hfz13_5 := blk_frozen BK631.out 5
          have hfz13_6 := blk_frozen BK631.out 6
          have hfz13_7 := blk_frozen BK631.out 7
          have hfz13_8 := blk_frozen BK631.out 8
          have hfz13_9 := blk_frozen BK631.out 9
          have hfz13_10 := blk_frozen BK631.out 10
          go_wp2_with (first | ((with_reducible refine gate_builtin (b := .append) (xs := #[.tmp 10, .tmp 13]) rfl ?_); at_builtin; refine Kd.S_append k97 (w0 := w) w.heap.size rfl (.tmp 10) (.tmp 13) 25 97 (.agg #[(.int .i64 0), (.bool false), (.slice none 0 0)]) 40 rfl Try.underlying25 info97 rfl (by decide) (by omega) u632007 x632007_1 (⟨x2_1, true, ([] : List (S146))⟩ : S97) [.int .i64 x2_1, .bool true, .slice none 0 0] (fun _ => True) (fun _ => False) rfl rfl ?aP (fun k_ hk_ => hk_.elim) ?aF ?aO ?aB ?aS ?aL ?_; (case aP => exact k97_mkM _ _ _ (⟨x2_1, true, ([] : List (S146))⟩ : S97) (Kd.R_nil _ _ _ _ _)); (case aB => exact (BB2 HB.out GE617.out GE631.out)); (case aF => exact (fun _ _ => trivial)); (case aO => exact (by (with_reducible repeat (first | apply Kd.S_alloc | apply Kd.S_drewN | apply Kd.S_drew)); exact Kd.S_mono HO_632007.out (fun k_ hk => ⟨trivial, fun e_ => e_⟩))); (case aS => exact (below_size (BB2 HB.out GE617.out GE631.out))); (case aL => have := LMc11.out; omega); intro v633 w14 ho hb hg hat; rw [← Ny632.out] at ho; have n0_ := Aside0.mk (Kd.S_over' (SS HO_632001.out) (Kd.S_typed (SS HO_632007.out)) (by decide) hg); have n1_ := Aside0.mk (Kd.R_over' (RR HO_632004.out) (Kd.S_typed (SS HO_632007.out)) (by decide) hg); have n2_ := Aside0.mk (Kd.R_over' (RR HO_632005.out) (Kd.S_typed (SS HO_632007.out)) (by decide) hg); have n3_ := Aside0.mk (blk_grown (g := gb617) (o := .cells #[.bool false, .slice none 0 0, .int .i64 0, .int .i64 0, .slice none 0 0, .slice none 0 0, .int .i64 0, .slice none 0 0, .slice none 0 0, .slice none 0 0, .slice none 0 0] 77 (0, 0)) (by (with_reducible repeat (first | refine blk_drewN ?_ _ | refine blk_drew ?_ | refine blk_alloc ?_ _)); exact BK617.out) hg (Kd.S_ne HO_632007.out BK617.out (by decide))); have n4_ := Aside0.mk (blk_grown (g := gb631) (o := .cells #[.bool t618, .slice Ao6 t619.length co6, .int .i64 t622, .int .i64 t623, .slice Ao5 t624.length co5, .slice Ao4 t627.length co4, .int .i64 t630, u632007, .slice none 0 0, .slice none 0 0, .slice none 0 0] 77 (0, 0)) (by (with_reducible repeat (first | refine blk_drewN ?_ _ | refine blk_drew ?_ | refine blk_alloc ?_ _)); exact BK631.out) hg (Kd.S_ne HO_632007.out BK631.out (by decide))); have n5_ := Aside0.mk (hb); have n6_ := Aside0.mk (ho); clear HO_632001; clear HO_632004; clear HO_632005; clear BK617; clear BK631; clear HB; clear HO_632007; have HO_632001 := n0_; have HO_632004 := n1_; have HO_632005 := n2_; have BK617 := n3_; have BK631 := n4_; have HB := n5_; have HO634 := n6_; clear n0_ n1_ n2_ n3_ n4_ n5_ n6_; clear ho hb hg hat; obtain ⟨Ao15, co15, eo15⟩ := Kd.S_slice HO634.out; subst eo15; have hcz16_0 : w14.cell? ⟨gb631, 0, none⟩ = some (.bool t618) := (blk_cell BK631.out 0).trans rfl; have hcz16_1 : w14.cell? ⟨gb631, 1, none⟩ = some (.slice Ao6 t619.length co6) := (blk_cell BK631.out 1).trans rfl; have hcz16_2 : w14.cell? ⟨gb631, 2, none⟩ = some (.int .i64 t622) := (blk_cell BK631.out 2).trans rfl; have hcz16_3 : w14.cell? ⟨gb631, 3, none⟩ = some (.int .i64 t623) := (blk_cell BK631.out 3).trans rfl; have hcz16_4 : w14.cell? ⟨gb631, 4, none⟩ = some (.slice Ao5 t624.length co5) := (blk_cell BK631.out 4).trans rfl; have hcz16_5 : w14.cell? ⟨gb631, 5, none⟩ = some (.slice Ao4 t627.length co4) := (blk_cell BK631.out 5).trans rfl; have hcz16_6 : w14.cell? ⟨gb631, 6, none⟩ = some (.int .i64 t630) := (blk_cell BK631.out 6).trans rfl; have hcz16_7 : w14.cell? ⟨gb631, 7, none⟩ = some (u632007) := (blk_cell BK631.out 7).trans rfl; have hcz16_8 : w14.cell? ⟨gb631, 8, none⟩ = some (.slice none 0 0) := (blk_cell BK631.out 8).trans rfl; have hcz16_9 : w14.cell? ⟨gb631, 9, none⟩ = some (.slice none 0 0) := (blk_cell BK631.out 9).trans rfl; have hcz16_10 : w14.cell? ⟨gb631, 10, none⟩ = some (.slice none 0 0) := (blk_cell BK631.out 10).trans rfl; have hfz16_0 := blk_frozen BK631.out 0; have hfz16_1 := blk_frozen BK631.out 1; have hfz16_2 := blk_frozen BK631.out 2; have hfz16_3 := blk_frozen BK631.out 3; have hfz16_4 := blk_frozen BK631.out 4; have hfz16_5 := blk_frozen BK631.out 5; have hfz16_6 := blk_frozen BK631.out 6; have hfz16_7 := blk_frozen BK631.out 7; have hfz16_8 := blk_frozen BK631.out 8; have hfz16_9 := blk_frozen BK631.out 9; have hfz16_10 := blk_frozen BK631.out 10))
          go_roundg k1
          case measure => have := HK1.out; omega
          case rel => exact ⟨(wrap64 (x2_1 + 1)), (y632), (.slice Ao15 y632.length co15), FR, H', ⟨by have := HK1.out; omega⟩, ⟨by (with_reducible repeat (first | apply Kd.S_alloc | apply Kd.S_drewN | apply Kd.S_drew)); exact Kd.S_mono (Kd.S_far (p := ⟨gb631, 7, none⟩) (Kd.S_types HO_632001.out BK631.out (by decide)) (fun _ hk => hk.2) (.slice Ao15 y632.length co15)) (fun _ hk => trivial)⟩, ⟨by (with_reducible repeat (first | apply Kd.R_alloc | apply Kd.R_drewN | apply Kd.R_drew)); exact Kd.R_mono (Kd.R_far (p := ⟨gb631, 7, none⟩) (Kd.R_types HO_632004.out BK631.out (by decide)) (fun _ hk => hk.2) (.slice Ao15 y632.length co15)) (fun _ hk => trivial)⟩, ⟨by (with_reducible repeat (first | apply Kd.R_alloc | apply Kd.R_drewN | apply Kd.R_drew)); exact Kd.R_mono (Kd.R_far (p := ⟨gb631, 7, none⟩) (Kd.R_types HO_632005.out BK631.out (by decide)) (fun _ hk => hk.2) (.slice Ao15 y632.length co15)) (fun _ hk => trivial)⟩, ⟨by (with_reducible repeat (first | apply Kd.S_alloc | apply Kd.S_drewN | apply Kd.S_drew)); exact Kd.S_mono (Kd.S_far (p := ⟨gb631, 7, none⟩) (Kd.S_types HO634.out BK631.out (by decide)) (fun _ hk => hk.2) (.slice Ao15 y632.length co15)) (fun _ hk => trivial)⟩, ⟨by (with_reducible repeat (first | refine blk_drewN ?_ _ | refine blk_drew ?_ | refine blk_alloc ?_ _)); refine blk_far ?_ NB617_631.out _; (with_reducible repeat (first | refine blk_drewN ?_ _ | refine blk_drew ?_ | refine blk_alloc ?_ _)); exact BK617.out⟩, ⟨by (with_reducible repeat (first | refine blk_drewN ?_ _ | refine blk_drew ?_ | refine blk_alloc ?_ _)); refine blk_put (cs := #[.bool t618, .slice Ao6 t619.length co6, .int .i64 t622, .int .i64 t623, .slice Ao5 t624.length co5, .slice Ao4 t627.length co4, .int .i64 t630, u632007, .slice none 0 0, .slice none 0 0, .slice none 0 0]) ?_ 7 _ rfl; (with_reducible repeat (first | refine blk_drewN ?_ _ | refine blk_drew ?_ | refine blk_alloc ?_ _)); exact BK631.out⟩, ⟨(BB2 HB.out GE617.out GE631.out)⟩⟩
        · rw [if_neg c11] at H
          exact absurd H (by simp)
      · rw [if_neg c10] at H
        have c10b0 : decide (x2_1 ≤ 7) = false := decide_eq_false c10
        clear c10
        simp only [Option.some.injEq, Prod.mk.injEq] at H
        obtain ⟨rfl, rfl, rfl, rfl, rfl, rfl, rfl, rfl, rfl, rfl, rfl⟩ := H
        have hnb17 := NB631_617.out
        have hnc17 := NB617_631.out
        have hcz18_0 : wr.cell? ⟨gb631, 0, none⟩ = some (.bool t618) := (blk_cell BK631.out 0).trans rfl
        have hcz18_1 : wr.cell? ⟨gb631, 1, none⟩ = some (.slice Ao6 t619.length co6) := (blk_cell BK631.out 1).trans rfl
        have hcz18_2 : wr.cell? ⟨gb631, 2, none⟩ = some (.int .i64 t622) := (blk_cell BK631.out 2).trans rfl
        have hcz18_3 : wr.cell? ⟨gb631, 3, none⟩ = some (.int .i64 t623) := (blk_cell BK631.out 3).trans rfl
        have hcz18_4 : wr.cell? ⟨gb631, 4, none⟩ = some (.slice Ao5 t624.length co5) := (blk_cell BK631.out 4).trans rfl
        have hcz18_5 : wr.cell? ⟨gb631, 5, none⟩ = some (.slice Ao4 t627.length co4) := (blk_cell BK631.out 5).trans rfl
        have hcz18_6 : wr.cell? ⟨gb631, 6, none⟩ = some (.int .i64 t630) := (blk_cell BK631.out 6).trans rfl
        have hcz18_7 : wr.cell? ⟨gb631, 7, none⟩ = some (u632007) := (blk_cell BK631.out 7).trans rfl
        have hcz18_8 : wr.cell? ⟨gb631, 8, none⟩ = some (.slice none 0 0) := (blk_cell BK631.out 8).trans rfl
        have hcz18_9 : wr.cell? ⟨gb631, 9, none⟩ = some (.slice none 0 0) := (blk_cell BK631.out 9).trans rfl
        have hcz18_10 : wr.cell? ⟨gb631, 10, none⟩ = some (.slice none 0 0) := (blk_cell BK631.out 10).trans rfl
        have hfz18_0 := blk_frozen BK631.out 0
        have hfz18_1 := blk_frozen BK631.out 1
        have hfz18_2 := blk_frozen BK631.out 2
        have hfz18_3 := blk_frozen BK631.out 3
        have hfz18_4 := blk_frozen BK631.out 4
        have hfz18_5 := blk_frozen BK631.out 5
        have hfz18_6 := blk_frozen BK631.out 6
        have hfz18_7 := blk_frozen BK631.out 7
        have hfz18_8 := blk_frozen BK631.out 8
        have hfz18_9 := blk_frozen BK631.out 9
        have hfz18_10 := blk_frozen BK631.out 10
        have hcz19_0 : wr.cell? ⟨gb617, 0, none⟩ = some (.bool false) := (blk_cell BK617.out 0).trans rfl
        have hcz19_1 : wr.cell? ⟨gb617, 1, none⟩ = some (.slice none 0 0) := (blk_cell BK617.out 1).trans rfl
        have hcz19_2 : wr.cell? ⟨gb617, 2, none⟩ = some (.int .i64 0) := (blk_cell BK617.out 2).trans rfl
        have hcz19_3 : wr.cell? ⟨gb617, 3, none⟩ = some (.int .i64 0) := (blk_cell BK617.out 3).trans rfl
        have hcz19_4 : wr.cell? ⟨gb617, 4, none⟩ = some (.slice none 0 0) := (blk_cell BK617.out 4).trans rfl
        have hcz19_5 : wr.cell? ⟨gb617, 5, none⟩ = some (.slice none 0 0) := (blk_cell BK617.out 5).trans rfl
        have hcz19_6 : wr.cell? ⟨gb617, 6, none⟩ = some (.int .i64 0) := (blk_cell BK617.out 6).trans rfl
        have hcz19_7 : wr.cell? ⟨gb617, 7, none⟩ = some (.slice none 0 0) := (blk_cell BK617.out 7).trans rfl
        have hcz19_8 : wr.cell? ⟨gb617, 8, none⟩ = some (.slice none 0 0) := (blk_cell BK617.out 8).trans rfl
        have hcz19_9 : wr.cell? ⟨gb617, 9, none⟩ = some (.slice none 0 0) := (blk_cell BK617.out 9).trans rfl
        have hcz19_10 : wr.cell? ⟨gb617, 10, none⟩ = some (.slice none 0 0) := (blk_cell BK617.out 10).trans rfl
        have hfz19_0 := blk_frozen BK617.out 0
        have hfz19_1 := blk_frozen BK617.out 1
        have hfz19_2 := blk_frozen BK617.out 2
        have hfz19_3 := blk_frozen BK617.out 3
        have hfz19_4 := blk_frozen BK617.out 4
        have hfz19_5 := blk_frozen BK617.out 5
        have hfz19_6 := blk_frozen BK617.out 6
        have hfz19_7 := blk_frozen BK617.out 7
        have hfz19_8 := blk_frozen BK617.out 8
        have hfz19_9 := blk_frozen BK617.out 9
        have hfz19_10 := blk_frozen BK617.out 10
        obtain ⟨Ao20, co20, eo20⟩ := Kd.S_slice HO_632007.out
        subst eo20
        go_wp2
        refine bodyPost_ret (results_cell_row rfl _ _ gb617 77 #[.bool t618, .slice Ao6 t619.length co6, .int .i64 t622, .int .i64 t623, .slice Ao5 t624.length co5, .slice Ao4 t627.length co4, .int .i64 t630, .slice Ao20 x632007_1.length co20, .slice none 0 0, .slice none 0 0, .slice none 0 0] (0, 0) _ rfl (by (with_reducible repeat (first | refine blk_drewN ?_ _ | refine blk_drew ?_ | refine blk_alloc ?_ _)); refine blk_put (cs := #[.bool t618, .slice Ao6 t619.length co6, .int .i64 t622, .int .i64 t623, .slice Ao5 t624.length co5, .slice Ao4 t627.length co4, .int .i64 t630, .slice Ao20 x632007_1.length co20, .slice none 0 0, .slice none 0 0, .slice none 0 0]) ?_ 10 _ rfl; (with_reducible repeat (first | refine blk_drewN ?_ _ | refine blk_drew ?_ | refine blk_alloc ?_ _)); refine blk_put (cs := #[.bool t618, .slice Ao6 t619.length co6, .int .i64 t622, .int .i64 t623, .slice Ao5 t624.length co5, .slice Ao4 t627.length co4, .int .i64 t630, .slice Ao20 x632007_1.length co20, .slice none 0 0, .slice none 0 0, .slice none 0 0]) ?_ 9 _ rfl; (with_reducible repeat (first | refine blk_drewN ?_ _ | refine blk_drew ?_ | refine blk_alloc ?_ _)); refine blk_put (cs := #[.bool t618, .slice Ao6 t619.length co6, .int .i64 t622, .int .i64 t623, .slice Ao5 t624.length co5, .slice Ao4 t627.length co4, .int .i64 t630, .slice Ao20 x632007_1.length co20, .slice none 0 0, .slice none 0 0, .slice none 0 0]) ?_ 8 _ rfl; (with_reducible repeat (first | refine blk_drewN ?_ _ | refine blk_drew ?_ | refine blk_alloc ?_ _)); refine blk_put (cs := #[.bool t618, .slice Ao6 t619.length co6, .int .i64 t622, .int .i64 t623, .slice Ao5 t624.length co5, .slice Ao4 t627.length co4, .int .i64 t630, .slice none 0 0, .slice none 0 0, .slice none 0 0, .slice none 0 0]) ?_ 7 _ rfl; (with_reducible repeat (first | refine blk_drewN ?_ _ | refine blk_drew ?_ | refine blk_alloc ?_ _)); refine blk_put (cs := #[.bool t618, .slice Ao6 t619.length co6, .int .i64 t622, .int .i64 t623, .slice Ao5 t624.length co5, .slice Ao4 t627.length co4, .int .i64 0, .slice none 0 0, .slice none 0 0, .slice none 0 0, .slice none 0 0]) ?_ 6 _ rfl; (with_reducible repeat (first | refine blk_drewN ?_ _ | refine blk_drew ?_ | refine blk_alloc ?_ _)); refine blk_put (cs := #[.bool t618, .slice Ao6 t619.length co6, .int .i64 t622, .int .i64 t623, .slice Ao5 t624.length co5, .slice none 0 0, .int .i64 0, .slice none 0 0, .slice none 0 0, .slice none 0 0, .slice none 0 0]) ?_ 5 _ rfl; (with_reducible repeat (first | refine blk_drewN ?_ _ | refine blk_drew ?_ | refine blk_alloc ?_ _)); refine blk_put (cs := #[.bool t618, .slice Ao6 t619.length co6, .int .i64 t622, .int .i64 t623, .slice none 0 0, .slice none 0 0, .int .i64 0, .slice none 0 0, .slice none 0 0, .slice none 0 0, .slice none 0 0]) ?_ 4 _ rfl; (with_reducible repeat (first | refine blk_drewN ?_ _ | refine blk_drew ?_ | refine blk_alloc ?_ _)); refine blk_put (cs := #[.bool t618, .slice Ao6 t619.length co6, .int .i64 t622, .int .i64 0, .slice none 0 0, .slice none 0 0, .int .i64 0, .slice none 0 0, .slice none 0 0, .slice none 0 0, .slice none 0 0]) ?_ 3 _ rfl; (with_reducible repeat (first | refine blk_drewN ?_ _ | refine blk_drew ?_ | refine blk_alloc ?_ _)); refine blk_put (cs := #[.bool t618, .slice Ao6 t619.length co6, .int .i64 0, .int .i64 0, .slice none 0 0, .slice none 0 0, .int .i64 0, .slice none 0 0, .slice none 0 0, .slice none 0 0, .slice none 0 0]) ?_ 2 _ rfl; (with_reducible repeat (first | refine blk_drewN ?_ _ | refine blk_drew ?_ | refine blk_alloc ?_ _)); refine blk_put (cs := #[.bool t618, .slice none 0 0, .int .i64 0, .int .i64 0, .slice none 0 0, .slice none 0 0, .int .i64 0, .slice none 0 0, .slice none 0 0, .slice none 0 0, .slice none 0 0]) ?_ 1 _ rfl; (with_reducible repeat (first | refine blk_drewN ?_ _ | refine blk_drew ?_ | refine blk_alloc ?_ _)); refine blk_put (cs := #[.bool false, .slice none 0 0, .int .i64 0, .int .i64 0, .slice none 0 0, .slice none 0 0, .int .i64 0, .slice none 0 0, .slice none 0 0, .slice none 0 0, .slice none 0 0]) ?_ 0 _ rfl; (with_reducible repeat (first | refine blk_drewN ?_ _ | refine blk_drew ?_ | refine blk_alloc ?_ _)); exact BK617.out) Try.underlying77 rfl (by kernel_rfl)) rfl ?_
        exact ⟨_, _, _, _, _, _, _, ER, by (with_reducible repeat (first | apply Kd.S_alloc | apply Kd.S_drewN | apply Kd.S_drew)); exact Kd.S_mono (Kd.S_far (p := ⟨gb617, 10, none⟩) (Kd.S_far (p := ⟨gb617, 9, none⟩) (Kd.S_far (p := ⟨gb617, 8, none⟩) (Kd.S_far (p := ⟨gb617, 7, none⟩) (Kd.S_far (p := ⟨gb617, 6, none⟩) (Kd.S_far (p := ⟨gb617, 5, none⟩) (Kd.S_far (p := ⟨gb617, 4, none⟩) (Kd.S_far (p := ⟨gb617, 3, none⟩) (Kd.S_far (p := ⟨gb617, 2, none⟩) (Kd.S_far (p := ⟨gb617, 1, none⟩) (Kd.S_far (p := ⟨gb617, 0, none⟩) (Kd.S_types HO_632001.out BK617.out (by decide)) (fun _ hk => hk.2) (.bool t618)) (fun _ hk => hk.2) (.slice Ao6 t619.length co6)) (fun _ hk => hk.2) (.int .i64 t622)) (fun _ hk => hk.2) (.int .i64 t623)) (fun _ hk => hk.2) (.slice Ao5 t624.length co5)) (fun _ hk => hk.2) (.slice Ao4 t627.length co4)) (fun _ hk => hk.2) (.int .i64 t630)) (fun _ hk => hk.2) (.slice Ao20 x632007_1.length co20)) (fun _ hk => hk.2) (.slice none 0 0)) (fun _ hk => hk.2) (.slice none 0 0)) (fun _ hk => hk.2) (.slice none 0 0)) (fun _ hk => trivial), by (with_reducible repeat (first | apply Kd.R_alloc | apply Kd.R_drewN | apply Kd.R_drew)); exact Kd.R_mono (Kd.R_far (p := ⟨gb617, 10, none⟩) (Kd.R_far (p := ⟨gb617, 9, none⟩) (Kd.R_far (p := ⟨gb617, 8, none⟩) (Kd.R_far (p := ⟨gb617, 7, none⟩) (Kd.R_far (p := ⟨gb617, 6, none⟩) (Kd.R_far (p := ⟨gb617, 5, none⟩) (Kd.R_far (p := ⟨gb617, 4, none⟩) (Kd.R_far (p := ⟨gb617, 3, none⟩) (Kd.R_far (p := ⟨gb617, 2, none⟩) (Kd.R_far (p := ⟨gb617, 1, none⟩) (Kd.R_far (p := ⟨gb617, 0, none⟩) (Kd.R_types HO_632004.out BK617.out (by decide)) (fun _ hk => hk.2) (.bool t618)) (fun _ hk => hk.2) (.slice Ao6 t619.length co6)) (fun _ hk => hk.2) (.int .i64 t622)) (fun _ hk => hk.2) (.int .i64 t623)) (fun _ hk => hk.2) (.slice Ao5 t624.length co5)) (fun _ hk => hk.2) (.slice Ao4 t627.length co4)) (fun _ hk => hk.2) (.int .i64 t630)) (fun _ hk => hk.2) (.slice Ao20 x632007_1.length co20)) (fun _ hk => hk.2) (.slice none 0 0)) (fun _ hk => hk.2) (.slice none 0 0)) (fun _ hk => hk.2) (.slice none 0 0)) (fun _ hk => trivial), by (with_reducible repeat (first | apply Kd.R_alloc | apply Kd.R_drewN | apply Kd.R_drew)); exact Kd.R_mono (Kd.R_far (p := ⟨gb617, 10, none⟩) (Kd.R_far (p := ⟨gb617, 9, none⟩) (Kd.R_far (p := ⟨gb617, 8, none⟩) (Kd.R_far (p := ⟨gb617, 7, none⟩) (Kd.R_far (p := ⟨gb617, 6, none⟩) (Kd.R_far (p := ⟨gb617, 5, none⟩) (Kd.R_far (p := ⟨gb617, 4, none⟩) (Kd.R_far (p := ⟨gb617, 3, none⟩) (Kd.R_far (p := ⟨gb617, 2, none⟩) (Kd.R_far (p := ⟨gb617, 1, none⟩) (Kd.R_far (p := ⟨gb617, 0, none⟩) (Kd.R_types HO_632005.out BK617.out (by decide)) (fun _ hk => hk.2) (.bool t618)) (fun _ hk => hk.2) (.slice Ao6 t619.length co6)) (fun _ hk => hk.2) (.int .i64 t622)) (fun _ hk => hk.2) (.int .i64 t623)) (fun _ hk => hk.2) (.slice Ao5 t624.length co5)) (fun _ hk => hk.2) (.slice Ao4 t627.length co4)) (fun _ hk => hk.2) (.int .i64 t630)) (fun _ hk => hk.2) (.slice Ao20 x632007_1.length co20)) (fun _ hk => hk.2) (.slice none 0 0)) (fun _ hk => hk.2) (.slice none 0 0)) (fun _ hk => hk.2) (.slice none 0 0)) (fun _ hk => trivial), by (with_reducible repeat (first | apply Kd.S_alloc | apply Kd.S_drewN | apply Kd.S_drew)); exact Kd.S_mono (Kd.S_far (p := ⟨gb617, 10, none⟩) (Kd.S_far (p := ⟨gb617, 9, none⟩) (Kd.S_far (p := ⟨gb617, 8, none⟩) (Kd.S_far (p := ⟨gb617, 7, none⟩) (Kd.S_far (p := ⟨gb617, 6, none⟩) (Kd.S_far (p := ⟨gb617, 5, none⟩) (Kd.S_far (p := ⟨gb617, 4, none⟩) (Kd.S_far (p := ⟨gb617, 3, none⟩) (Kd.S_far (p := ⟨gb617, 2, none⟩) (Kd.S_far (p := ⟨gb617, 1, none⟩) (Kd.S_far (p := ⟨gb617, 0, none⟩) (Kd.S_types HO_632007.out BK617.out (by decide)) (fun _ hk => hk.2) (.bool t618)) (fun _ hk => hk.2) (.slice Ao6 t619.length co6)) (fun _ hk => hk.2) (.int .i64 t622)) (fun _ hk => hk.2) (.int .i64 t623)) (fun _ hk => hk.2) (.slice Ao5 t624.length co5)) (fun _ hk => hk.2) (.slice Ao4 t627.length co4)) (fun _ hk => hk.2) (.int .i64 t630)) (fun _ hk => hk.2) (.slice Ao20 x632007_1.length co20)) (fun _ hk => hk.2) (.slice none 0 0)) (fun _ hk => hk.2) (.slice none 0 0)) (fun _ hk => hk.2) (.slice none 0 0)) (fun _ hk => trivial), by first | exact Kd.R_nil _ _ _ _ _ | exact Kd.N_nil _ _ _ _ _ | exact Kd.V_nil _ _ _ _ _ | exact Kd.Q_nil _ _ _ _ _ | exact Kd.S_nil _ _ _ _ _, by first | exact Kd.R_nil _ _ _ _ _ | exact Kd.N_nil _ _ _ _ _ | exact Kd.V_nil _ _ _ _ _ | exact Kd.Q_nil _ _ _ _ _ | exact Kd.S_nil _ _ _ _ _, by first | exact Kd.R_nil _ _ _ _ _ | exact Kd.N_nil _ _ _ _ _ | exact Kd.V_nil _ _ _ _ _ | exact Kd.Q_nil _ _ _ _ _ | exact Kd.S_nil _ _ _ _ _, (BB2 HB.out GE617.out GE631.out)⟩

end Go.Proofs.Ytfgnaneajonapaa.Pr

namespace Go.Proofs.Ytfgnaneajonapaa.Pr
open Go.RowKit Go.Proofs.YtfgnaneajonapaaW.PrintWords Go.Proofs.YtfgnaneajonapaaW.PrintLast Go.Proofs.YtfgnaneajonapaaW.PrintMore
attribute [local go_sem] max2_int min2_int max_two min_two max_three min_three max_four min_four
set_option linter.unusedVariables false
set_option linter.unusedSimpArgs false
def impl_TreeNew.f  : Option ((List (S135)) × Int) := some ((([(⟨1, 0, (⟨#[]⟩ : ByteArray), true, 1, 0, 0, ([] : List (S137)), 0⟩ : S135)] : List (S135))), 2)
set_option maxHeartbeats 8000000 in
set_option maxRecDepth 100000 in
theorem impl_TreeNew.calls  (r1 : List (S135)) (r2 : Int) (w : World) (h : impl_TreeNew.f  = some (r1, r2)) :
    Calls Try.prog 62 #[] w fun e w' => ∃ v0_ : Value, e = .returned (.agg #[v0_, .int .i64 r2]) ∧ Kd.S k135 135 w' w.heap.size (fun _ => True) v0_ r1 ∧ Below w.heap.size w w' := by
  have hu40 := Try.underlying40
  have hu135 := Try.underlying135
  have HB := Aside0.mk (Below.refl w.heap.size w)
  have H : (some ((([(⟨1, 0, (⟨#[]⟩ : ByteArray), true, 1, 0, 0, ([] : List (S137)), 0⟩ : S135)] : List (S135))), 2)) = some (r1, r2) := h
  clear h
  obtain ⟨y280, hy280⟩ : ∃ y_ : List (S135), y_ = (([(⟨1, 0, (⟨#[]⟩ : ByteArray), true, 1, 0, 0, ([] : List (S137)), 0⟩ : S135)] : List (S135))) := ⟨_, rfl⟩
  replace H : (some (y280, 2)) = some (r1, r2) := by first | (rw [hy280]; with_reducible exact H) | (have H2_ := (Option.bind_some _ _).symm.trans H; rw [hy280]; with_reducible exact H2_) | (have H2_ := (Option.bind_some _ _).symm.trans H; with_reducible exact H2_) | with_reducible exact H | (rw [hy280]; exact H) | exact H
  have Ny280 := Aside0.mk hy280
  clear hy280
  simp only [Option.some.injEq, Prod.mk.injEq] at H
  obtain ⟨rfl, rfl⟩ := H
  go_enter Try.func62, Try.ntmps62
  go_wp2_with (first | ((with_reducible refine gate_dst (N := 0) rfl ?_); refine BX 0 #[.slice none 0 0, .int .i64 0] 40 ?_; intro gb279 hg w1 hbox hb; have BK279 := Aside0.mk (hbox); have GW279 : Aside0 (w.heap.size ≤ gb279) := WG hg (BB HB.out); have GE279 := GW279; replace HB := Aside0.mk (below_step (BB HB.out) hb); clear hb hbox hg) | ((with_reducible refine gate_dst (N := 2) rfl ?_); refine Kd.S_lit k135 _ 135 ?hg (N := 2) ?hd (xs := ([(⟨1, 0, (⟨#[]⟩ : ByteArray), true, 1, 0, 0, ([] : List (S137)), 0⟩ : S135)] : List (S135))) (inner := [.int .i64 1, .int .i64 0, .string (⟨#[]⟩ : ByteArray), .bool true, .int .i64 1, .int .i64 0, .int .i64 0, .slice none 0 0, .int .i64 0]) (ok := fun _ => True) (okp := fun _ => True) ?hr ?hp (fun _ hk => hk) trivial (Below.refl _ _) (Nat.le_refl _) (by simp) ?_; (case hd => rfl); (case hg => rfl); (case hr => first | (go_simp; done) | (go_simp; rfl)); (case hp => exact (Reps.c9 (show Kd.M k135 _ _ _ (⟨1, 0, (⟨#[]⟩ : ByteArray), true, 1, 0, 0, ([] : List (S137)), 0⟩ : S135) [.int .i64 1, .int .i64 0, .string (⟨#[]⟩ : ByteArray), .bool true, .int .i64 1, .int .i64 0, .int .i64 0, .slice none 0 0, .int .i64 0] from (k135_mkM _ _ _ (⟨1, 0, (⟨#[]⟩ : ByteArray), true, 1, 0, 0, ([] : List (S137)), 0⟩ : S135) (Kd.R_nil _ _ _ _ _))) (Reps.none _ _))); intro v281 w2 ho3 hb hg_ hnew_; clear hg_ hnew_; (first | rw [← Ny280.out] at ho3 | (simp only [Int.reduceToNat] at ho3; rw [← Ny280.out] at ho3)); have HO282 := Aside0.mk (Kd.S_lower ho3 (below_size (BB1 HB.out GE279.out))); replace BK279 := Aside0.mk (KB BK279.out hb); replace HB := Aside0.mk (below_step (BB1 HB.out GE279.out) hb); clear hb ho3; obtain ⟨Ao4, co4, eo4⟩ := Kd.S_slice HO282.out; subst eo4; have hcz5 := blk_cell BK279.out; have hfz5 := blk_frozen BK279.out))
  refine bodyPost_ret (results_cell_row rfl _ _ gb279 40 #[.slice Ao4 y280.length co4, .int .i64 2] (0, 0) _ rfl (by (with_reducible repeat (first | refine blk_drewN ?_ _ | refine blk_drew ?_ | refine blk_alloc ?_ _)); refine blk_put (cs := #[.slice Ao4 y280.length co4, .int .i64 0]) ?_ 1 _ rfl; (with_reducible repeat (first | refine blk_drewN ?_ _ | refine blk_drew ?_ | refine blk_alloc ?_ _)); refine blk_put (cs := #[.slice none 0 0, .int .i64 0]) ?_ 0 _ rfl; (with_reducible repeat (first | refine blk_drewN ?_ _ | refine blk_drew ?_ | refine blk_alloc ?_ _)); exact BK279.out) Try.underlying40 rfl (by kernel_rfl)) rfl ?_
  exact ⟨_, ER, by (with_reducible repeat (first | apply Kd.S_alloc | apply Kd.S_drewN | apply Kd.S_drew)); exact Kd.S_mono (Kd.S_far (p := ⟨gb279, 1, none⟩) (Kd.S_far (p := ⟨gb279, 0, none⟩) (Kd.S_types HO282.out BK279.out (by decide)) (fun _ hk => hk.2) (.slice Ao4 y280.length co4)) (fun _ hk => hk.2) (.int .i64 2)) (fun _ hk => trivial), (BB1 HB.out GE279.out)⟩

end Go.Proofs.Ytfgnaneajonapaa.Pr

namespace Go.Proofs.Ytfgnaneajonapaa.Pr
open Go.RowKit Go.Proofs.YtfgnaneajonapaaW.PrintWords Go.Proofs.YtfgnaneajonapaaW.PrintLast Go.Proofs.YtfgnaneajonapaaW.PrintMore
attribute [local go_sem] max2_int min2_int max_two min_two max_three min_three max_four min_four
set_option linter.unusedVariables false
set_option linter.unusedSimpArgs false
def impl_ServerNew.f  : Option (Bool × (List (S135)) × Int × Int × (List (S192)) × (List (S120)) × Int) := (impl_TreeNew.f).bind fun bt284 => (some (true, bt284.1, bt284.2, 1, ([] : List (S192)), ([] : List (S120)), 0))
set_option maxHeartbeats 8000000 in
set_option maxRecDepth 100000 in
theorem impl_ServerNew.calls  (r1 : Bool) (r2 : List (S135)) (r3 : Int) (r4 : Int) (r5 : List (S192)) (r6 : List (S120)) (r7 : Int) (w : World) (h : impl_ServerNew.f  = some (r1, r2, r3, r4, r5, r6, r7)) :
    Calls Try.prog 26 #[] w fun e w' => ∃ v1_ v4_ v5_ : Value, e = .returned (.agg #[.bool r1, v1_, .int .i64 r3, .int .i64 r4, v4_, v5_, .int .i64 r7]) ∧ Kd.S k135 135 w' w.heap.size (fun _ => True) v1_ r2 ∧ Kd.R k192 192 w' w.heap.size (fun _ => True) v4_ r5 ∧ Kd.R k120 120 w' w.heap.size (fun _ => True) v5_ r6 ∧ Below w.heap.size w w' := by
  have hu46 := Try.underlying46
  have HB := Aside0.mk (Below.refl w.heap.size w)
  have H : ((impl_TreeNew.f).bind fun bt284 => (some (true, bt284.1, bt284.2, 1, ([] : List (S192)), ([] : List (S120)), 0))) = some (r1, r2, r3, r4, r5, r6, r7) := h
  clear h
  replace H := Option.bind_eq_some_iff.mp H
  obtain ⟨⟨t284, t287⟩, A10, H⟩ := H
  replace H : (some (true, t284, t287, 1, ([] : List (S192)), ([] : List (S120)), 0)) = some (r1, r2, r3, r4, r5, r6, r7) := H
  have A1 := Aside0.mk A10
  clear A10
  simp only [Option.some.injEq, Prod.mk.injEq] at H
  obtain ⟨rfl, rfl, rfl, rfl, rfl, rfl, rfl⟩ := H
  go_enter Try.func26, Try.ntmps26
  go_wp2_with (first | ((with_reducible refine gate_dst (N := 0) rfl ?_); refine BX 0 #[.bool false, .slice none 0 0, .int .i64 0, .int .i64 0, .slice none 0 0, .slice none 0 0, .int .i64 0] 46 ?_; intro gb283 hg w2 hbox hb; have BK283 := Aside0.mk (hbox); have GW283 : Aside0 (w.heap.size ≤ gb283) := WG hg (BB HB.out); have GE283 := GW283; replace HB := Aside0.mk (below_step (BB HB.out) hb); clear hb hbox hg) | ((with_reducible refine gate_callee (f := 62) rfl ?_); refine GL (some 1) rfl rfl Try.func62 #[] rfl ?_; (with_reducible refine (impl_TreeNew.calls  t284 t287 _ A1.out).mono ?_); rintro e w3 ⟨v285, rfl, ho0, hb⟩; refine ⟨_, rfl, ?_⟩; have HO286 := Aside0.mk (Kd.S_lower ho0 (below_size (BB1 HB.out GE283.out))); replace BK283 := Aside0.mk (KB BK283.out hb); replace HB := Aside0.mk (below_step (BB1 HB.out GE283.out) hb); (try clear hb); (try clear ho0); obtain ⟨Ao4, co4, eo4⟩ := Kd.S_slice HO286.out; subst eo4; have hcz5 := blk_cell BK283.out; have hfz5 := blk_frozen BK283.out))
  refine bodyPost_ret (results_cell_row rfl _ _ gb283 46 #[.bool true, .slice Ao4 t284.length co4, .int .i64 t287, .int .i64 1, .slice none 0 0, .slice none 0 0, .int .i64 0] (0, 0) _ rfl (by (with_reducible repeat (first | refine blk_drewN ?_ _ | refine blk_drew ?_ | refine blk_alloc ?_ _)); refine blk_put (cs := #[.bool true, .slice Ao4 t284.length co4, .int .i64 t287, .int .i64 1, .slice none 0 0, .slice none 0 0, .int .i64 0]) ?_ 6 _ rfl; (with_reducible repeat (first | refine blk_drewN ?_ _ | refine blk_drew ?_ | refine blk_alloc ?_ _)); refine blk_put (cs := #[.bool true, .slice Ao4 t284.length co4, .int .i64 t287, .int .i64 1, .slice none 0 0, .slice none 0 0, .int .i64 0]) ?_ 5 _ rfl; (with_reducible repeat (first | refine blk_drewN ?_ _ | refine blk_drew ?_ | refine blk_alloc ?_ _)); refine blk_put (cs := #[.bool true, .slice Ao4 t284.length co4, .int .i64 t287, .int .i64 1, .slice none 0 0, .slice none 0 0, .int .i64 0]) ?_ 4 _ rfl; (with_reducible repeat (first | refine blk_drewN ?_ _ | refine blk_drew ?_ | refine blk_alloc ?_ _)); refine blk_put (cs := #[.bool true, .slice Ao4 t284.length co4, .int .i64 t287, .int .i64 0, .slice none 0 0, .slice none 0 0, .int .i64 0]) ?_ 3 _ rfl; (with_reducible repeat (first | refine blk_drewN ?_ _ | refine blk_drew ?_ | refine blk_alloc ?_ _)); refine blk_put (cs := #[.bool true, .slice Ao4 t284.length co4, .int .i64 0, .int .i64 0, .slice none 0 0, .slice none 0 0, .int .i64 0]) ?_ 2 _ rfl; (with_reducible repeat (first | refine blk_drewN ?_ _ | refine blk_drew ?_ | refine blk_alloc ?_ _)); refine blk_put (cs := #[.bool true, .slice none 0 0, .int .i64 0, .int .i64 0, .slice none 0 0, .slice none 0 0, .int .i64 0]) ?_ 1 _ rfl; (with_reducible repeat (first | refine blk_drewN ?_ _ | refine blk_drew ?_ | refine blk_alloc ?_ _)); refine blk_put (cs := #[.bool false, .slice none 0 0, .int .i64 0, .int .i64 0, .slice none 0 0, .slice none 0 0, .int .i64 0]) ?_ 0 _ rfl; (with_reducible repeat (first | refine blk_drewN ?_ _ | refine blk_drew ?_ | refine blk_alloc ?_ _)); exact BK283.out) Try.underlying46 rfl (by kernel_rfl)) rfl ?_
  exact ⟨_, _, _, ER, by (with_reducible repeat (first | apply Kd.S_alloc | apply Kd.S_drewN | apply Kd.S_drew)); exact Kd.S_mono (Kd.S_far (p := ⟨gb283, 6, none⟩) (Kd.S_far (p := ⟨gb283, 5, none⟩) (Kd.S_far (p := ⟨gb283, 4, none⟩) (Kd.S_far (p := ⟨gb283, 3, none⟩) (Kd.S_far (p := ⟨gb283, 2, none⟩) (Kd.S_far (p := ⟨gb283, 1, none⟩) (Kd.S_far (p := ⟨gb283, 0, none⟩) (Kd.S_types HO286.out BK283.out (by decide)) (fun _ hk => hk.2) (.bool true)) (fun _ hk => hk.2) (.slice Ao4 t284.length co4)) (fun _ hk => hk.2) (.int .i64 t287)) (fun _ hk => hk.2) (.int .i64 1)) (fun _ hk => hk.2) (.slice none 0 0)) (fun _ hk => hk.2) (.slice none 0 0)) (fun _ hk => hk.2) (.int .i64 0)) (fun _ hk => trivial), by first | exact Kd.R_nil _ _ _ _ _ | exact Kd.N_nil _ _ _ _ _ | exact Kd.V_nil _ _ _ _ _ | exact Kd.Q_nil _ _ _ _ _ | exact Kd.S_nil _ _ _ _ _, by first | exact Kd.R_nil _ _ _ _ _ | exact Kd.N_nil _ _ _ _ _ | exact Kd.V_nil _ _ _ _ _ | exact Kd.Q_nil _ _ _ _ _ | exact Kd.S_nil _ _ _ _ _, (BB1 HB.out GE283.out)⟩

end Go.Proofs.Ytfgnaneajonapaa.Pr
