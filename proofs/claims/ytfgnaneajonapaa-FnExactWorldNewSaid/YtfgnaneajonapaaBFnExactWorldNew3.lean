/- A part of the proof of the law FnExactWorldNew: its texts, one behind the other. -/
import Derived.Test.YtfgnaneajonapaaBFnExactWorldNew1
import Derived.Test.YtfgnaneajonapaaBFnExactWorldNew2
namespace Go.Proofs.Ytfgnaneajonapaa.Pr
open Go.RowKit Go.Proofs.YtfgnaneajonapaaW.PrintWords Go.Proofs.YtfgnaneajonapaaW.PrintLast Go.Proofs.YtfgnaneajonapaaW.PrintMore
attribute [local go_sem] max2_int min2_int max_two min_two max_three min_three max_four min_four
set_option linter.unusedVariables false
set_option linter.unusedSimpArgs false
def laws_heldInodeS.l0 : Nat → List (S135) → Int → Int → Option (Int)
  | 0, _, _, _ => none
  | k + 1, x0, x1, x5 => if x5 < (x0.length : Int) then (if 0 ≤ x5 then (if ((rd_T135 x0 x5).f0) = x1 then (if ((rd_T135 x0 x5).f1) = (wrap64 (x1 + 1)) then ((laws_markText.f k (wrap64 ((wrap64 (x1 + 1)) + 1))).bind fun t341 => (if ((rd_T135 x0 x5).f2).toList = t341.toList then (if (((rd_T135 x0 x5).f3) != ((Int.tmod (wrap64 ((wrap64 ((wrap64 (x1 + 1)) + 1)) + 1)) 3) == 0)) = true then (some (-1)) else (if ((rd_T135 x0 x5).f4) = (wrap64 ((wrap64 ((wrap64 ((wrap64 (x1 + 1)) + 1)) + 1)) + 1)) then (if ((rd_T135 x0 x5).f5) = (wrap64 ((wrap64 ((wrap64 ((wrap64 ((wrap64 (x1 + 1)) + 1)) + 1)) + 1)) + 1)) then (if ((rd_T135 x0 x5).f6) = (wrap64 ((wrap64 ((wrap64 ((wrap64 ((wrap64 ((wrap64 (x1 + 1)) + 1)) + 1)) + 1)) + 1)) + 1)) then ((laws_heldPieceS.f k ((rd_T135 x0 x5).f7) (wrap64 ((wrap64 ((wrap64 ((wrap64 ((wrap64 ((wrap64 ((wrap64 (x1 + 1)) + 1)) + 1)) + 1)) + 1)) + 1)) + 1))).bind fun t347 => (if t347 < 0 then (some (-1)) else (if ((rd_T135 x0 x5).f8) = t347 then (laws_heldInodeS.l0 k x0 (wrap64 (t347 + 1)) (wrap64 (x5 + 1))) else (some (-1))))) else (some (-1))) else (some (-1))) else (some (-1)))) else (some (-1)))) else (some (-1))) else (some (-1))) else (none)) else (some x1)
def laws_heldInodeS.f (k : Nat) (l0 : List (S135)) (a1 : Int) : Option (Int) := laws_heldInodeS.l0 k l0 a1 0
def laws_heldInodeS.T10 : Bool × List (List Nat × List Nat) := (true, [([], []), ([], []), ([0, 1], [0, 1]), ([2], [2]), ([3], [3]), ([], []), ([5], [5]), ([4, 6], [4, 6])])
def laws_heldInodeS.B10 : List Nat := [0, 0, 3, 7, 15, 0, 32, 127]
theorem laws_heldInodeS.tab10 : rtab .any (opsOf Try.f113 10) = laws_heldInodeS.T10 := by kernel_rfl
theorem laws_heldInodeS.bits10 : waitsOk laws_heldInodeS.T10.2 laws_heldInodeS.B10 = true := by kernel_rfl
set_option maxHeartbeats 8000000 in
set_option maxRecDepth 100000 in
theorem laws_heldInodeS.calls (k : Nat) (A0 : Option Addr) (c0 : Nat) (l0 : List (S135)) (a1 : Int) (r : Int) (w : World) (hr0 : Kd.C k135 w A0 l0.length l0) (hc0 : l0.length ≤ c0) (h : laws_heldInodeS.f k l0 a1 = some r) :
    Calls Try.prog 113 #[.slice A0 l0.length c0, .int .i64 a1] w fun e w' => e = .returned (.int .i64 r) ∧ Below w.heap.size w w' := by
  have HR0 := Aside0.mk hr0
  have HC0 := Aside0.mk hc0
  clear hr0 hc0
  have HB := Aside0.mk (Below.refl w.heap.size w)
  have H : (laws_heldInodeS.l0 k l0 a1 0) = some r := h
  clear h
  have H' := Aside0.mk H
  clear H
  go_enter Try.func113, Try.ntmps113
  go_wp2
  go_loopg [1, 5] k (fun kq v1 v5 w' => ∃ (x1_1 : Int) (x5_1 : Int), v1 = .int .i64 x1_1 ∧ v5 = .int .i64 x5_1 ∧ Aside0 (laws_heldInodeS.l0 kq l0 x1_1 x5_1 = some r) ∧ Aside0 (kq ≤ k) ∧ Aside0 (Below w.heap.size w w'))
  case atStart => exact ⟨(a1), (0), FR, FR, H', ⟨Nat.le_refl _⟩, ⟨(BB HB.out)⟩⟩
  case round =>
    clear H'
    try clear c1
    try clear p2
    obtain ⟨x1_1, x5_1, rfl, rfl, HA, HK1, HB⟩ := hrel
    cases gk with
    | zero => exact absurd HA.out (by simp [laws_heldInodeS.l0])
    | succ k1 =>
      have H := HA.out
      clear HA
      simp only [laws_heldInodeS.l0] at H
      by_cases c3 : x5_1 < (l0.length : Int)
      · rw [if_pos c3] at H
        have c3b0 : decide (x5_1 < (l0.length : Int)) = true := decide_eq_true c3
        clear c3
        by_cases c4 : 0 ≤ x5_1
        · rw [if_pos c4] at H
          have c4b0 : decide (0 ≤ x5_1) = true := decide_eq_true c4
          clear c4
          by_cases c5 : ((rd_T135 l0 x5_1).f0) = x1_1
          · rw [if_pos c5] at H
            have c5b0 : (((rd_T135 l0 x5_1).f0) == x1_1) = true := beq_iff_eq.mpr c5
            have c5b1 : (((rd_T135 l0 x5_1).f0) != x1_1) = false := bne_eq_false_iff_eq.mpr c5
            clear c5
            by_cases c6 : ((rd_T135 l0 x5_1).f1) = (wrap64 (x1_1 + 1))
            · rw [if_pos c6] at H
              have c6b0 : (((rd_T135 l0 x5_1).f1) == (wrap64 (x1_1 + 1))) = true := beq_iff_eq.mpr c6
              have c6b1 : (((rd_T135 l0 x5_1).f1) != (wrap64 (x1_1 + 1))) = false := bne_eq_false_iff_eq.mpr c6
              clear c6
              replace H := Option.bind_eq_some_iff.mp H
              obtain ⟨t341, A70, H⟩ := H
              replace H : (if ((rd_T135 l0 x5_1).f2).toList = t341.toList then (if (((rd_T135 l0 x5_1).f3) != ((Int.tmod (wrap64 ((wrap64 ((wrap64 (x1_1 + 1)) + 1)) + 1)) 3) == 0)) = true then (some (-1)) else (if ((rd_T135 l0 x5_1).f4) = (wrap64 ((wrap64 ((wrap64 ((wrap64 (x1_1 + 1)) + 1)) + 1)) + 1)) then (if ((rd_T135 l0 x5_1).f5) = (wrap64 ((wrap64 ((wrap64 ((wrap64 ((wrap64 (x1_1 + 1)) + 1)) + 1)) + 1)) + 1)) then (if ((rd_T135 l0 x5_1).f6) = (wrap64 ((wrap64 ((wrap64 ((wrap64 ((wrap64 ((wrap64 (x1_1 + 1)) + 1)) + 1)) + 1)) + 1)) + 1)) then ((laws_heldPieceS.f k1 ((rd_T135 l0 x5_1).f7) (wrap64 ((wrap64 ((wrap64 ((wrap64 ((wrap64 ((wrap64 ((wrap64 (x1_1 + 1)) + 1)) + 1)) + 1)) + 1)) + 1)) + 1))).bind fun t347 => (if t347 < 0 then (some (-1)) else (if ((rd_T135 l0 x5_1).f8) = t347 then (laws_heldInodeS.l0 k1 l0 (wrap64 (t347 + 1)) (wrap64 (x5_1 + 1))) else (some (-1))))) else (some (-1))) else (some (-1))) else (some (-1)))) else (some (-1))) = some r := H
              have A7 := Aside0.mk A70
              clear A70
              by_cases c8 : ((rd_T135 l0 x5_1).f2).toList = t341.toList
              · rw [if_pos c8] at H
                have c8b0 : (((rd_T135 l0 x5_1).f2).toList == t341.toList) = true := beq_iff_eq.mpr c8
                have c8b1 : (((rd_T135 l0 x5_1).f2).toList != t341.toList) = false := bne_eq_false_iff_eq.mpr c8
                clear c8
                by_cases c9 : (((rd_T135 l0 x5_1).f3) != ((Int.tmod (wrap64 ((wrap64 ((wrap64 (x1_1 + 1)) + 1)) + 1)) 3) == 0)) = true
                · rw [if_pos c9] at H
                  have c9b0 : (((rd_T135 l0 x5_1).f3) != ((Int.tmod (wrap64 ((wrap64 ((wrap64 (x1_1 + 1)) + 1)) + 1)) 3) == 0)) = true := c9
                  (try (have c9b1 : decide (((rd_T135 l0 x5_1).f3) = ((Int.tmod (wrap64 ((wrap64 ((wrap64 (x1_1 + 1)) + 1)) + 1)) 3) == 0)) = false := by simpa using c9))
                  (try (have c9b2 : (((rd_T135 l0 x5_1).f3) == ((Int.tmod (wrap64 ((wrap64 ((wrap64 (x1_1 + 1)) + 1)) + 1)) 3) == 0)) = false := by simpa using c9))
                  (try (have c9b3 : ¬ (((rd_T135 l0 x5_1).f3) = ((Int.tmod (wrap64 ((wrap64 ((wrap64 (x1_1 + 1)) + 1)) + 1)) 3) == 0)) := by simpa using c9))
                  clear c9
                  obtain rfl := Option.some.inj H
                  have p338 : 0 ≤ (x5_1 : Int) := DT
                  have q338 : x5_1 < (l0.length : Int) := DT
                  obtain ⟨ad338, A338_7, c338_7, e338, hx338_0, hx338_1, hx338_2, hx338_3, hx338_4, hx338_5, hx338_6, hx338_7, hx338_8, hl338_7, hi338_7⟩ := at_T135 HR0.out x5_1 p338 q338
                  cases e338
                  replace hx338_0 := (HB.out.cell (World.block_lt_of_cell? w _ hx338_0)).trans hx338_0
                  replace hx338_1 := (HB.out.cell (World.block_lt_of_cell? w _ hx338_1)).trans hx338_1
                  replace hx338_2 := (HB.out.cell (World.block_lt_of_cell? w _ hx338_2)).trans hx338_2
                  replace hx338_3 := (HB.out.cell (World.block_lt_of_cell? w _ hx338_3)).trans hx338_3
                  replace hx338_4 := (HB.out.cell (World.block_lt_of_cell? w _ hx338_4)).trans hx338_4
                  replace hx338_5 := (HB.out.cell (World.block_lt_of_cell? w _ hx338_5)).trans hx338_5
                  replace hx338_6 := (HB.out.cell (World.block_lt_of_cell? w _ hx338_6)).trans hx338_6
                  replace hx338_7 := (HB.out.cell (World.block_lt_of_cell? w _ hx338_7)).trans hx338_7
                  replace hx338_8 := (HB.out.cell (World.block_lt_of_cell? w _ hx338_8)).trans hx338_8
                  have HR338_7 := Aside0.mk hi338_7
                  have HC338_7 := Aside0.mk hl338_7
                  clear hi338_7 hl338_7
                  replace p338 := eq_true p338
                  replace q338 := eq_true q338
                  have p339 : 0 ≤ (x5_1 : Int) := DT
                  have q339 : x5_1 < (l0.length : Int) := DT
                  obtain ⟨ad339, A339_7, c339_7, e339, hx339_0, hx339_1, hx339_2, hx339_3, hx339_4, hx339_5, hx339_6, hx339_7, hx339_8, hl339_7, hi339_7⟩ := at_T135 HR0.out x5_1 p339 q339
                  obtain rfl : ad338 = ad339 := (by injection e339)
                  replace hx339_0 := (HB.out.cell (World.block_lt_of_cell? w _ hx339_0)).trans hx339_0
                  replace hx339_1 := (HB.out.cell (World.block_lt_of_cell? w _ hx339_1)).trans hx339_1
                  replace hx339_2 := (HB.out.cell (World.block_lt_of_cell? w _ hx339_2)).trans hx339_2
                  replace hx339_3 := (HB.out.cell (World.block_lt_of_cell? w _ hx339_3)).trans hx339_3
                  replace hx339_4 := (HB.out.cell (World.block_lt_of_cell? w _ hx339_4)).trans hx339_4
                  replace hx339_5 := (HB.out.cell (World.block_lt_of_cell? w _ hx339_5)).trans hx339_5
                  replace hx339_6 := (HB.out.cell (World.block_lt_of_cell? w _ hx339_6)).trans hx339_6
                  replace hx339_7 := (HB.out.cell (World.block_lt_of_cell? w _ hx339_7)).trans hx339_7
                  replace hx339_8 := (HB.out.cell (World.block_lt_of_cell? w _ hx339_8)).trans hx339_8
                  have HR339_7 := Aside0.mk hi339_7
                  have HC339_7 := Aside0.mk hl339_7
                  clear hi339_7 hl339_7
                  replace p339 := eq_true p339
                  replace q339 := eq_true q339
                  have ea_ := Option.some.inj (hx338_7.symm.trans hx339_7)
                  injection ea_ with ea_ en_ ec_
                  subst ea_
                  subst ec_
                  clear en_
                  try go_wp2
                  have n0_ := Aside0.mk (below_drew1 HB.out)
                  clear HB
                  have HB := n0_
                  clear n0_
                  have p340 : 0 ≤ (x5_1 : Int) := DT
                  have q340 : x5_1 < (l0.length : Int) := DT
                  obtain ⟨ad340, A340_7, c340_7, e340, hx340_0, hx340_1, hx340_2, hx340_3, hx340_4, hx340_5, hx340_6, hx340_7, hx340_8, hl340_7, hi340_7⟩ := at_T135 HR0.out x5_1 p340 q340
                  have hw340_8 := hx340_8
                  have hw340_7 := hx340_7
                  have hw340_6 := hx340_6
                  have hw340_5 := hx340_5
                  have hw340_4 := hx340_4
                  have hw340_3 := hx340_3
                  have hw340_2 := hx340_2
                  have hw340_1 := hx340_1
                  have hw340_0 := hx340_0
                  obtain rfl : ad338 = ad340 := (by injection e340)
                  replace hx340_0 := (HB.out.cell (World.block_lt_of_cell? w _ hx340_0)).trans hx340_0
                  replace hx340_1 := (HB.out.cell (World.block_lt_of_cell? w _ hx340_1)).trans hx340_1
                  replace hx340_2 := (HB.out.cell (World.block_lt_of_cell? w _ hx340_2)).trans hx340_2
                  replace hx340_3 := (HB.out.cell (World.block_lt_of_cell? w _ hx340_3)).trans hx340_3
                  replace hx340_4 := (HB.out.cell (World.block_lt_of_cell? w _ hx340_4)).trans hx340_4
                  replace hx340_5 := (HB.out.cell (World.block_lt_of_cell? w _ hx340_5)).trans hx340_5
                  replace hx340_6 := (HB.out.cell (World.block_lt_of_cell? w _ hx340_6)).trans hx340_6
                  replace hx340_7 := (HB.out.cell (World.block_lt_of_cell? w _ hx340_7)).trans hx340_7
                  replace hx340_8 := (HB.out.cell (World.block_lt_of_cell? w _ hx340_8)).trans hx340_8
                  have HR340_7 := Aside0.mk hi340_7
                  have HC340_7 := Aside0.mk hl340_7
                  clear hi340_7 hl340_7
                  replace p340 := eq_true p340
                  replace q340 := eq_true q340
                  refine start_ (n := 8) (S := fun w' => w'.cell? (ad338.add ((x5_1).toNat * 9)) = some (.int .i64 ((rd_T135 l0 x5_1).f0)) ∧ w'.cell? ⟨(ad338.add ((x5_1).toNat * 9)).block, (ad338.add ((x5_1).toNat * 9)).off + 1, none⟩ = some (.int .i64 ((rd_T135 l0 x5_1).f1)) ∧ w'.cell? ⟨(ad338.add ((x5_1).toNat * 9)).block, (ad338.add ((x5_1).toNat * 9)).off + 2, none⟩ = some (.string ((rd_T135 l0 x5_1).f2)) ∧ w'.cell? ⟨(ad338.add ((x5_1).toNat * 9)).block, (ad338.add ((x5_1).toNat * 9)).off + 3, none⟩ = some (.bool ((rd_T135 l0 x5_1).f3)) ∧ w'.cell? ⟨(ad338.add ((x5_1).toNat * 9)).block, (ad338.add ((x5_1).toNat * 9)).off + 4, none⟩ = some (.int .i64 ((rd_T135 l0 x5_1).f4)) ∧ w'.cell? ⟨(ad338.add ((x5_1).toNat * 9)).block, (ad338.add ((x5_1).toNat * 9)).off + 5, none⟩ = some (.int .i64 ((rd_T135 l0 x5_1).f5)) ∧ w'.cell? ⟨(ad338.add ((x5_1).toNat * 9)).block, (ad338.add ((x5_1).toNat * 9)).off + 6, none⟩ = some (.int .i64 ((rd_T135 l0 x5_1).f6)) ∧ w'.cell? ⟨(ad338.add ((x5_1).toNat * 9)).block, (ad338.add ((x5_1).toNat * 9)).off + 7, none⟩ = some (.slice A340_7 ((rd_T135 l0 x5_1).f7).length c340_7) ∧ w'.cell? ⟨(ad338.add ((x5_1).toNat * 9)).block, (ad338.add ((x5_1).toNat * 9)).off + 8, none⟩ = some (.int .i64 ((rd_T135 l0 x5_1).f8))) (ds := []) #[false, false, false, false, false, false, false, false] (by kernel_rfl) rfl rfl ⟨((HB.out.cell (World.block_lt_of_cell? w _ hw340_0)).trans hw340_0), ((HB.out.cell (World.block_lt_of_cell? w _ hw340_1)).trans hw340_1), ((HB.out.cell (World.block_lt_of_cell? w _ hw340_2)).trans hw340_2), ((HB.out.cell (World.block_lt_of_cell? w _ hw340_3)).trans hw340_3), ((HB.out.cell (World.block_lt_of_cell? w _ hw340_4)).trans hw340_4), ((HB.out.cell (World.block_lt_of_cell? w _ hw340_5)).trans hw340_5), ((HB.out.cell (World.block_lt_of_cell? w _ hw340_6)).trans hw340_6), ((HB.out.cell (World.block_lt_of_cell? w _ hw340_7)).trans hw340_7), ((HB.out.cell (World.block_lt_of_cell? w _ hw340_8)).trans hw340_8)⟩ (fun hHeld => ?_); refine with_tabW laws_heldInodeS.tab10 laws_heldInodeS.bits10 (fun HT_ HW_ => ?_)
                  generalize wr.drew = w10 at HB HR340_7 hx340_0 hx340_1 hx340_2 hx340_3 hx340_4 hx340_5 hx340_6 hx340_7 hx340_8 hHeld ⊢
                  refine pure_ (i := 0) (N := some 30) (v := ?_) (a' := ?_) #[true, false, false, false, false, false, false, false] rfl rfl (any_of HT_.out (by kernel_rfl)) (fun _ _ _ h => h) (Or.inl ⟨by rfl, ?_⟩) ?_ ?_
                  rotate_left
                  · intro w'
                    go_simp
                    with_reducible rfl
                  rotate_left
                  · simp only [Act.put, List.setIfInBounds_toArray, List.set_cons_zero, List.set_cons_succ, i64_w, i32_w]
                    rfl
                  refine pure_ (i := 1) (N := some 31) (v := ?_) (a' := ?_) #[true, true, false, false, false, false, false, false] rfl rfl (any_of HT_.out (by kernel_rfl)) (fun _ _ _ h => h) (Or.inl ⟨by rfl, ?_⟩) ?_ ?_
                  rotate_left
                  · intro w'
                    go_simp
                    with_reducible rfl
                  rotate_left
                  · simp only [Act.put, List.setIfInBounds_toArray, List.set_cons_zero, List.set_cons_succ, i64_w, i32_w]
                    rfl
                  refine pure_ (i := 2) (N := some 32) (v := ?_) (a' := ?_) #[true, true, true, false, false, false, false, false] rfl rfl (any_of HT_.out (by kernel_rfl)) (fun _ _ _ h => h) (Or.inl ⟨by rfl, ?_⟩) ?_ ?_
                  rotate_left
                  · intro w'
                    go_simp
                    with_reducible rfl
                  rotate_left
                  · simp only [Act.put, List.setIfInBounds_toArray, List.set_cons_zero, List.set_cons_succ, i64_w, i32_w]
                    rfl
                  refine pure_ (i := 3) (N := some 33) (v := ?_) (a' := ?_) #[true, true, true, true, false, false, false, false] rfl rfl (any_of HT_.out (by kernel_rfl)) (fun _ _ _ h => h) (Or.inl ⟨by rfl, ?_⟩) ?_ ?_
                  rotate_left
                  · intro w'
                    go_simp
                    with_reducible rfl
                  rotate_left
                  · simp only [Act.put, List.setIfInBounds_toArray, List.set_cons_zero, List.set_cons_succ, i64_w, i32_w]
                    rfl
                  refine pure_ (i := 5) (N := some 35) (v := ?_) (a' := ?_) #[true, true, true, true, false, true, false, false] rfl rfl (any_of HT_.out (by kernel_rfl)) (fun _ _ _ h => h) (Or.inl ⟨by rfl, ?_⟩) ?_ ?_
                  rotate_left
                  · intro w'
                    go_simp
                    with_reducible rfl
                  rotate_left
                  · simp only [Act.put, List.setIfInBounds_toArray, List.set_cons_zero, List.set_cons_succ, i64_w, i32_w]
                    rfl
                  refine take_ (i := 4) (N := some 34) (v := ?_) (a' := ?_) #[true, true, true, true, true, true, false, false] rfl rfl (take_ofW HT_.out HW_.out (by kernel_rfl)) (fun _ _ _ h => h) (Or.inl ⟨by rfl, ?_⟩) hHeld ?_ ?_
                  rotate_left
                  · rintro w' ⟨s0, s1, s2, s3, s4, s5, s6, s7, s8⟩
                    go_simp
                    with_reducible rfl
                  rotate_left
                  · simp only [Act.put, List.setIfInBounds_toArray, List.set_cons_zero, List.set_cons_succ, i64_w, i32_w]
                    rfl
                  refine one_ (i := 6) (N := some 36) #[true, true, true, true, true, true, true, false] rfl rfl (one_of HT_.out (by kernel_rfl)) (by decide) (fun K hK => ?_)
                  refine goes_ Try.func60 (by kernel_rfl) rfl #[.int .i64 (wrap64 ((wrap64 (x1_1 + 1)) + 1))] (by rfl) rfl rfl (by (try simp only [List.map_toArray, List.map_cons, List.map_nil]); first | done | rfl | (simp only [List.length_drop, List.length_take]; rfl)) ?_
                  with_reducible refine (laws_markText.calls k1 (wrap64 ((wrap64 (x1_1 + 1)) + 1)) t341 _ A7.out).mono ?_
                  rintro e w11 ⟨rfl, hb⟩
                  refine ⟨_, rfl, ?_⟩
                  have n0_ := Aside0.mk (below_step (BB HB.out) hb)
                  clear HB
                  have HB := n0_
                  clear n0_
                  (try clear hb)
                  (try clear hb2)
                  (try clear hk)
                  (try clear hi)
                  refine hK.out _ _ ⟨((HB.out.cell (World.block_lt_of_cell? w _ hw340_0)).trans hw340_0), ((HB.out.cell (World.block_lt_of_cell? w _ hw340_1)).trans hw340_1), ((HB.out.cell (World.block_lt_of_cell? w _ hw340_2)).trans hw340_2), ((HB.out.cell (World.block_lt_of_cell? w _ hw340_3)).trans hw340_3), ((HB.out.cell (World.block_lt_of_cell? w _ hw340_4)).trans hw340_4), ((HB.out.cell (World.block_lt_of_cell? w _ hw340_5)).trans hw340_5), ((HB.out.cell (World.block_lt_of_cell? w _ hw340_6)).trans hw340_6), ((HB.out.cell (World.block_lt_of_cell? w _ hw340_7)).trans hw340_7), ((HB.out.cell (World.block_lt_of_cell? w _ hw340_8)).trans hw340_8)⟩ (fun hHeld => ?_)
                  clear hK K
                  refine norm_ (a' := ?_) ?_ ?_
                  rotate_left
                  · show Act.put _ (some 36) _ = _
                    simp only [Act.put, List.setIfInBounds_toArray, List.set_cons_zero, List.set_cons_succ, i64_w, i32_w]
                    rfl
                  refine pure_ (i := 7) (N := some 37) (v := ?_) (a' := ?_) #[true, true, true, true, true, true, true, true] rfl rfl (any_of HT_.out (by kernel_rfl)) (fun _ _ _ h => h) (Or.inl ⟨by rfl, ?_⟩) ?_ ?_
                  rotate_left
                  · intro w'
                    go_simp
                    with_reducible rfl
                  rotate_left
                  · simp only [Act.put, List.setIfInBounds_toArray, List.set_cons_zero, List.set_cons_succ, i64_w, i32_w]
                    rfl
                  refine done_ (done_of HT_.out (by kernel_rfl)) ?_
                  have p342 : 0 ≤ (x5_1 : Int) := DT
                  have q342 : x5_1 < (l0.length : Int) := DT
                  obtain ⟨ad342, A342_7, c342_7, e342, hx342_0, hx342_1, hx342_2, hx342_3, hx342_4, hx342_5, hx342_6, hx342_7, hx342_8, hl342_7, hi342_7⟩ := at_T135 HR0.out x5_1 p342 q342
                  obtain rfl : ad338 = ad342 := (by injection e342)
                  replace hx342_0 := (HB.out.cell (World.block_lt_of_cell? w _ hx342_0)).trans hx342_0
                  replace hx342_1 := (HB.out.cell (World.block_lt_of_cell? w _ hx342_1)).trans hx342_1
                  replace hx342_2 := (HB.out.cell (World.block_lt_of_cell? w _ hx342_2)).trans hx342_2
                  replace hx342_3 := (HB.out.cell (World.block_lt_of_cell? w _ hx342_3)).trans hx342_3
                  replace hx342_4 := (HB.out.cell (World.block_lt_of_cell? w _ hx342_4)).trans hx342_4
                  replace hx342_5 := (HB.out.cell (World.block_lt_of_cell? w _ hx342_5)).trans hx342_5
                  replace hx342_6 := (HB.out.cell (World.block_lt_of_cell? w _ hx342_6)).trans hx342_6
                  replace hx342_7 := (HB.out.cell (World.block_lt_of_cell? w _ hx342_7)).trans hx342_7
                  replace hx342_8 := (HB.out.cell (World.block_lt_of_cell? w _ hx342_8)).trans hx342_8
                  have HR342_7 := Aside0.mk hi342_7
                  have HC342_7 := Aside0.mk hl342_7
                  clear hi342_7 hl342_7
                  replace p342 := eq_true p342
                  replace q342 := eq_true q342
                  have ea_ := Option.some.inj (hx342_7.symm.trans ((HB.out.cell (World.block_lt_of_cell? w _ hw340_7)).trans hw340_7))
                  injection ea_ with ea_ en_ ec_
                  subst ea_
                  subst ec_
                  clear en_
                  try go_wp2
                  go_ret
                  exact ⟨ER, (BB HB.out)⟩
                · rw [if_neg c9] at H
                  have c9b0 : (((rd_T135 l0 x5_1).f3) != ((Int.tmod (wrap64 ((wrap64 ((wrap64 (x1_1 + 1)) + 1)) + 1)) 3) == 0)) = false := by simpa using c9
                  (try (have c9b1 : decide (((rd_T135 l0 x5_1).f3) = ((Int.tmod (wrap64 ((wrap64 ((wrap64 (x1_1 + 1)) + 1)) + 1)) 3) == 0)) = true := by simpa using c9))
                  (try (have c9b2 : (((rd_T135 l0 x5_1).f3) == ((Int.tmod (wrap64 ((wrap64 ((wrap64 (x1_1 + 1)) + 1)) + 1)) 3) == 0)) = true := by simpa using c9))
                  clear c9
                  by_cases c12 : ((rd_T135 l0 x5_1).f4) = (wrap64 ((wrap64 ((wrap64 ((wrap64 (x1_1 + 1)) + 1)) + 1)) + 1))
                  · rw [if_pos c12] at H
                    have c12b0 : (((rd_T135 l0 x5_1).f4) == (wrap64 ((wrap64 ((wrap64 ((wrap64 (x1_1 + 1)) + 1)) + 1)) + 1))) = true := beq_iff_eq.mpr c12
                    have c12b1 : (((rd_T135 l0 x5_1).f4) != (wrap64 ((wrap64 ((wrap64 ((wrap64 (x1_1 + 1)) + 1)) + 1)) + 1))) = false := bne_eq_false_iff_eq.mpr c12
                    clear c12
                    by_cases c13 : ((rd_T135 l0 x5_1).f5) = (wrap64 ((wrap64 ((wrap64 ((wrap64 ((wrap64 (x1_1 + 1)) + 1)) + 1)) + 1)) + 1))
                    · rw [if_pos c13] at H
                      have c13b0 : (((rd_T135 l0 x5_1).f5) == (wrap64 ((wrap64 ((wrap64 ((wrap64 ((wrap64 (x1_1 + 1)) + 1)) + 1)) + 1)) + 1))) = true := beq_iff_eq.mpr c13
                      have c13b1 : (((rd_T135 l0 x5_1).f5) != (wrap64 ((wrap64 ((wrap64 ((wrap64 ((wrap64 (x1_1 + 1)) + 1)) + 1)) + 1)) + 1))) = false := bne_eq_false_iff_eq.mpr c13
                      clear c13
                      by_cases c14 : ((rd_T135 l0 x5_1).f6) = (wrap64 ((wrap64 ((wrap64 ((wrap64 ((wrap64 ((wrap64 (x1_1 + 1)) + 1)) + 1)) + 1)) + 1)) + 1))
                      · rw [if_pos c14] at H
                        have c14b0 : (((rd_T135 l0 x5_1).f6) == (wrap64 ((wrap64 ((wrap64 ((wrap64 ((wrap64 ((wrap64 (x1_1 + 1)) + 1)) + 1)) + 1)) + 1)) + 1))) = true := beq_iff_eq.mpr c14
                        have c14b1 : (((rd_T135 l0 x5_1).f6) != (wrap64 ((wrap64 ((wrap64 ((wrap64 ((wrap64 ((wrap64 (x1_1 + 1)) + 1)) + 1)) + 1)) + 1)) + 1))) = false := bne_eq_false_iff_eq.mpr c14
                        clear c14
                        replace H := Option.bind_eq_some_iff.mp H
                        obtain ⟨t347, A150, H⟩ := H
                        replace H : (if t347 < 0 then (some (-1)) else (if ((rd_T135 l0 x5_1).f8) = t347 then (laws_heldInodeS.l0 k1 l0 (wrap64 (t347 + 1)) (wrap64 (x5_1 + 1))) else (some (-1)))) = some r := H
                        have A15 := Aside0.mk A150
                        clear A150
                        by_cases c16 : t347 < 0
                        · rw [if_pos c16] at H
                          have c16b0 : decide (t347 < 0) = true := decide_eq_true c16
                          clear c16
                          obtain rfl := Option.some.inj H
                          have p338 : 0 ≤ (x5_1 : Int) := DT
                          have q338 : x5_1 < (l0.length : Int) := DT
                          obtain ⟨ad338, A338_7, c338_7, e338, hx338_0, hx338_1, hx338_2, hx338_3, hx338_4, hx338_5, hx338_6, hx338_7, hx338_8, hl338_7, hi338_7⟩ := at_T135 HR0.out x5_1 p338 q338
                          cases e338
                          replace hx338_0 := (HB.out.cell (World.block_lt_of_cell? w _ hx338_0)).trans hx338_0
                          replace hx338_1 := (HB.out.cell (World.block_lt_of_cell? w _ hx338_1)).trans hx338_1
                          replace hx338_2 := (HB.out.cell (World.block_lt_of_cell? w _ hx338_2)).trans hx338_2
                          replace hx338_3 := (HB.out.cell (World.block_lt_of_cell? w _ hx338_3)).trans hx338_3
                          replace hx338_4 := (HB.out.cell (World.block_lt_of_cell? w _ hx338_4)).trans hx338_4
                          replace hx338_5 := (HB.out.cell (World.block_lt_of_cell? w _ hx338_5)).trans hx338_5
                          replace hx338_6 := (HB.out.cell (World.block_lt_of_cell? w _ hx338_6)).trans hx338_6
                          replace hx338_7 := (HB.out.cell (World.block_lt_of_cell? w _ hx338_7)).trans hx338_7
                          replace hx338_8 := (HB.out.cell (World.block_lt_of_cell? w _ hx338_8)).trans hx338_8
                          have HR338_7 := Aside0.mk hi338_7
                          have HC338_7 := Aside0.mk hl338_7
                          clear hi338_7 hl338_7
                          replace p338 := eq_true p338
                          replace q338 := eq_true q338
                          have p339 : 0 ≤ (x5_1 : Int) := DT
                          have q339 : x5_1 < (l0.length : Int) := DT
                          obtain ⟨ad339, A339_7, c339_7, e339, hx339_0, hx339_1, hx339_2, hx339_3, hx339_4, hx339_5, hx339_6, hx339_7, hx339_8, hl339_7, hi339_7⟩ := at_T135 HR0.out x5_1 p339 q339
                          obtain rfl : ad338 = ad339 := (by injection e339)
                          replace hx339_0 := (HB.out.cell (World.block_lt_of_cell? w _ hx339_0)).trans hx339_0
                          replace hx339_1 := (HB.out.cell (World.block_lt_of_cell? w _ hx339_1)).trans hx339_1
                          replace hx339_2 := (HB.out.cell (World.block_lt_of_cell? w _ hx339_2)).trans hx339_2
                          replace hx339_3 := (HB.out.cell (World.block_lt_of_cell? w _ hx339_3)).trans hx339_3
                          replace hx339_4 := (HB.out.cell (World.block_lt_of_cell? w _ hx339_4)).trans hx339_4
                          replace hx339_5 := (HB.out.cell (World.block_lt_of_cell? w _ hx339_5)).trans hx339_5
                          replace hx339_6 := (HB.out.cell (World.block_lt_of_cell? w _ hx339_6)).trans hx339_6
                          replace hx339_7 := (HB.out.cell (World.block_lt_of_cell? w _ hx339_7)).trans hx339_7
                          replace hx339_8 := (HB.out.cell (World.block_lt_of_cell? w _ hx339_8)).trans hx339_8
                          have HR339_7 := Aside0.mk hi339_7
                          have HC339_7 := Aside0.mk hl339_7
                          clear hi339_7 hl339_7
                          replace p339 := eq_true p339
                          replace q339 := eq_true q339
                          have ea_ := Option.some.inj (hx338_7.symm.trans hx339_7)
                          injection ea_ with ea_ en_ ec_
                          subst ea_
                          subst ec_
                          clear en_
                          try go_wp2
                          have n0_ := Aside0.mk (below_drew1 HB.out)
                          clear HB
                          have HB := n0_
                          clear n0_
                          have p340 : 0 ≤ (x5_1 : Int) := DT
                          have q340 : x5_1 < (l0.length : Int) := DT
                          obtain ⟨ad340, A340_7, c340_7, e340, hx340_0, hx340_1, hx340_2, hx340_3, hx340_4, hx340_5, hx340_6, hx340_7, hx340_8, hl340_7, hi340_7⟩ := at_T135 HR0.out x5_1 p340 q340
                          have hw340_8 := hx340_8
                          have hw340_7 := hx340_7
                          have hw340_6 := hx340_6
                          have hw340_5 := hx340_5
                          have hw340_4 := hx340_4
                          have hw340_3 := hx340_3
                          have hw340_2 := hx340_2
                          have hw340_1 := hx340_1
                          have hw340_0 := hx340_0
                          obtain rfl : ad338 = ad340 := (by injection e340)
                          replace hx340_0 := (HB.out.cell (World.block_lt_of_cell? w _ hx340_0)).trans hx340_0
                          replace hx340_1 := (HB.out.cell (World.block_lt_of_cell? w _ hx340_1)).trans hx340_1
                          replace hx340_2 := (HB.out.cell (World.block_lt_of_cell? w _ hx340_2)).trans hx340_2
                          replace hx340_3 := (HB.out.cell (World.block_lt_of_cell? w _ hx340_3)).trans hx340_3
                          replace hx340_4 := (HB.out.cell (World.block_lt_of_cell? w _ hx340_4)).trans hx340_4
                          replace hx340_5 := (HB.out.cell (World.block_lt_of_cell? w _ hx340_5)).trans hx340_5
                          replace hx340_6 := (HB.out.cell (World.block_lt_of_cell? w _ hx340_6)).trans hx340_6
                          replace hx340_7 := (HB.out.cell (World.block_lt_of_cell? w _ hx340_7)).trans hx340_7
                          replace hx340_8 := (HB.out.cell (World.block_lt_of_cell? w _ hx340_8)).trans hx340_8
                          have HR340_7 := Aside0.mk hi340_7
                          have HC340_7 := Aside0.mk hl340_7
                          clear hi340_7 hl340_7
                          replace p340 := eq_true p340
                          replace q340 := eq_true q340
                          refine start_ (n := 8) (S := fun w' => w'.cell? (ad338.add ((x5_1).toNat * 9)) = some (.int .i64 ((rd_T135 l0 x5_1).f0)) ∧ w'.cell? ⟨(ad338.add ((x5_1).toNat * 9)).block, (ad338.add ((x5_1).toNat * 9)).off + 1, none⟩ = some (.int .i64 ((rd_T135 l0 x5_1).f1)) ∧ w'.cell? ⟨(ad338.add ((x5_1).toNat * 9)).block, (ad338.add ((x5_1).toNat * 9)).off + 2, none⟩ = some (.string ((rd_T135 l0 x5_1).f2)) ∧ w'.cell? ⟨(ad338.add ((x5_1).toNat * 9)).block, (ad338.add ((x5_1).toNat * 9)).off + 3, none⟩ = some (.bool ((rd_T135 l0 x5_1).f3)) ∧ w'.cell? ⟨(ad338.add ((x5_1).toNat * 9)).block, (ad338.add ((x5_1).toNat * 9)).off + 4, none⟩ = some (.int .i64 ((rd_T135 l0 x5_1).f4)) ∧ w'.cell? ⟨(ad338.add ((x5_1).toNat * 9)).block, (ad338.add ((x5_1).toNat * 9)).off + 5, none⟩ = some (.int .i64 ((rd_T135 l0 x5_1).f5)) ∧ w'.cell? ⟨(ad338.add ((x5_1).toNat * 9)).block, (ad338.add ((x5_1).toNat * 9)).off + 6, none⟩ = some (.int .i64 ((rd_T135 l0 x5_1).f6)) ∧ w'.cell? ⟨(ad338.add ((x5_1).toNat * 9)).block, (ad338.add ((x5_1).toNat * 9)).off + 7, none⟩ = some (.slice A340_7 ((rd_T135 l0 x5_1).f7).length c340_7) ∧ w'.cell? ⟨(ad338.add ((x5_1).toNat * 9)).block, (ad338.add ((x5_1).toNat * 9)).off + 8, none⟩ = some (.int .i64 ((rd_T135 l0 x5_1).f8))) (ds := []) #[false, false, false, false, false, false, false, false] (by kernel_rfl) rfl rfl ⟨((HB.out.cell (World.block_lt_of_cell? w _ hw340_0)).trans hw340_0), ((HB.out.cell (World.block_lt_of_cell? w _ hw340_1)).trans hw340_1), ((HB.out.cell (World.block_lt_of_cell? w _ hw340_2)).trans hw340_2), ((HB.out.cell (World.block_lt_of_cell? w _ hw340_3)).trans hw340_3), ((HB.out.cell (World.block_lt_of_cell? w _ hw340_4)).trans hw340_4), ((HB.out.cell (World.block_lt_of_cell? w _ hw340_5)).trans hw340_5), ((HB.out.cell (World.block_lt_of_cell? w _ hw340_6)).trans hw340_6), ((HB.out.cell (World.block_lt_of_cell? w _ hw340_7)).trans hw340_7), ((HB.out.cell (World.block_lt_of_cell? w _ hw340_8)).trans hw340_8)⟩ (fun hHeld => ?_); refine with_tabW laws_heldInodeS.tab10 laws_heldInodeS.bits10 (fun HT_ HW_ => ?_)
                          generalize wr.drew = w17 at HB HR340_7 hx340_0 hx340_1 hx340_2 hx340_3 hx340_4 hx340_5 hx340_6 hx340_7 hx340_8 hHeld ⊢
                          refine pure_ (i := 0) (N := some 30) (v := ?_) (a' := ?_) #[true, false, false, false, false, false, false, false] rfl rfl (any_of HT_.out (by kernel_rfl)) (fun _ _ _ h => h) (Or.inl ⟨by rfl, ?_⟩) ?_ ?_
                          rotate_left
                          · intro w'
                            go_simp
                            with_reducible rfl
                          rotate_left
                          · simp only [Act.put, List.setIfInBounds_toArray, List.set_cons_zero, List.set_cons_succ, i64_w, i32_w]
                            rfl
                          refine pure_ (i := 1) (N := some 31) (v := ?_) (a' := ?_) #[true, true, false, false, false, false, false, false] rfl rfl (any_of HT_.out (by kernel_rfl)) (fun _ _ _ h => h) (Or.inl ⟨by rfl, ?_⟩) ?_ ?_
                          rotate_left
                          · intro w'
                            go_simp
                            with_reducible rfl
                          rotate_left
                          · simp only [Act.put, List.setIfInBounds_toArray, List.set_cons_zero, List.set_cons_succ, i64_w, i32_w]
                            rfl
                          refine pure_ (i := 2) (N := some 32) (v := ?_) (a' := ?_) #[true, true, true, false, false, false, false, false] rfl rfl (any_of HT_.out (by kernel_rfl)) (fun _ _ _ h => h) (Or.inl ⟨by rfl, ?_⟩) ?_ ?_
                          rotate_left
                          · intro w'
                            go_simp
                            with_reducible rfl
                          rotate_left
                          · simp only [Act.put, List.setIfInBounds_toArray, List.set_cons_zero, List.set_cons_succ, i64_w, i32_w]
                            rfl
                          refine pure_ (i := 3) (N := some 33) (v := ?_) (a' := ?_) #[true, true, true, true, false, false, false, false] rfl rfl (any_of HT_.out (by kernel_rfl)) (fun _ _ _ h => h) (Or.inl ⟨by rfl, ?_⟩) ?_ ?_
                          rotate_left
                          · intro w'
                            go_simp
                            with_reducible rfl
                          rotate_left
                          · simp only [Act.put, List.setIfInBounds_toArray, List.set_cons_zero, List.set_cons_succ, i64_w, i32_w]
                            rfl
                          refine pure_ (i := 5) (N := some 35) (v := ?_) (a' := ?_) #[true, true, true, true, false, true, false, false] rfl rfl (any_of HT_.out (by kernel_rfl)) (fun _ _ _ h => h) (Or.inl ⟨by rfl, ?_⟩) ?_ ?_
                          rotate_left
                          · intro w'
                            go_simp
                            with_reducible rfl
                          rotate_left
                          · simp only [Act.put, List.setIfInBounds_toArray, List.set_cons_zero, List.set_cons_succ, i64_w, i32_w]
                            rfl
                          refine take_ (i := 4) (N := some 34) (v := ?_) (a' := ?_) #[true, true, true, true, true, true, false, false] rfl rfl (take_ofW HT_.out HW_.out (by kernel_rfl)) (fun _ _ _ h => h) (Or.inl ⟨by rfl, ?_⟩) hHeld ?_ ?_
                          rotate_left
                          · rintro w' ⟨s0, s1, s2, s3, s4, s5, s6, s7, s8⟩
                            go_simp
                            with_reducible rfl
                          rotate_left
                          · simp only [Act.put, List.setIfInBounds_toArray, List.set_cons_zero, List.set_cons_succ, i64_w, i32_w]
                            rfl
                          refine one_ (i := 6) (N := some 36) #[true, true, true, true, true, true, true, false] rfl rfl (one_of HT_.out (by kernel_rfl)) (by decide) (fun K hK => ?_)
                          refine goes_ Try.func60 (by kernel_rfl) rfl #[.int .i64 (wrap64 ((wrap64 (x1_1 + 1)) + 1))] (by rfl) rfl rfl (by (try simp only [List.map_toArray, List.map_cons, List.map_nil]); first | done | rfl | (simp only [List.length_drop, List.length_take]; rfl)) ?_
                          with_reducible refine (laws_markText.calls k1 (wrap64 ((wrap64 (x1_1 + 1)) + 1)) t341 _ A7.out).mono ?_
                          rintro e w18 ⟨rfl, hb⟩
                          refine ⟨_, rfl, ?_⟩
                          have n0_ := Aside0.mk (below_step (BB HB.out) hb)
                          clear HB
                          have HB := n0_
                          clear n0_
                          (try clear hb)
                          (try clear hb2)
                          (try clear hk)
                          (try clear hi)
                          refine hK.out _ _ ⟨((HB.out.cell (World.block_lt_of_cell? w _ hw340_0)).trans hw340_0), ((HB.out.cell (World.block_lt_of_cell? w _ hw340_1)).trans hw340_1), ((HB.out.cell (World.block_lt_of_cell? w _ hw340_2)).trans hw340_2), ((HB.out.cell (World.block_lt_of_cell? w _ hw340_3)).trans hw340_3), ((HB.out.cell (World.block_lt_of_cell? w _ hw340_4)).trans hw340_4), ((HB.out.cell (World.block_lt_of_cell? w _ hw340_5)).trans hw340_5), ((HB.out.cell (World.block_lt_of_cell? w _ hw340_6)).trans hw340_6), ((HB.out.cell (World.block_lt_of_cell? w _ hw340_7)).trans hw340_7), ((HB.out.cell (World.block_lt_of_cell? w _ hw340_8)).trans hw340_8)⟩ (fun hHeld => ?_)
                          clear hK K
                          refine norm_ (a' := ?_) ?_ ?_
                          rotate_left
                          · show Act.put _ (some 36) _ = _
                            simp only [Act.put, List.setIfInBounds_toArray, List.set_cons_zero, List.set_cons_succ, i64_w, i32_w]
                            rfl
                          refine pure_ (i := 7) (N := some 37) (v := ?_) (a' := ?_) #[true, true, true, true, true, true, true, true] rfl rfl (any_of HT_.out (by kernel_rfl)) (fun _ _ _ h => h) (Or.inl ⟨by rfl, ?_⟩) ?_ ?_
                          rotate_left
                          · intro w'
                            go_simp
                            with_reducible rfl
                          rotate_left
                          · simp only [Act.put, List.setIfInBounds_toArray, List.set_cons_zero, List.set_cons_succ, i64_w, i32_w]
                            rfl
                          refine done_ (done_of HT_.out (by kernel_rfl)) ?_
                          have p342 : 0 ≤ (x5_1 : Int) := DT
                          have q342 : x5_1 < (l0.length : Int) := DT
                          obtain ⟨ad342, A342_7, c342_7, e342, hx342_0, hx342_1, hx342_2, hx342_3, hx342_4, hx342_5, hx342_6, hx342_7, hx342_8, hl342_7, hi342_7⟩ := at_T135 HR0.out x5_1 p342 q342
                          obtain rfl : ad338 = ad342 := (by injection e342)
                          replace hx342_0 := (HB.out.cell (World.block_lt_of_cell? w _ hx342_0)).trans hx342_0
                          replace hx342_1 := (HB.out.cell (World.block_lt_of_cell? w _ hx342_1)).trans hx342_1
                          replace hx342_2 := (HB.out.cell (World.block_lt_of_cell? w _ hx342_2)).trans hx342_2
                          replace hx342_3 := (HB.out.cell (World.block_lt_of_cell? w _ hx342_3)).trans hx342_3
                          replace hx342_4 := (HB.out.cell (World.block_lt_of_cell? w _ hx342_4)).trans hx342_4
                          replace hx342_5 := (HB.out.cell (World.block_lt_of_cell? w _ hx342_5)).trans hx342_5
                          replace hx342_6 := (HB.out.cell (World.block_lt_of_cell? w _ hx342_6)).trans hx342_6
                          replace hx342_7 := (HB.out.cell (World.block_lt_of_cell? w _ hx342_7)).trans hx342_7
                          replace hx342_8 := (HB.out.cell (World.block_lt_of_cell? w _ hx342_8)).trans hx342_8
                          have HR342_7 := Aside0.mk hi342_7
                          have HC342_7 := Aside0.mk hl342_7
                          clear hi342_7 hl342_7
                          replace p342 := eq_true p342
                          replace q342 := eq_true q342
                          have ea_ := Option.some.inj (hx342_7.symm.trans ((HB.out.cell (World.block_lt_of_cell? w _ hw340_7)).trans hw340_7))
                          injection ea_ with ea_ en_ ec_
                          subst ea_
                          subst ec_
                          clear en_
                          have p343 : 0 ≤ (x5_1 : Int) := DT
                          have q343 : x5_1 < (l0.length : Int) := DT
                          obtain ⟨ad343, A343_7, c343_7, e343, hx343_0, hx343_1, hx343_2, hx343_3, hx343_4, hx343_5, hx343_6, hx343_7, hx343_8, hl343_7, hi343_7⟩ := at_T135 HR0.out x5_1 p343 q343
                          obtain rfl : ad338 = ad343 := (by injection e343)
                          replace hx343_0 := (HB.out.cell (World.block_lt_of_cell? w _ hx343_0)).trans hx343_0
                          replace hx343_1 := (HB.out.cell (World.block_lt_of_cell? w _ hx343_1)).trans hx343_1
                          replace hx343_2 := (HB.out.cell (World.block_lt_of_cell? w _ hx343_2)).trans hx343_2
                          replace hx343_3 := (HB.out.cell (World.block_lt_of_cell? w _ hx343_3)).trans hx343_3
                          replace hx343_4 := (HB.out.cell (World.block_lt_of_cell? w _ hx343_4)).trans hx343_4
                          replace hx343_5 := (HB.out.cell (World.block_lt_of_cell? w _ hx343_5)).trans hx343_5
                          replace hx343_6 := (HB.out.cell (World.block_lt_of_cell? w _ hx343_6)).trans hx343_6
                          replace hx343_7 := (HB.out.cell (World.block_lt_of_cell? w _ hx343_7)).trans hx343_7
                          replace hx343_8 := (HB.out.cell (World.block_lt_of_cell? w _ hx343_8)).trans hx343_8
                          have HR343_7 := Aside0.mk hi343_7
                          have HC343_7 := Aside0.mk hl343_7
                          clear hi343_7 hl343_7
                          replace p343 := eq_true p343
                          replace q343 := eq_true q343
                          have ea_ := Option.some.inj (hx342_7.symm.trans hx343_7)
                          injection ea_ with ea_ en_ ec_
                          subst ea_
                          subst ec_
                          clear en_
                          have p344 : 0 ≤ (x5_1 : Int) := DT
                          have q344 : x5_1 < (l0.length : Int) := DT
                          obtain ⟨ad344, A344_7, c344_7, e344, hx344_0, hx344_1, hx344_2, hx344_3, hx344_4, hx344_5, hx344_6, hx344_7, hx344_8, hl344_7, hi344_7⟩ := at_T135 HR0.out x5_1 p344 q344
                          obtain rfl : ad338 = ad344 := (by injection e344)
                          replace hx344_0 := (HB.out.cell (World.block_lt_of_cell? w _ hx344_0)).trans hx344_0
                          replace hx344_1 := (HB.out.cell (World.block_lt_of_cell? w _ hx344_1)).trans hx344_1
                          replace hx344_2 := (HB.out.cell (World.block_lt_of_cell? w _ hx344_2)).trans hx344_2
                          replace hx344_3 := (HB.out.cell (World.block_lt_of_cell? w _ hx344_3)).trans hx344_3
                          replace hx344_4 := (HB.out.cell (World.block_lt_of_cell? w _ hx344_4)).trans hx344_4
                          replace hx344_5 := (HB.out.cell (World.block_lt_of_cell? w _ hx344_5)).trans hx344_5
                          replace hx344_6 := (HB.out.cell (World.block_lt_of_cell? w _ hx344_6)).trans hx344_6
                          replace hx344_7 := (HB.out.cell (World.block_lt_of_cell? w _ hx344_7)).trans hx344_7
                          replace hx344_8 := (HB.out.cell (World.block_lt_of_cell? w _ hx344_8)).trans hx344_8
                          have HR344_7 := Aside0.mk hi344_7
                          have HC344_7 := Aside0.mk hl344_7
                          clear hi344_7 hl344_7
                          replace p344 := eq_true p344
                          replace q344 := eq_true q344
                          have ea_ := Option.some.inj (hx342_7.symm.trans hx344_7)
                          injection ea_ with ea_ en_ ec_
                          subst ea_
                          subst ec_
                          clear en_
                          have p345 : 0 ≤ (x5_1 : Int) := DT
                          have q345 : x5_1 < (l0.length : Int) := DT
                          obtain ⟨ad345, A345_7, c345_7, e345, hx345_0, hx345_1, hx345_2, hx345_3, hx345_4, hx345_5, hx345_6, hx345_7, hx345_8, hl345_7, hi345_7⟩ := at_T135 HR0.out x5_1 p345 q345
                          obtain rfl : ad338 = ad345 := (by injection e345)
                          replace hx345_0 := (HB.out.cell (World.block_lt_of_cell? w _ hx345_0)).trans hx345_0
                          replace hx345_1 := (HB.out.cell (World.block_lt_of_cell? w _ hx345_1)).trans hx345_1
                          replace hx345_2 := (HB.out.cell (World.block_lt_of_cell? w _ hx345_2)).trans hx345_2
                          replace hx345_3 := (HB.out.cell (World.block_lt_of_cell? w _ hx345_3)).trans hx345_3
                          replace hx345_4 := (HB.out.cell (World.block_lt_of_cell? w _ hx345_4)).trans hx345_4
                          replace hx345_5 := (HB.out.cell (World.block_lt_of_cell? w _ hx345_5)).trans hx345_5
                          replace hx345_6 := (HB.out.cell (World.block_lt_of_cell? w _ hx345_6)).trans hx345_6
                          replace hx345_7 := (HB.out.cell (World.block_lt_of_cell? w _ hx345_7)).trans hx345_7
                          replace hx345_8 := (HB.out.cell (World.block_lt_of_cell? w _ hx345_8)).trans hx345_8
                          have HR345_7 := Aside0.mk hi345_7
                          have HC345_7 := Aside0.mk hl345_7
                          clear hi345_7 hl345_7
                          replace p345 := eq_true p345
                          replace q345 := eq_true q345
                          have ea_ := Option.some.inj (hx342_7.symm.trans hx345_7)
                          injection ea_ with ea_ en_ ec_
                          subst ea_
                          subst ec_
                          clear en_
                          have p346 : 0 ≤ (x5_1 : Int) := DT
                          have q346 : x5_1 < (l0.length : Int) := DT
                          obtain ⟨ad346, A346_7, c346_7, e346, hx346_0, hx346_1, hx346_2, hx346_3, hx346_4, hx346_5, hx346_6, hx346_7, hx346_8, hl346_7, hi346_7⟩ := at_T135 HR0.out x5_1 p346 q346
                          obtain rfl : ad338 = ad346 := (by injection e346)
                          replace hx346_0 := (HB.out.cell (World.block_lt_of_cell? w _ hx346_0)).trans hx346_0
                          replace hx346_1 := (HB.out.cell (World.block_lt_of_cell? w _ hx346_1)).trans hx346_1
                          replace hx346_2 := (HB.out.cell (World.block_lt_of_cell? w _ hx346_2)).trans hx346_2
                          replace hx346_3 := (HB.out.cell (World.block_lt_of_cell? w _ hx346_3)).trans hx346_3
                          replace hx346_4 := (HB.out.cell (World.block_lt_of_cell? w _ hx346_4)).trans hx346_4
                          replace hx346_5 := (HB.out.cell (World.block_lt_of_cell? w _ hx346_5)).trans hx346_5
                          replace hx346_6 := (HB.out.cell (World.block_lt_of_cell? w _ hx346_6)).trans hx346_6
                          replace hx346_7 := (HB.out.cell (World.block_lt_of_cell? w _ hx346_7)).trans hx346_7
                          replace hx346_8 := (HB.out.cell (World.block_lt_of_cell? w _ hx346_8)).trans hx346_8
                          have HR346_7 := Aside0.mk hi346_7
                          have HC346_7 := Aside0.mk hl346_7
                          clear hi346_7 hl346_7
                          replace p346 := eq_true p346
                          replace q346 := eq_true q346
                          have ea_ := Option.some.inj (hx342_7.symm.trans hx346_7)
                          injection ea_ with ea_ en_ ec_
                          subst ea_
                          subst ec_
                          clear en_
                          try go_wp2_with (first | ((with_reducible refine gate_callee (f := 155) rfl ?_); refine GL (some 84) rfl rfl Try.func155 #[.slice A342_7 ((rd_T135 l0 x5_1).f7).length c342_7, .int .i64 (wrap64 ((wrap64 ((wrap64 ((wrap64 ((wrap64 ((wrap64 ((wrap64 (x1_1 + 1)) + 1)) + 1)) + 1)) + 1)) + 1)) + 1))] rfl ?_; (with_reducible refine (laws_heldPieceS.calls k1 _ _ ((rd_T135 l0 x5_1).f7) (wrap64 ((wrap64 ((wrap64 ((wrap64 ((wrap64 ((wrap64 ((wrap64 (x1_1 + 1)) + 1)) + 1)) + 1)) + 1)) + 1)) + 1)) t347 _ ?side1 ?side2 A15.out).mono ?_); (case side1 => exact CC (Kd.C_below HR346_7.out HB.out)); (case side2 => exact HC346_7.out); rintro e w' ⟨rfl, ⟨nd, rfl⟩⟩; refine ⟨_, rfl, ?_⟩))
                          go_ret
                          exact ⟨ER, (BB HB.out)⟩
                        · rw [if_neg c16] at H
                          have c16b0 : decide (t347 < 0) = false := decide_eq_false c16
                          clear c16
                          by_cases c19 : ((rd_T135 l0 x5_1).f8) = t347
                          · rw [if_pos c19] at H
                            have c19b0 : (((rd_T135 l0 x5_1).f8) == t347) = true := beq_iff_eq.mpr c19
                            have c19b1 : (((rd_T135 l0 x5_1).f8) != t347) = false := bne_eq_false_iff_eq.mpr c19
                            clear c19
                            have H' := Aside0.mk H
                            clear H
                            have p338 : 0 ≤ (x5_1 : Int) := DT
                            have q338 : x5_1 < (l0.length : Int) := DT
                            obtain ⟨ad338, A338_7, c338_7, e338, hx338_0, hx338_1, hx338_2, hx338_3, hx338_4, hx338_5, hx338_6, hx338_7, hx338_8, hl338_7, hi338_7⟩ := at_T135 HR0.out x5_1 p338 q338
                            cases e338
                            replace hx338_0 := (HB.out.cell (World.block_lt_of_cell? w _ hx338_0)).trans hx338_0
                            replace hx338_1 := (HB.out.cell (World.block_lt_of_cell? w _ hx338_1)).trans hx338_1
                            replace hx338_2 := (HB.out.cell (World.block_lt_of_cell? w _ hx338_2)).trans hx338_2
                            replace hx338_3 := (HB.out.cell (World.block_lt_of_cell? w _ hx338_3)).trans hx338_3
                            replace hx338_4 := (HB.out.cell (World.block_lt_of_cell? w _ hx338_4)).trans hx338_4
                            replace hx338_5 := (HB.out.cell (World.block_lt_of_cell? w _ hx338_5)).trans hx338_5
                            replace hx338_6 := (HB.out.cell (World.block_lt_of_cell? w _ hx338_6)).trans hx338_6
                            replace hx338_7 := (HB.out.cell (World.block_lt_of_cell? w _ hx338_7)).trans hx338_7
                            replace hx338_8 := (HB.out.cell (World.block_lt_of_cell? w _ hx338_8)).trans hx338_8
                            have HR338_7 := Aside0.mk hi338_7
                            have HC338_7 := Aside0.mk hl338_7
                            clear hi338_7 hl338_7
                            replace p338 := eq_true p338
                            replace q338 := eq_true q338
                            have p339 : 0 ≤ (x5_1 : Int) := DT
                            have q339 : x5_1 < (l0.length : Int) := DT
                            obtain ⟨ad339, A339_7, c339_7, e339, hx339_0, hx339_1, hx339_2, hx339_3, hx339_4, hx339_5, hx339_6, hx339_7, hx339_8, hl339_7, hi339_7⟩ := at_T135 HR0.out x5_1 p339 q339
                            obtain rfl : ad338 = ad339 := (by injection e339)
                            replace hx339_0 := (HB.out.cell (World.block_lt_of_cell? w _ hx339_0)).trans hx339_0
                            replace hx339_1 := (HB.out.cell (World.block_lt_of_cell? w _ hx339_1)).trans hx339_1
                            replace hx339_2 := (HB.out.cell (World.block_lt_of_cell? w _ hx339_2)).trans hx339_2
                            replace hx339_3 := (HB.out.cell (World.block_lt_of_cell? w _ hx339_3)).trans hx339_3
                            replace hx339_4 := (HB.out.cell (World.block_lt_of_cell? w _ hx339_4)).trans hx339_4
                            replace hx339_5 := (HB.out.cell (World.block_lt_of_cell? w _ hx339_5)).trans hx339_5
                            replace hx339_6 := (HB.out.cell (World.block_lt_of_cell? w _ hx339_6)).trans hx339_6
                            replace hx339_7 := (HB.out.cell (World.block_lt_of_cell? w _ hx339_7)).trans hx339_7
                            replace hx339_8 := (HB.out.cell (World.block_lt_of_cell? w _ hx339_8)).trans hx339_8
                            have HR339_7 := Aside0.mk hi339_7
                            have HC339_7 := Aside0.mk hl339_7
                            clear hi339_7 hl339_7
                            replace p339 := eq_true p339
                            replace q339 := eq_true q339
                            have ea_ := Option.some.inj (hx338_7.symm.trans hx339_7)
                            injection ea_ with ea_ en_ ec_
                            subst ea_
                            subst ec_
                            clear en_
                            try go_wp2
                            have n0_ := Aside0.mk (below_drew1 HB.out)
                            clear HB
                            have HB := n0_
                            clear n0_
                            have p340 : 0 ≤ (x5_1 : Int) := DT
                            have q340 : x5_1 < (l0.length : Int) := DT
                            obtain ⟨ad340, A340_7, c340_7, e340, hx340_0, hx340_1, hx340_2, hx340_3, hx340_4, hx340_5, hx340_6, hx340_7, hx340_8, hl340_7, hi340_7⟩ := at_T135 HR0.out x5_1 p340 q340
                            have hw340_8 := hx340_8
                            have hw340_7 := hx340_7
                            have hw340_6 := hx340_6
                            have hw340_5 := hx340_5
                            have hw340_4 := hx340_4
                            have hw340_3 := hx340_3
                            have hw340_2 := hx340_2
                            have hw340_1 := hx340_1
                            have hw340_0 := hx340_0
                            obtain rfl : ad338 = ad340 := (by injection e340)
                            replace hx340_0 := (HB.out.cell (World.block_lt_of_cell? w _ hx340_0)).trans hx340_0
                            replace hx340_1 := (HB.out.cell (World.block_lt_of_cell? w _ hx340_1)).trans hx340_1
                            replace hx340_2 := (HB.out.cell (World.block_lt_of_cell? w _ hx340_2)).trans hx340_2
                            replace hx340_3 := (HB.out.cell (World.block_lt_of_cell? w _ hx340_3)).trans hx340_3
                            replace hx340_4 := (HB.out.cell (World.block_lt_of_cell? w _ hx340_4)).trans hx340_4
                            replace hx340_5 := (HB.out.cell (World.block_lt_of_cell? w _ hx340_5)).trans hx340_5
                            replace hx340_6 := (HB.out.cell (World.block_lt_of_cell? w _ hx340_6)).trans hx340_6
                            replace hx340_7 := (HB.out.cell (World.block_lt_of_cell? w _ hx340_7)).trans hx340_7
                            replace hx340_8 := (HB.out.cell (World.block_lt_of_cell? w _ hx340_8)).trans hx340_8
                            have HR340_7 := Aside0.mk hi340_7
                            have HC340_7 := Aside0.mk hl340_7
                            clear hi340_7 hl340_7
                            replace p340 := eq_true p340
                            replace q340 := eq_true q340
                            refine start_ (n := 8) (S := fun w' => w'.cell? (ad338.add ((x5_1).toNat * 9)) = some (.int .i64 ((rd_T135 l0 x5_1).f0)) ∧ w'.cell? ⟨(ad338.add ((x5_1).toNat * 9)).block, (ad338.add ((x5_1).toNat * 9)).off + 1, none⟩ = some (.int .i64 ((rd_T135 l0 x5_1).f1)) ∧ w'.cell? ⟨(ad338.add ((x5_1).toNat * 9)).block, (ad338.add ((x5_1).toNat * 9)).off + 2, none⟩ = some (.string ((rd_T135 l0 x5_1).f2)) ∧ w'.cell? ⟨(ad338.add ((x5_1).toNat * 9)).block, (ad338.add ((x5_1).toNat * 9)).off + 3, none⟩ = some (.bool ((rd_T135 l0 x5_1).f3)) ∧ w'.cell? ⟨(ad338.add ((x5_1).toNat * 9)).block, (ad338.add ((x5_1).toNat * 9)).off + 4, none⟩ = some (.int .i64 ((rd_T135 l0 x5_1).f4)) ∧ w'.cell? ⟨(ad338.add ((x5_1).toNat * 9)).block, (ad338.add ((x5_1).toNat * 9)).off + 5, none⟩ = some (.int .i64 ((rd_T135 l0 x5_1).f5)) ∧ w'.cell? ⟨(ad338.add ((x5_1).toNat * 9)).block, (ad338.add ((x5_1).toNat * 9)).off + 6, none⟩ = some (.int .i64 ((rd_T135 l0 x5_1).f6)) ∧ w'.cell? ⟨(ad338.add ((x5_1).toNat * 9)).block, (ad338.add ((x5_1).toNat * 9)).off + 7, none⟩ = some (.slice A340_7 ((rd_T135 l0 x5_1).f7).length c340_7) ∧ w'.cell? ⟨(ad338.add ((x5_1).toNat * 9)).block, (ad338.add ((x5_1).toNat * 9)).off + 8, none⟩ = some (.int .i64 ((rd_T135 l0 x5_1).f8))) (ds := []) #[false, false, false, false, false, false, false, false] (by kernel_rfl) rfl rfl ⟨((HB.out.cell (World.block_lt_of_cell? w _ hw340_0)).trans hw340_0), ((HB.out.cell (World.block_lt_of_cell? w _ hw340_1)).trans hw340_1), ((HB.out.cell (World.block_lt_of_cell? w _ hw340_2)).trans hw340_2), ((HB.out.cell (World.block_lt_of_cell? w _ hw340_3)).trans hw340_3), ((HB.out.cell (World.block_lt_of_cell? w _ hw340_4)).trans hw340_4), ((HB.out.cell (World.block_lt_of_cell? w _ hw340_5)).trans hw340_5), ((HB.out.cell (World.block_lt_of_cell? w _ hw340_6)).trans hw340_6), ((HB.out.cell (World.block_lt_of_cell? w _ hw340_7)).trans hw340_7), ((HB.out.cell (World.block_lt_of_cell? w _ hw340_8)).trans hw340_8)⟩ (fun hHeld => ?_); refine with_tabW laws_heldInodeS.tab10 laws_heldInodeS.bits10 (fun HT_ HW_ => ?_)
                            generalize wr.drew = w20 at HB HR340_7 hx340_0 hx340_1 hx340_2 hx340_3 hx340_4 hx340_5 hx340_6 hx340_7 hx340_8 hHeld ⊢
                            refine pure_ (i := 0) (N := some 30) (v := ?_) (a' := ?_) #[true, false, false, false, false, false, false, false] rfl rfl (any_of HT_.out (by kernel_rfl)) (fun _ _ _ h => h) (Or.inl ⟨by rfl, ?_⟩) ?_ ?_
                            rotate_left
                            · intro w'
                              go_simp
                              with_reducible rfl
                            rotate_left
                            · simp only [Act.put, List.setIfInBounds_toArray, List.set_cons_zero, List.set_cons_succ, i64_w, i32_w]
                              rfl
                            refine pure_ (i := 1) (N := some 31) (v := ?_) (a' := ?_) #[true, true, false, false, false, false, false, false] rfl rfl (any_of HT_.out (by kernel_rfl)) (fun _ _ _ h => h) (Or.inl ⟨by rfl, ?_⟩) ?_ ?_
                            rotate_left
                            · intro w'
                              go_simp
                              with_reducible rfl
                            rotate_left
                            · simp only [Act.put, List.setIfInBounds_toArray, List.set_cons_zero, List.set_cons_succ, i64_w, i32_w]
                              rfl
                            refine pure_ (i := 2) (N := some 32) (v := ?_) (a' := ?_) #[true, true, true, false, false, false, false, false] rfl rfl (any_of HT_.out (by kernel_rfl)) (fun _ _ _ h => h) (Or.inl ⟨by rfl, ?_⟩) ?_ ?_
                            rotate_left
                            · intro w'
                              go_simp
                              with_reducible rfl
                            rotate_left
                            · simp only [Act.put, List.setIfInBounds_toArray, List.set_cons_zero, List.set_cons_succ, i64_w, i32_w]
                              rfl
                            refine pure_ (i := 3) (N := some 33) (v := ?_) (a' := ?_) #[true, true, true, true, false, false, false, false] rfl rfl (any_of HT_.out (by kernel_rfl)) (fun _ _ _ h => h) (Or.inl ⟨by rfl, ?_⟩) ?_ ?_
                            rotate_left
                            · intro w'
                              go_simp
                              with_reducible rfl
                            rotate_left
                            · simp only [Act.put, List.setIfInBounds_toArray, List.set_cons_zero, List.set_cons_succ, i64_w, i32_w]
                              rfl
                            refine pure_ (i := 5) (N := some 35) (v := ?_) (a' := ?_) #[true, true, true, true, false, true, false, false] rfl rfl (any_of HT_.out (by kernel_rfl)) (fun _ _ _ h => h) (Or.inl ⟨by rfl, ?_⟩) ?_ ?_
                            rotate_left
                            · intro w'
                              go_simp
                              with_reducible rfl
                            rotate_left
                            · simp only [Act.put, List.setIfInBounds_toArray, List.set_cons_zero, List.set_cons_succ, i64_w, i32_w]
                              rfl
                            refine take_ (i := 4) (N := some 34) (v := ?_) (a' := ?_) #[true, true, true, true, true, true, false, false] rfl rfl (take_ofW HT_.out HW_.out (by kernel_rfl)) (fun _ _ _ h => h) (Or.inl ⟨by rfl, ?_⟩) hHeld ?_ ?_
                            rotate_left
                            · rintro w' ⟨s0, s1, s2, s3, s4, s5, s6, s7, s8⟩
                              go_simp
                              with_reducible rfl
                            rotate_left
                            · simp only [Act.put, List.setIfInBounds_toArray, List.set_cons_zero, List.set_cons_succ, i64_w, i32_w]
                              rfl
                            refine one_ (i := 6) (N := some 36) #[true, true, true, true, true, true, true, false] rfl rfl (one_of HT_.out (by kernel_rfl)) (by decide) (fun K hK => ?_)
                            refine goes_ Try.func60 (by kernel_rfl) rfl #[.int .i64 (wrap64 ((wrap64 (x1_1 + 1)) + 1))] (by rfl) rfl rfl (by (try simp only [List.map_toArray, List.map_cons, List.map_nil]); first | done | rfl | (simp only [List.length_drop, List.length_take]; rfl)) ?_
                            with_reducible refine (laws_markText.calls k1 (wrap64 ((wrap64 (x1_1 + 1)) + 1)) t341 _ A7.out).mono ?_
                            rintro e w21 ⟨rfl, hb⟩
                            refine ⟨_, rfl, ?_⟩
                            have n0_ := Aside0.mk (below_step (BB HB.out) hb)
                            clear HB
                            have HB := n0_
                            clear n0_
                            (try clear hb)
                            (try clear hb2)
                            (try clear hk)
                            (try clear hi)
                            refine hK.out _ _ ⟨((HB.out.cell (World.block_lt_of_cell? w _ hw340_0)).trans hw340_0), ((HB.out.cell (World.block_lt_of_cell? w _ hw340_1)).trans hw340_1), ((HB.out.cell (World.block_lt_of_cell? w _ hw340_2)).trans hw340_2), ((HB.out.cell (World.block_lt_of_cell? w _ hw340_3)).trans hw340_3), ((HB.out.cell (World.block_lt_of_cell? w _ hw340_4)).trans hw340_4), ((HB.out.cell (World.block_lt_of_cell? w _ hw340_5)).trans hw340_5), ((HB.out.cell (World.block_lt_of_cell? w _ hw340_6)).trans hw340_6), ((HB.out.cell (World.block_lt_of_cell? w _ hw340_7)).trans hw340_7), ((HB.out.cell (World.block_lt_of_cell? w _ hw340_8)).trans hw340_8)⟩ (fun hHeld => ?_)
                            clear hK K
                            refine norm_ (a' := ?_) ?_ ?_
                            rotate_left
                            · show Act.put _ (some 36) _ = _
                              simp only [Act.put, List.setIfInBounds_toArray, List.set_cons_zero, List.set_cons_succ, i64_w, i32_w]
                              rfl
                            refine pure_ (i := 7) (N := some 37) (v := ?_) (a' := ?_) #[true, true, true, true, true, true, true, true] rfl rfl (any_of HT_.out (by kernel_rfl)) (fun _ _ _ h => h) (Or.inl ⟨by rfl, ?_⟩) ?_ ?_
                            rotate_left
                            · intro w'
                              go_simp
                              with_reducible rfl
                            rotate_left
                            · simp only [Act.put, List.setIfInBounds_toArray, List.set_cons_zero, List.set_cons_succ, i64_w, i32_w]
                              rfl
                            refine done_ (done_of HT_.out (by kernel_rfl)) ?_
                            have p342 : 0 ≤ (x5_1 : Int) := DT
                            have q342 : x5_1 < (l0.length : Int) := DT
                            obtain ⟨ad342, A342_7, c342_7, e342, hx342_0, hx342_1, hx342_2, hx342_3, hx342_4, hx342_5, hx342_6, hx342_7, hx342_8, hl342_7, hi342_7⟩ := at_T135 HR0.out x5_1 p342 q342
                            obtain rfl : ad338 = ad342 := (by injection e342)
                            replace hx342_0 := (HB.out.cell (World.block_lt_of_cell? w _ hx342_0)).trans hx342_0
                            replace hx342_1 := (HB.out.cell (World.block_lt_of_cell? w _ hx342_1)).trans hx342_1
                            replace hx342_2 := (HB.out.cell (World.block_lt_of_cell? w _ hx342_2)).trans hx342_2
                            replace hx342_3 := (HB.out.cell (World.block_lt_of_cell? w _ hx342_3)).trans hx342_3
                            replace hx342_4 := (HB.out.cell (World.block_lt_of_cell? w _ hx342_4)).trans hx342_4
                            replace hx342_5 := (HB.out.cell (World.block_lt_of_cell? w _ hx342_5)).trans hx342_5
                            replace hx342_6 := (HB.out.cell (World.block_lt_of_cell? w _ hx342_6)).trans hx342_6
                            replace hx342_7 := (HB.out.cell (World.block_lt_of_cell? w _ hx342_7)).trans hx342_7
                            replace hx342_8 := (HB.out.cell (World.block_lt_of_cell? w _ hx342_8)).trans hx342_8
                            have HR342_7 := Aside0.mk hi342_7
                            have HC342_7 := Aside0.mk hl342_7
                            clear hi342_7 hl342_7
                            replace p342 := eq_true p342
                            replace q342 := eq_true q342
                            have ea_ := Option.some.inj (hx342_7.symm.trans ((HB.out.cell (World.block_lt_of_cell? w _ hw340_7)).trans hw340_7))
                            injection ea_ with ea_ en_ ec_
                            subst ea_
                            subst ec_
                            clear en_
                            have p343 : 0 ≤ (x5_1 : Int) := DT
                            have q343 : x5_1 < (l0.length : Int) := DT
                            obtain ⟨ad343, A343_7, c343_7, e343, hx343_0, hx343_1, hx343_2, hx343_3, hx343_4, hx343_5, hx343_6, hx343_7, hx343_8, hl343_7, hi343_7⟩ := at_T135 HR0.out x5_1 p343 q343
                            obtain rfl : ad338 = ad343 := (by injection e343)
                            replace hx343_0 := (HB.out.cell (World.block_lt_of_cell? w _ hx343_0)).trans hx343_0
                            replace hx343_1 := (HB.out.cell (World.block_lt_of_cell? w _ hx343_1)).trans hx343_1
                            replace hx343_2 := (HB.out.cell (World.block_lt_of_cell? w _ hx343_2)).trans hx343_2
                            replace hx343_3 := (HB.out.cell (World.block_lt_of_cell? w _ hx343_3)).trans hx343_3
                            replace hx343_4 := (HB.out.cell (World.block_lt_of_cell? w _ hx343_4)).trans hx343_4
                            replace hx343_5 := (HB.out.cell (World.block_lt_of_cell? w _ hx343_5)).trans hx343_5
                            replace hx343_6 := (HB.out.cell (World.block_lt_of_cell? w _ hx343_6)).trans hx343_6
                            replace hx343_7 := (HB.out.cell (World.block_lt_of_cell? w _ hx343_7)).trans hx343_7
                            replace hx343_8 := (HB.out.cell (World.block_lt_of_cell? w _ hx343_8)).trans hx343_8
                            have HR343_7 := Aside0.mk hi343_7
                            have HC343_7 := Aside0.mk hl343_7
                            clear hi343_7 hl343_7
                            replace p343 := eq_true p343
                            replace q343 := eq_true q343
                            have ea_ := Option.some.inj (hx342_7.symm.trans hx343_7)
                            injection ea_ with ea_ en_ ec_
                            subst ea_
                            subst ec_
                            clear en_
                            have p344 : 0 ≤ (x5_1 : Int) := DT
                            have q344 : x5_1 < (l0.length : Int) := DT
                            obtain ⟨ad344, A344_7, c344_7, e344, hx344_0, hx344_1, hx344_2, hx344_3, hx344_4, hx344_5, hx344_6, hx344_7, hx344_8, hl344_7, hi344_7⟩ := at_T135 HR0.out x5_1 p344 q344
                            obtain rfl : ad338 = ad344 := (by injection e344)
                            replace hx344_0 := (HB.out.cell (World.block_lt_of_cell? w _ hx344_0)).trans hx344_0
                            replace hx344_1 := (HB.out.cell (World.block_lt_of_cell? w _ hx344_1)).trans hx344_1
                            replace hx344_2 := (HB.out.cell (World.block_lt_of_cell? w _ hx344_2)).trans hx344_2
                            replace hx344_3 := (HB.out.cell (World.block_lt_of_cell? w _ hx344_3)).trans hx344_3
                            replace hx344_4 := (HB.out.cell (World.block_lt_of_cell? w _ hx344_4)).trans hx344_4
                            replace hx344_5 := (HB.out.cell (World.block_lt_of_cell? w _ hx344_5)).trans hx344_5
                            replace hx344_6 := (HB.out.cell (World.block_lt_of_cell? w _ hx344_6)).trans hx344_6
                            replace hx344_7 := (HB.out.cell (World.block_lt_of_cell? w _ hx344_7)).trans hx344_7
                            replace hx344_8 := (HB.out.cell (World.block_lt_of_cell? w _ hx344_8)).trans hx344_8
                            have HR344_7 := Aside0.mk hi344_7
                            have HC344_7 := Aside0.mk hl344_7
                            clear hi344_7 hl344_7
                            replace p344 := eq_true p344
                            replace q344 := eq_true q344
                            have ea_ := Option.some.inj (hx342_7.symm.trans hx344_7)
                            injection ea_ with ea_ en_ ec_
                            subst ea_
                            subst ec_
                            clear en_
                            have p345 : 0 ≤ (x5_1 : Int) := DT
                            have q345 : x5_1 < (l0.length : Int) := DT
                            obtain ⟨ad345, A345_7, c345_7, e345, hx345_0, hx345_1, hx345_2, hx345_3, hx345_4, hx345_5, hx345_6, hx345_7, hx345_8, hl345_7, hi345_7⟩ := at_T135 HR0.out x5_1 p345 q345
                            obtain rfl : ad338 = ad345 := (by injection e345)
                            replace hx345_0 := (HB.out.cell (World.block_lt_of_cell? w _ hx345_0)).trans hx345_0
                            replace hx345_1 := (HB.out.cell (World.block_lt_of_cell? w _ hx345_1)).trans hx345_1
                            replace hx345_2 := (HB.out.cell (World.block_lt_of_cell? w _ hx345_2)).trans hx345_2
                            replace hx345_3 := (HB.out.cell (World.block_lt_of_cell? w _ hx345_3)).trans hx345_3
                            replace hx345_4 := (HB.out.cell (World.block_lt_of_cell? w _ hx345_4)).trans hx345_4
                            replace hx345_5 := (HB.out.cell (World.block_lt_of_cell? w _ hx345_5)).trans hx345_5
                            replace hx345_6 := (HB.out.cell (World.block_lt_of_cell? w _ hx345_6)).trans hx345_6
                            replace hx345_7 := (HB.out.cell (World.block_lt_of_cell? w _ hx345_7)).trans hx345_7
                            replace hx345_8 := (HB.out.cell (World.block_lt_of_cell? w _ hx345_8)).trans hx345_8
                            have HR345_7 := Aside0.mk hi345_7
                            have HC345_7 := Aside0.mk hl345_7
                            clear hi345_7 hl345_7
                            replace p345 := eq_true p345
                            replace q345 := eq_true q345
                            have ea_ := Option.some.inj (hx342_7.symm.trans hx345_7)
                            injection ea_ with ea_ en_ ec_
                            subst ea_
                            subst ec_
                            clear en_
                            have p346 : 0 ≤ (x5_1 : Int) := DT
                            have q346 : x5_1 < (l0.length : Int) := DT
                            obtain ⟨ad346, A346_7, c346_7, e346, hx346_0, hx346_1, hx346_2, hx346_3, hx346_4, hx346_5, hx346_6, hx346_7, hx346_8, hl346_7, hi346_7⟩ := at_T135 HR0.out x5_1 p346 q346
                            obtain rfl : ad338 = ad346 := (by injection e346)
                            replace hx346_0 := (HB.out.cell (World.block_lt_of_cell? w _ hx346_0)).trans hx346_0
                            replace hx346_1 := (HB.out.cell (World.block_lt_of_cell? w _ hx346_1)).trans hx346_1
                            replace hx346_2 := (HB.out.cell (World.block_lt_of_cell? w _ hx346_2)).trans hx346_2
                            replace hx346_3 := (HB.out.cell (World.block_lt_of_cell? w _ hx346_3)).trans hx346_3
                            replace hx346_4 := (HB.out.cell (World.block_lt_of_cell? w _ hx346_4)).trans hx346_4
                            replace hx346_5 := (HB.out.cell (World.block_lt_of_cell? w _ hx346_5)).trans hx346_5
                            replace hx346_6 := (HB.out.cell (World.block_lt_of_cell? w _ hx346_6)).trans hx346_6
                            replace hx346_7 := (HB.out.cell (World.block_lt_of_cell? w _ hx346_7)).trans hx346_7
                            replace hx346_8 := (HB.out.cell (World.block_lt_of_cell? w _ hx346_8)).trans hx346_8
                            have HR346_7 := Aside0.mk hi346_7
                            have HC346_7 := Aside0.mk hl346_7
                            clear hi346_7 hl346_7
                            replace p346 := eq_true p346
                            replace q346 := eq_true q346
                            have ea_ := Option.some.inj (hx342_7.symm.trans hx346_7)
                            injection ea_ with ea_ en_ ec_
                            subst ea_
                            subst ec_
                            clear en_
                            try go_wp2_with (first | ((with_reducible refine gate_callee (f := 155) rfl ?_); refine GL (some 84) rfl rfl Try.func155 #[.slice A342_7 ((rd_T135 l0 x5_1).f7).length c342_7, .int .i64 (wrap64 ((wrap64 ((wrap64 ((wrap64 ((wrap64 ((wrap64 ((wrap64 (x1_1 + 1)) + 1)) + 1)) + 1)) + 1)) + 1)) + 1))] rfl ?_; (with_reducible refine (laws_heldPieceS.calls k1 _ _ ((rd_T135 l0 x5_1).f7) (wrap64 ((wrap64 ((wrap64 ((wrap64 ((wrap64 ((wrap64 ((wrap64 (x1_1 + 1)) + 1)) + 1)) + 1)) + 1)) + 1)) + 1)) t347 _ ?side1 ?side2 A15.out).mono ?_); (case side1 => exact CC (Kd.C_below HR346_7.out HB.out)); (case side2 => exact HC346_7.out); rintro e w' ⟨rfl, ⟨nd, rfl⟩⟩; refine ⟨_, rfl, ?_⟩; have p348 : 0 ≤ (x5_1 : Int) := DT; have q348 : x5_1 < (l0.length : Int) := DT; obtain ⟨ad348, A348_7, c348_7, e348, hx348_0, hx348_1, hx348_2, hx348_3, hx348_4, hx348_5, hx348_6, hx348_7, hx348_8, hl348_7, hi348_7⟩ := at_T135 HR0.out x5_1 p348 q348; obtain rfl : ad338 = ad348 := (by injection e348); replace hx348_0 := (HB.out.cell (World.block_lt_of_cell? w _ hx348_0)).trans hx348_0; replace hx348_1 := (HB.out.cell (World.block_lt_of_cell? w _ hx348_1)).trans hx348_1; replace hx348_2 := (HB.out.cell (World.block_lt_of_cell? w _ hx348_2)).trans hx348_2; replace hx348_3 := (HB.out.cell (World.block_lt_of_cell? w _ hx348_3)).trans hx348_3; replace hx348_4 := (HB.out.cell (World.block_lt_of_cell? w _ hx348_4)).trans hx348_4; replace hx348_5 := (HB.out.cell (World.block_lt_of_cell? w _ hx348_5)).trans hx348_5; replace hx348_6 := (HB.out.cell (World.block_lt_of_cell? w _ hx348_6)).trans hx348_6; replace hx348_7 := (HB.out.cell (World.block_lt_of_cell? w _ hx348_7)).trans hx348_7; replace hx348_8 := (HB.out.cell (World.block_lt_of_cell? w _ hx348_8)).trans hx348_8; have HR348_7 := Aside0.mk hi348_7; have HC348_7 := Aside0.mk hl348_7; clear hi348_7 hl348_7; replace p348 := eq_true p348; replace q348 := eq_true q348; have ea_ := Option.some.inj (hx342_7.symm.trans hx348_7); injection ea_ with ea_ en_ ec_; subst ea_; subst ec_; clear en_))
                            go_roundg k1
                            case measure => have := HK1.out; omega
                            case rel => exact ⟨(wrap64 (t347 + 1)), (wrap64 (x5_1 + 1)), FR, FR, H', ⟨by have := HK1.out; omega⟩, ⟨(BB HB.out)⟩⟩
                          · rw [if_neg c19] at H
                            have c19b0 : (((rd_T135 l0 x5_1).f8) == t347) = false := beq_eq_false_iff_ne.mpr c19
                            have c19b1 : (((rd_T135 l0 x5_1).f8) != t347) = true := bne_iff_ne.mpr c19
                            obtain rfl := Option.some.inj H
                            have p338 : 0 ≤ (x5_1 : Int) := DT
                            have q338 : x5_1 < (l0.length : Int) := DT
                            obtain ⟨ad338, A338_7, c338_7, e338, hx338_0, hx338_1, hx338_2, hx338_3, hx338_4, hx338_5, hx338_6, hx338_7, hx338_8, hl338_7, hi338_7⟩ := at_T135 HR0.out x5_1 p338 q338
                            cases e338
                            replace hx338_0 := (HB.out.cell (World.block_lt_of_cell? w _ hx338_0)).trans hx338_0
                            replace hx338_1 := (HB.out.cell (World.block_lt_of_cell? w _ hx338_1)).trans hx338_1
                            replace hx338_2 := (HB.out.cell (World.block_lt_of_cell? w _ hx338_2)).trans hx338_2
                            replace hx338_3 := (HB.out.cell (World.block_lt_of_cell? w _ hx338_3)).trans hx338_3
                            replace hx338_4 := (HB.out.cell (World.block_lt_of_cell? w _ hx338_4)).trans hx338_4
                            replace hx338_5 := (HB.out.cell (World.block_lt_of_cell? w _ hx338_5)).trans hx338_5
                            replace hx338_6 := (HB.out.cell (World.block_lt_of_cell? w _ hx338_6)).trans hx338_6
                            replace hx338_7 := (HB.out.cell (World.block_lt_of_cell? w _ hx338_7)).trans hx338_7
                            replace hx338_8 := (HB.out.cell (World.block_lt_of_cell? w _ hx338_8)).trans hx338_8
                            have HR338_7 := Aside0.mk hi338_7
                            have HC338_7 := Aside0.mk hl338_7
                            clear hi338_7 hl338_7
                            replace p338 := eq_true p338
                            replace q338 := eq_true q338
                            have p339 : 0 ≤ (x5_1 : Int) := DT
                            have q339 : x5_1 < (l0.length : Int) := DT
                            obtain ⟨ad339, A339_7, c339_7, e339, hx339_0, hx339_1, hx339_2, hx339_3, hx339_4, hx339_5, hx339_6, hx339_7, hx339_8, hl339_7, hi339_7⟩ := at_T135 HR0.out x5_1 p339 q339
                            obtain rfl : ad338 = ad339 := (by injection e339)
                            replace hx339_0 := (HB.out.cell (World.block_lt_of_cell? w _ hx339_0)).trans hx339_0
                            replace hx339_1 := (HB.out.cell (World.block_lt_of_cell? w _ hx339_1)).trans hx339_1
                            replace hx339_2 := (HB.out.cell (World.block_lt_of_cell? w _ hx339_2)).trans hx339_2
                            replace hx339_3 := (HB.out.cell (World.block_lt_of_cell? w _ hx339_3)).trans hx339_3
                            replace hx339_4 := (HB.out.cell (World.block_lt_of_cell? w _ hx339_4)).trans hx339_4
                            replace hx339_5 := (HB.out.cell (World.block_lt_of_cell? w _ hx339_5)).trans hx339_5
                            replace hx339_6 := (HB.out.cell (World.block_lt_of_cell? w _ hx339_6)).trans hx339_6
                            replace hx339_7 := (HB.out.cell (World.block_lt_of_cell? w _ hx339_7)).trans hx339_7
                            replace hx339_8 := (HB.out.cell (World.block_lt_of_cell? w _ hx339_8)).trans hx339_8
                            have HR339_7 := Aside0.mk hi339_7
                            have HC339_7 := Aside0.mk hl339_7
                            clear hi339_7 hl339_7
                            replace p339 := eq_true p339
                            replace q339 := eq_true q339
                            have ea_ := Option.some.inj (hx338_7.symm.trans hx339_7)
                            injection ea_ with ea_ en_ ec_
                            subst ea_
                            subst ec_
                            clear en_
                            try go_wp2
                            have n0_ := Aside0.mk (below_drew1 HB.out)
                            clear HB
                            have HB := n0_
                            clear n0_
                            have p340 : 0 ≤ (x5_1 : Int) := DT
                            have q340 : x5_1 < (l0.length : Int) := DT
                            obtain ⟨ad340, A340_7, c340_7, e340, hx340_0, hx340_1, hx340_2, hx340_3, hx340_4, hx340_5, hx340_6, hx340_7, hx340_8, hl340_7, hi340_7⟩ := at_T135 HR0.out x5_1 p340 q340
                            have hw340_8 := hx340_8
                            have hw340_7 := hx340_7
                            have hw340_6 := hx340_6
                            have hw340_5 := hx340_5
                            have hw340_4 := hx340_4
                            have hw340_3 := hx340_3
                            have hw340_2 := hx340_2
                            have hw340_1 := hx340_1
                            have hw340_0 := hx340_0
                            obtain rfl : ad338 = ad340 := (by injection e340)
                            replace hx340_0 := (HB.out.cell (World.block_lt_of_cell? w _ hx340_0)).trans hx340_0
                            replace hx340_1 := (HB.out.cell (World.block_lt_of_cell? w _ hx340_1)).trans hx340_1
                            replace hx340_2 := (HB.out.cell (World.block_lt_of_cell? w _ hx340_2)).trans hx340_2
                            replace hx340_3 := (HB.out.cell (World.block_lt_of_cell? w _ hx340_3)).trans hx340_3
                            replace hx340_4 := (HB.out.cell (World.block_lt_of_cell? w _ hx340_4)).trans hx340_4
                            replace hx340_5 := (HB.out.cell (World.block_lt_of_cell? w _ hx340_5)).trans hx340_5
                            replace hx340_6 := (HB.out.cell (World.block_lt_of_cell? w _ hx340_6)).trans hx340_6
                            replace hx340_7 := (HB.out.cell (World.block_lt_of_cell? w _ hx340_7)).trans hx340_7
                            replace hx340_8 := (HB.out.cell (World.block_lt_of_cell? w _ hx340_8)).trans hx340_8
                            have HR340_7 := Aside0.mk hi340_7
                            have HC340_7 := Aside0.mk hl340_7
                            clear hi340_7 hl340_7
                            replace p340 := eq_true p340
                            replace q340 := eq_true q340
                            refine start_ (n := 8) (S := fun w' => w'.cell? (ad338.add ((x5_1).toNat * 9)) = some (.int .i64 ((rd_T135 l0 x5_1).f0)) ∧ w'.cell? ⟨(ad338.add ((x5_1).toNat * 9)).block, (ad338.add ((x5_1).toNat * 9)).off + 1, none⟩ = some (.int .i64 ((rd_T135 l0 x5_1).f1)) ∧ w'.cell? ⟨(ad338.add ((x5_1).toNat * 9)).block, (ad338.add ((x5_1).toNat * 9)).off + 2, none⟩ = some (.string ((rd_T135 l0 x5_1).f2)) ∧ w'.cell? ⟨(ad338.add ((x5_1).toNat * 9)).block, (ad338.add ((x5_1).toNat * 9)).off + 3, none⟩ = some (.bool ((rd_T135 l0 x5_1).f3)) ∧ w'.cell? ⟨(ad338.add ((x5_1).toNat * 9)).block, (ad338.add ((x5_1).toNat * 9)).off + 4, none⟩ = some (.int .i64 ((rd_T135 l0 x5_1).f4)) ∧ w'.cell? ⟨(ad338.add ((x5_1).toNat * 9)).block, (ad338.add ((x5_1).toNat * 9)).off + 5, none⟩ = some (.int .i64 ((rd_T135 l0 x5_1).f5)) ∧ w'.cell? ⟨(ad338.add ((x5_1).toNat * 9)).block, (ad338.add ((x5_1).toNat * 9)).off + 6, none⟩ = some (.int .i64 ((rd_T135 l0 x5_1).f6)) ∧ w'.cell? ⟨(ad338.add ((x5_1).toNat * 9)).block, (ad338.add ((x5_1).toNat * 9)).off + 7, none⟩ = some (.slice A340_7 ((rd_T135 l0 x5_1).f7).length c340_7) ∧ w'.cell? ⟨(ad338.add ((x5_1).toNat * 9)).block, (ad338.add ((x5_1).toNat * 9)).off + 8, none⟩ = some (.int .i64 ((rd_T135 l0 x5_1).f8))) (ds := []) #[false, false, false, false, false, false, false, false] (by kernel_rfl) rfl rfl ⟨((HB.out.cell (World.block_lt_of_cell? w _ hw340_0)).trans hw340_0), ((HB.out.cell (World.block_lt_of_cell? w _ hw340_1)).trans hw340_1), ((HB.out.cell (World.block_lt_of_cell? w _ hw340_2)).trans hw340_2), ((HB.out.cell (World.block_lt_of_cell? w _ hw340_3)).trans hw340_3), ((HB.out.cell (World.block_lt_of_cell? w _ hw340_4)).trans hw340_4), ((HB.out.cell (World.block_lt_of_cell? w _ hw340_5)).trans hw340_5), ((HB.out.cell (World.block_lt_of_cell? w _ hw340_6)).trans hw340_6), ((HB.out.cell (World.block_lt_of_cell? w _ hw340_7)).trans hw340_7), ((HB.out.cell (World.block_lt_of_cell? w _ hw340_8)).trans hw340_8)⟩ (fun hHeld => ?_); refine with_tabW laws_heldInodeS.tab10 laws_heldInodeS.bits10 (fun HT_ HW_ => ?_)
                            generalize wr.drew = w22 at HB HR340_7 hx340_0 hx340_1 hx340_2 hx340_3 hx340_4 hx340_5 hx340_6 hx340_7 hx340_8 hHeld ⊢
                            refine pure_ (i := 0) (N := some 30) (v := ?_) (a' := ?_) #[true, false, false, false, false, false, false, false] rfl rfl (any_of HT_.out (by kernel_rfl)) (fun _ _ _ h => h) (Or.inl ⟨by rfl, ?_⟩) ?_ ?_
                            rotate_left
                            · intro w'
                              go_simp
                              with_reducible rfl
                            rotate_left
                            · simp only [Act.put, List.setIfInBounds_toArray, List.set_cons_zero, List.set_cons_succ, i64_w, i32_w]
                              rfl
                            refine pure_ (i := 1) (N := some 31) (v := ?_) (a' := ?_) #[true, true, false, false, false, false, false, false] rfl rfl (any_of HT_.out (by kernel_rfl)) (fun _ _ _ h => h) (Or.inl ⟨by rfl, ?_⟩) ?_ ?_
                            rotate_left
                            · intro w'
                              go_simp
                              with_reducible rfl
                            rotate_left
                            · simp only [Act.put, List.setIfInBounds_toArray, List.set_cons_zero, List.set_cons_succ, i64_w, i32_w]
                              rfl
                            refine pure_ (i := 2) (N := some 32) (v := ?_) (a' := ?_) #[true, true, true, false, false, false, false, false] rfl rfl (any_of HT_.out (by kernel_rfl)) (fun _ _ _ h => h) (Or.inl ⟨by rfl, ?_⟩) ?_ ?_
                            rotate_left
                            · intro w'
                              go_simp
                              with_reducible rfl
                            rotate_left
                            · simp only [Act.put, List.setIfInBounds_toArray, List.set_cons_zero, List.set_cons_succ, i64_w, i32_w]
                              rfl
                            refine pure_ (i := 3) (N := some 33) (v := ?_) (a' := ?_) #[true, true, true, true, false, false, false, false] rfl rfl (any_of HT_.out (by kernel_rfl)) (fun _ _ _ h => h) (Or.inl ⟨by rfl, ?_⟩) ?_ ?_
                            rotate_left
                            · intro w'
                              go_simp
                              with_reducible rfl
                            rotate_left
                            · simp only [Act.put, List.setIfInBounds_toArray, List.set_cons_zero, List.set_cons_succ, i64_w, i32_w]
                              rfl
                            refine pure_ (i := 5) (N := some 35) (v := ?_) (a' := ?_) #[true, true, true, true, false, true, false, false] rfl rfl (any_of HT_.out (by kernel_rfl)) (fun _ _ _ h => h) (Or.inl ⟨by rfl, ?_⟩) ?_ ?_
                            rotate_left
                            · intro w'
                              go_simp
                              with_reducible rfl
                            rotate_left
                            · simp only [Act.put, List.setIfInBounds_toArray, List.set_cons_zero, List.set_cons_succ, i64_w, i32_w]
                              rfl
                            refine take_ (i := 4) (N := some 34) (v := ?_) (a' := ?_) #[true, true, true, true, true, true, false, false] rfl rfl (take_ofW HT_.out HW_.out (by kernel_rfl)) (fun _ _ _ h => h) (Or.inl ⟨by rfl, ?_⟩) hHeld ?_ ?_
                            rotate_left
                            · rintro w' ⟨s0, s1, s2, s3, s4, s5, s6, s7, s8⟩
                              go_simp
                              with_reducible rfl
                            rotate_left
                            · simp only [Act.put, List.setIfInBounds_toArray, List.set_cons_zero, List.set_cons_succ, i64_w, i32_w]
                              rfl
                            refine one_ (i := 6) (N := some 36) #[true, true, true, true, true, true, true, false] rfl rfl (one_of HT_.out (by kernel_rfl)) (by decide) (fun K hK => ?_)
                            refine goes_ Try.func60 (by kernel_rfl) rfl #[.int .i64 (wrap64 ((wrap64 (x1_1 + 1)) + 1))] (by rfl) rfl rfl (by (try simp only [List.map_toArray, List.map_cons, List.map_nil]); first | done | rfl | (simp only [List.length_drop, List.length_take]; rfl)) ?_
                            with_reducible refine (laws_markText.calls k1 (wrap64 ((wrap64 (x1_1 + 1)) + 1)) t341 _ A7.out).mono ?_
                            rintro e w23 ⟨rfl, hb⟩
                            refine ⟨_, rfl, ?_⟩
                            have n0_ := Aside0.mk (below_step (BB HB.out) hb)
                            clear HB
                            have HB := n0_
                            clear n0_
                            (try clear hb)
                            (try clear hb2)
                            (try clear hk)
                            (try clear hi)
                            refine hK.out _ _ ⟨((HB.out.cell (World.block_lt_of_cell? w _ hw340_0)).trans hw340_0), ((HB.out.cell (World.block_lt_of_cell? w _ hw340_1)).trans hw340_1), ((HB.out.cell (World.block_lt_of_cell? w _ hw340_2)).trans hw340_2), ((HB.out.cell (World.block_lt_of_cell? w _ hw340_3)).trans hw340_3), ((HB.out.cell (World.block_lt_of_cell? w _ hw340_4)).trans hw340_4), ((HB.out.cell (World.block_lt_of_cell? w _ hw340_5)).trans hw340_5), ((HB.out.cell (World.block_lt_of_cell? w _ hw340_6)).trans hw340_6), ((HB.out.cell (World.block_lt_of_cell? w _ hw340_7)).trans hw340_7), ((HB.out.cell (World.block_lt_of_cell? w _ hw340_8)).trans hw340_8)⟩ (fun hHeld => ?_)
                            clear hK K
                            refine norm_ (a' := ?_) ?_ ?_
                            rotate_left
                            · show Act.put _ (some 36) _ = _
                              simp only [Act.put, List.setIfInBounds_toArray, List.set_cons_zero, List.set_cons_succ, i64_w, i32_w]
                              rfl
                            refine pure_ (i := 7) (N := some 37) (v := ?_) (a' := ?_) #[true, true, true, true, true, true, true, true] rfl rfl (any_of HT_.out (by kernel_rfl)) (fun _ _ _ h => h) (Or.inl ⟨by rfl, ?_⟩) ?_ ?_
                            rotate_left
                            · intro w'
                              go_simp
                              with_reducible rfl
                            rotate_left
                            · simp only [Act.put, List.setIfInBounds_toArray, List.set_cons_zero, List.set_cons_succ, i64_w, i32_w]
                              rfl
                            refine done_ (done_of HT_.out (by kernel_rfl)) ?_
                            have p342 : 0 ≤ (x5_1 : Int) := DT
                            have q342 : x5_1 < (l0.length : Int) := DT
                            obtain ⟨ad342, A342_7, c342_7, e342, hx342_0, hx342_1, hx342_2, hx342_3, hx342_4, hx342_5, hx342_6, hx342_7, hx342_8, hl342_7, hi342_7⟩ := at_T135 HR0.out x5_1 p342 q342
                            obtain rfl : ad338 = ad342 := (by injection e342)
                            replace hx342_0 := (HB.out.cell (World.block_lt_of_cell? w _ hx342_0)).trans hx342_0
                            replace hx342_1 := (HB.out.cell (World.block_lt_of_cell? w _ hx342_1)).trans hx342_1
                            replace hx342_2 := (HB.out.cell (World.block_lt_of_cell? w _ hx342_2)).trans hx342_2
                            replace hx342_3 := (HB.out.cell (World.block_lt_of_cell? w _ hx342_3)).trans hx342_3
                            replace hx342_4 := (HB.out.cell (World.block_lt_of_cell? w _ hx342_4)).trans hx342_4
                            replace hx342_5 := (HB.out.cell (World.block_lt_of_cell? w _ hx342_5)).trans hx342_5
                            replace hx342_6 := (HB.out.cell (World.block_lt_of_cell? w _ hx342_6)).trans hx342_6
                            replace hx342_7 := (HB.out.cell (World.block_lt_of_cell? w _ hx342_7)).trans hx342_7
                            replace hx342_8 := (HB.out.cell (World.block_lt_of_cell? w _ hx342_8)).trans hx342_8
                            have HR342_7 := Aside0.mk hi342_7
                            have HC342_7 := Aside0.mk hl342_7
                            clear hi342_7 hl342_7
                            replace p342 := eq_true p342
                            replace q342 := eq_true q342
                            have ea_ := Option.some.inj (hx342_7.symm.trans ((HB.out.cell (World.block_lt_of_cell? w _ hw340_7)).trans hw340_7))
                            injection ea_ with ea_ en_ ec_
                            subst ea_
                            subst ec_
                            clear en_
                            have p343 : 0 ≤ (x5_1 : Int) := DT
                            have q343 : x5_1 < (l0.length : Int) := DT
                            obtain ⟨ad343, A343_7, c343_7, e343, hx343_0, hx343_1, hx343_2, hx343_3, hx343_4, hx343_5, hx343_6, hx343_7, hx343_8, hl343_7, hi343_7⟩ := at_T135 HR0.out x5_1 p343 q343
                            obtain rfl : ad338 = ad343 := (by injection e343)
                            replace hx343_0 := (HB.out.cell (World.block_lt_of_cell? w _ hx343_0)).trans hx343_0
                            replace hx343_1 := (HB.out.cell (World.block_lt_of_cell? w _ hx343_1)).trans hx343_1
                            replace hx343_2 := (HB.out.cell (World.block_lt_of_cell? w _ hx343_2)).trans hx343_2
                            replace hx343_3 := (HB.out.cell (World.block_lt_of_cell? w _ hx343_3)).trans hx343_3
                            replace hx343_4 := (HB.out.cell (World.block_lt_of_cell? w _ hx343_4)).trans hx343_4
                            replace hx343_5 := (HB.out.cell (World.block_lt_of_cell? w _ hx343_5)).trans hx343_5
                            replace hx343_6 := (HB.out.cell (World.block_lt_of_cell? w _ hx343_6)).trans hx343_6
                            replace hx343_7 := (HB.out.cell (World.block_lt_of_cell? w _ hx343_7)).trans hx343_7
                            replace hx343_8 := (HB.out.cell (World.block_lt_of_cell? w _ hx343_8)).trans hx343_8
                            have HR343_7 := Aside0.mk hi343_7
                            have HC343_7 := Aside0.mk hl343_7
                            clear hi343_7 hl343_7
                            replace p343 := eq_true p343
                            replace q343 := eq_true q343
                            have ea_ := Option.some.inj (hx342_7.symm.trans hx343_7)
                            injection ea_ with ea_ en_ ec_
                            subst ea_
                            subst ec_
                            clear en_
                            have p344 : 0 ≤ (x5_1 : Int) := DT
                            have q344 : x5_1 < (l0.length : Int) := DT
                            obtain ⟨ad344, A344_7, c344_7, e344, hx344_0, hx344_1, hx344_2, hx344_3, hx344_4, hx344_5, hx344_6, hx344_7, hx344_8, hl344_7, hi344_7⟩ := at_T135 HR0.out x5_1 p344 q344
                            obtain rfl : ad338 = ad344 := (by injection e344)
                            replace hx344_0 := (HB.out.cell (World.block_lt_of_cell? w _ hx344_0)).trans hx344_0
                            replace hx344_1 := (HB.out.cell (World.block_lt_of_cell? w _ hx344_1)).trans hx344_1
                            replace hx344_2 := (HB.out.cell (World.block_lt_of_cell? w _ hx344_2)).trans hx344_2
                            replace hx344_3 := (HB.out.cell (World.block_lt_of_cell? w _ hx344_3)).trans hx344_3
                            replace hx344_4 := (HB.out.cell (World.block_lt_of_cell? w _ hx344_4)).trans hx344_4
                            replace hx344_5 := (HB.out.cell (World.block_lt_of_cell? w _ hx344_5)).trans hx344_5
                            replace hx344_6 := (HB.out.cell (World.block_lt_of_cell? w _ hx344_6)).trans hx344_6
                            replace hx344_7 := (HB.out.cell (World.block_lt_of_cell? w _ hx344_7)).trans hx344_7
                            replace hx344_8 := (HB.out.cell (World.block_lt_of_cell? w _ hx344_8)).trans hx344_8
                            have HR344_7 := Aside0.mk hi344_7
                            have HC344_7 := Aside0.mk hl344_7
                            clear hi344_7 hl344_7
                            replace p344 := eq_true p344
                            replace q344 := eq_true q344
                            have ea_ := Option.some.inj (hx342_7.symm.trans hx344_7)
                            injection ea_ with ea_ en_ ec_
                            subst ea_
                            subst ec_
                            clear en_
                            have p345 : 0 ≤ (x5_1 : Int) := DT
                            have q345 : x5_1 < (l0.length : Int) := DT
                            obtain ⟨ad345, A345_7, c345_7, e345, hx345_0, hx345_1, hx345_2, hx345_3, hx345_4, hx345_5, hx345_6, hx345_7, hx345_8, hl345_7, hi345_7⟩ := at_T135 HR0.out x5_1 p345 q345
                            obtain rfl : ad338 = ad345 := (by injection e345)
                            replace hx345_0 := (HB.out.cell (World.block_lt_of_cell? w _ hx345_0)).trans hx345_0
                            replace hx345_1 := (HB.out.cell (World.block_lt_of_cell? w _ hx345_1)).trans hx345_1
                            replace hx345_2 := (HB.out.cell (World.block_lt_of_cell? w _ hx345_2)).trans hx345_2
                            replace hx345_3 := (HB.out.cell (World.block_lt_of_cell? w _ hx345_3)).trans hx345_3
                            replace hx345_4 := (HB.out.cell (World.block_lt_of_cell? w _ hx345_4)).trans hx345_4
                            replace hx345_5 := (HB.out.cell (World.block_lt_of_cell? w _ hx345_5)).trans hx345_5
                            replace hx345_6 := (HB.out.cell (World.block_lt_of_cell? w _ hx345_6)).trans hx345_6
                            replace hx345_7 := (HB.out.cell (World.block_lt_of_cell? w _ hx345_7)).trans hx345_7
                            replace hx345_8 := (HB.out.cell (World.block_lt_of_cell? w _ hx345_8)).trans hx345_8
                            have HR345_7 := Aside0.mk hi345_7
                            have HC345_7 := Aside0.mk hl345_7
                            clear hi345_7 hl345_7
                            replace p345 := eq_true p345
                            replace q345 := eq_true q345
                            have ea_ := Option.some.inj (hx342_7.symm.trans hx345_7)
                            injection ea_ with ea_ en_ ec_
                            subst ea_
                            subst ec_
                            clear en_
                            have p346 : 0 ≤ (x5_1 : Int) := DT
                            have q346 : x5_1 < (l0.length : Int) := DT
                            obtain ⟨ad346, A346_7, c346_7, e346, hx346_0, hx346_1, hx346_2, hx346_3, hx346_4, hx346_5, hx346_6, hx346_7, hx346_8, hl346_7, hi346_7⟩ := at_T135 HR0.out x5_1 p346 q346
                            obtain rfl : ad338 = ad346 := (by injection e346)
                            replace hx346_0 := (HB.out.cell (World.block_lt_of_cell? w _ hx346_0)).trans hx346_0
                            replace hx346_1 := (HB.out.cell (World.block_lt_of_cell? w _ hx346_1)).trans hx346_1
                            replace hx346_2 := (HB.out.cell (World.block_lt_of_cell? w _ hx346_2)).trans hx346_2
                            replace hx346_3 := (HB.out.cell (World.block_lt_of_cell? w _ hx346_3)).trans hx346_3
                            replace hx346_4 := (HB.out.cell (World.block_lt_of_cell? w _ hx346_4)).trans hx346_4
                            replace hx346_5 := (HB.out.cell (World.block_lt_of_cell? w _ hx346_5)).trans hx346_5
                            replace hx346_6 := (HB.out.cell (World.block_lt_of_cell? w _ hx346_6)).trans hx346_6
                            replace hx346_7 := (HB.out.cell (World.block_lt_of_cell? w _ hx346_7)).trans hx346_7
                            replace hx346_8 := (HB.out.cell (World.block_lt_of_cell? w _ hx346_8)).trans hx346_8
                            have HR346_7 := Aside0.mk hi346_7
                            have HC346_7 := Aside0.mk hl346_7
                            clear hi346_7 hl346_7
                            replace p346 := eq_true p346
                            replace q346 := eq_true q346
                            have ea_ := Option.some.inj (hx342_7.symm.trans hx346_7)
                            injection ea_ with ea_ en_ ec_
                            subst ea_
                            subst ec_
                            clear en_
                            try go_wp2_with (first | ((with_reducible refine gate_callee (f := 155) rfl ?_); refine GL (some 84) rfl rfl Try.func155 #[.slice A342_7 ((rd_T135 l0 x5_1).f7).length c342_7, .int .i64 (wrap64 ((wrap64 ((wrap64 ((wrap64 ((wrap64 ((wrap64 ((wrap64 (x1_1 + 1)) + 1)) + 1)) + 1)) + 1)) + 1)) + 1))] rfl ?_; (with_reducible refine (laws_heldPieceS.calls k1 _ _ ((rd_T135 l0 x5_1).f7) (wrap64 ((wrap64 ((wrap64 ((wrap64 ((wrap64 ((wrap64 ((wrap64 (x1_1 + 1)) + 1)) + 1)) + 1)) + 1)) + 1)) + 1)) t347 _ ?side1 ?side2 A15.out).mono ?_); (case side1 => exact CC (Kd.C_below HR346_7.out HB.out)); (case side2 => exact HC346_7.out); rintro e w' ⟨rfl, ⟨nd, rfl⟩⟩; refine ⟨_, rfl, ?_⟩; have p348 : 0 ≤ (x5_1 : Int) := DT; have q348 : x5_1 < (l0.length : Int) := DT; obtain ⟨ad348, A348_7, c348_7, e348, hx348_0, hx348_1, hx348_2, hx348_3, hx348_4, hx348_5, hx348_6, hx348_7, hx348_8, hl348_7, hi348_7⟩ := at_T135 HR0.out x5_1 p348 q348; obtain rfl : ad338 = ad348 := (by injection e348); replace hx348_0 := (HB.out.cell (World.block_lt_of_cell? w _ hx348_0)).trans hx348_0; replace hx348_1 := (HB.out.cell (World.block_lt_of_cell? w _ hx348_1)).trans hx348_1; replace hx348_2 := (HB.out.cell (World.block_lt_of_cell? w _ hx348_2)).trans hx348_2; replace hx348_3 := (HB.out.cell (World.block_lt_of_cell? w _ hx348_3)).trans hx348_3; replace hx348_4 := (HB.out.cell (World.block_lt_of_cell? w _ hx348_4)).trans hx348_4; replace hx348_5 := (HB.out.cell (World.block_lt_of_cell? w _ hx348_5)).trans hx348_5; replace hx348_6 := (HB.out.cell (World.block_lt_of_cell? w _ hx348_6)).trans hx348_6; replace hx348_7 := (HB.out.cell (World.block_lt_of_cell? w _ hx348_7)).trans hx348_7; replace hx348_8 := (HB.out.cell (World.block_lt_of_cell? w _ hx348_8)).trans hx348_8; have HR348_7 := Aside0.mk hi348_7; have HC348_7 := Aside0.mk hl348_7; clear hi348_7 hl348_7; replace p348 := eq_true p348; replace q348 := eq_true q348; have ea_ := Option.some.inj (hx342_7.symm.trans hx348_7); injection ea_ with ea_ en_ ec_; subst ea_; subst ec_; clear en_))
                            go_ret
                            exact ⟨ER, (BB HB.out)⟩
                      · rw [if_neg c14] at H
                        have c14b0 : (((rd_T135 l0 x5_1).f6) == (wrap64 ((wrap64 ((wrap64 ((wrap64 ((wrap64 ((wrap64 (x1_1 + 1)) + 1)) + 1)) + 1)) + 1)) + 1))) = false := beq_eq_false_iff_ne.mpr c14
                        have c14b1 : (((rd_T135 l0 x5_1).f6) != (wrap64 ((wrap64 ((wrap64 ((wrap64 ((wrap64 ((wrap64 (x1_1 + 1)) + 1)) + 1)) + 1)) + 1)) + 1))) = true := bne_iff_ne.mpr c14
                        obtain rfl := Option.some.inj H
                        have p338 : 0 ≤ (x5_1 : Int) := DT
                        have q338 : x5_1 < (l0.length : Int) := DT
                        obtain ⟨ad338, A338_7, c338_7, e338, hx338_0, hx338_1, hx338_2, hx338_3, hx338_4, hx338_5, hx338_6, hx338_7, hx338_8, hl338_7, hi338_7⟩ := at_T135 HR0.out x5_1 p338 q338
                        cases e338
                        replace hx338_0 := (HB.out.cell (World.block_lt_of_cell? w _ hx338_0)).trans hx338_0
                        replace hx338_1 := (HB.out.cell (World.block_lt_of_cell? w _ hx338_1)).trans hx338_1
                        replace hx338_2 := (HB.out.cell (World.block_lt_of_cell? w _ hx338_2)).trans hx338_2
                        replace hx338_3 := (HB.out.cell (World.block_lt_of_cell? w _ hx338_3)).trans hx338_3
                        replace hx338_4 := (HB.out.cell (World.block_lt_of_cell? w _ hx338_4)).trans hx338_4
                        replace hx338_5 := (HB.out.cell (World.block_lt_of_cell? w _ hx338_5)).trans hx338_5
                        replace hx338_6 := (HB.out.cell (World.block_lt_of_cell? w _ hx338_6)).trans hx338_6
                        replace hx338_7 := (HB.out.cell (World.block_lt_of_cell? w _ hx338_7)).trans hx338_7
                        replace hx338_8 := (HB.out.cell (World.block_lt_of_cell? w _ hx338_8)).trans hx338_8
                        have HR338_7 := Aside0.mk hi338_7
                        have HC338_7 := Aside0.mk hl338_7
                        clear hi338_7 hl338_7
                        replace p338 := eq_true p338
                        replace q338 := eq_true q338
                        have p339 : 0 ≤ (x5_1 : Int) := DT
                        have q339 : x5_1 < (l0.length : Int) := DT
                        obtain ⟨ad339, A339_7, c339_7, e339, hx339_0, hx339_1, hx339_2, hx339_3, hx339_4, hx339_5, hx339_6, hx339_7, hx339_8, hl339_7, hi339_7⟩ := at_T135 HR0.out x5_1 p339 q339
                        obtain rfl : ad338 = ad339 := (by injection e339)
                        replace hx339_0 := (HB.out.cell (World.block_lt_of_cell? w _ hx339_0)).trans hx339_0
                        replace hx339_1 := (HB.out.cell (World.block_lt_of_cell? w _ hx339_1)).trans hx339_1
                        replace hx339_2 := (HB.out.cell (World.block_lt_of_cell? w _ hx339_2)).trans hx339_2
                        replace hx339_3 := (HB.out.cell (World.block_lt_of_cell? w _ hx339_3)).trans hx339_3
                        replace hx339_4 := (HB.out.cell (World.block_lt_of_cell? w _ hx339_4)).trans hx339_4
                        replace hx339_5 := (HB.out.cell (World.block_lt_of_cell? w _ hx339_5)).trans hx339_5
                        replace hx339_6 := (HB.out.cell (World.block_lt_of_cell? w _ hx339_6)).trans hx339_6
                        replace hx339_7 := (HB.out.cell (World.block_lt_of_cell? w _ hx339_7)).trans hx339_7
                        replace hx339_8 := (HB.out.cell (World.block_lt_of_cell? w _ hx339_8)).trans hx339_8
                        have HR339_7 := Aside0.mk hi339_7
                        have HC339_7 := Aside0.mk hl339_7
                        clear hi339_7 hl339_7
                        replace p339 := eq_true p339
                        replace q339 := eq_true q339
                        have ea_ := Option.some.inj (hx338_7.symm.trans hx339_7)
                        injection ea_ with ea_ en_ ec_
                        subst ea_
                        subst ec_
                        clear en_
                        try go_wp2
                        have n0_ := Aside0.mk (below_drew1 HB.out)
                        clear HB
                        have HB := n0_
                        clear n0_
                        have p340 : 0 ≤ (x5_1 : Int) := DT
                        have q340 : x5_1 < (l0.length : Int) := DT
                        obtain ⟨ad340, A340_7, c340_7, e340, hx340_0, hx340_1, hx340_2, hx340_3, hx340_4, hx340_5, hx340_6, hx340_7, hx340_8, hl340_7, hi340_7⟩ := at_T135 HR0.out x5_1 p340 q340
                        have hw340_8 := hx340_8
                        have hw340_7 := hx340_7
                        have hw340_6 := hx340_6
                        have hw340_5 := hx340_5
                        have hw340_4 := hx340_4
                        have hw340_3 := hx340_3
                        have hw340_2 := hx340_2
                        have hw340_1 := hx340_1
                        have hw340_0 := hx340_0
                        obtain rfl : ad338 = ad340 := (by injection e340)
                        replace hx340_0 := (HB.out.cell (World.block_lt_of_cell? w _ hx340_0)).trans hx340_0
                        replace hx340_1 := (HB.out.cell (World.block_lt_of_cell? w _ hx340_1)).trans hx340_1
                        replace hx340_2 := (HB.out.cell (World.block_lt_of_cell? w _ hx340_2)).trans hx340_2
                        replace hx340_3 := (HB.out.cell (World.block_lt_of_cell? w _ hx340_3)).trans hx340_3
                        replace hx340_4 := (HB.out.cell (World.block_lt_of_cell? w _ hx340_4)).trans hx340_4
                        replace hx340_5 := (HB.out.cell (World.block_lt_of_cell? w _ hx340_5)).trans hx340_5
                        replace hx340_6 := (HB.out.cell (World.block_lt_of_cell? w _ hx340_6)).trans hx340_6
                        replace hx340_7 := (HB.out.cell (World.block_lt_of_cell? w _ hx340_7)).trans hx340_7
                        replace hx340_8 := (HB.out.cell (World.block_lt_of_cell? w _ hx340_8)).trans hx340_8
                        have HR340_7 := Aside0.mk hi340_7
                        have HC340_7 := Aside0.mk hl340_7
                        clear hi340_7 hl340_7
                        replace p340 := eq_true p340
                        replace q340 := eq_true q340
                        refine start_ (n := 8) (S := fun w' => w'.cell? (ad338.add ((x5_1).toNat * 9)) = some (.int .i64 ((rd_T135 l0 x5_1).f0)) ∧ w'.cell? ⟨(ad338.add ((x5_1).toNat * 9)).block, (ad338.add ((x5_1).toNat * 9)).off + 1, none⟩ = some (.int .i64 ((rd_T135 l0 x5_1).f1)) ∧ w'.cell? ⟨(ad338.add ((x5_1).toNat * 9)).block, (ad338.add ((x5_1).toNat * 9)).off + 2, none⟩ = some (.string ((rd_T135 l0 x5_1).f2)) ∧ w'.cell? ⟨(ad338.add ((x5_1).toNat * 9)).block, (ad338.add ((x5_1).toNat * 9)).off + 3, none⟩ = some (.bool ((rd_T135 l0 x5_1).f3)) ∧ w'.cell? ⟨(ad338.add ((x5_1).toNat * 9)).block, (ad338.add ((x5_1).toNat * 9)).off + 4, none⟩ = some (.int .i64 ((rd_T135 l0 x5_1).f4)) ∧ w'.cell? ⟨(ad338.add ((x5_1).toNat * 9)).block, (ad338.add ((x5_1).toNat * 9)).off + 5, none⟩ = some (.int .i64 ((rd_T135 l0 x5_1).f5)) ∧ w'.cell? ⟨(ad338.add ((x5_1).toNat * 9)).block, (ad338.add ((x5_1).toNat * 9)).off + 6, none⟩ = some (.int .i64 ((rd_T135 l0 x5_1).f6)) ∧ w'.cell? ⟨(ad338.add ((x5_1).toNat * 9)).block, (ad338.add ((x5_1).toNat * 9)).off + 7, none⟩ = some (.slice A340_7 ((rd_T135 l0 x5_1).f7).length c340_7) ∧ w'.cell? ⟨(ad338.add ((x5_1).toNat * 9)).block, (ad338.add ((x5_1).toNat * 9)).off + 8, none⟩ = some (.int .i64 ((rd_T135 l0 x5_1).f8))) (ds := []) #[false, false, false, false, false, false, false, false] (by kernel_rfl) rfl rfl ⟨((HB.out.cell (World.block_lt_of_cell? w _ hw340_0)).trans hw340_0), ((HB.out.cell (World.block_lt_of_cell? w _ hw340_1)).trans hw340_1), ((HB.out.cell (World.block_lt_of_cell? w _ hw340_2)).trans hw340_2), ((HB.out.cell (World.block_lt_of_cell? w _ hw340_3)).trans hw340_3), ((HB.out.cell (World.block_lt_of_cell? w _ hw340_4)).trans hw340_4), ((HB.out.cell (World.block_lt_of_cell? w _ hw340_5)).trans hw340_5), ((HB.out.cell (World.block_lt_of_cell? w _ hw340_6)).trans hw340_6), ((HB.out.cell (World.block_lt_of_cell? w _ hw340_7)).trans hw340_7), ((HB.out.cell (World.block_lt_of_cell? w _ hw340_8)).trans hw340_8)⟩ (fun hHeld => ?_); refine with_tabW laws_heldInodeS.tab10 laws_heldInodeS.bits10 (fun HT_ HW_ => ?_)
                        generalize wr.drew = w24 at HB HR340_7 hx340_0 hx340_1 hx340_2 hx340_3 hx340_4 hx340_5 hx340_6 hx340_7 hx340_8 hHeld ⊢
                        refine pure_ (i := 0) (N := some 30) (v := ?_) (a' := ?_) #[true, false, false, false, false, false, false, false] rfl rfl (any_of HT_.out (by kernel_rfl)) (fun _ _ _ h => h) (Or.inl ⟨by rfl, ?_⟩) ?_ ?_
                        rotate_left
                        · intro w'
                          go_simp
                          with_reducible rfl
                        rotate_left
                        · simp only [Act.put, List.setIfInBounds_toArray, List.set_cons_zero, List.set_cons_succ, i64_w, i32_w]
                          rfl
                        refine pure_ (i := 1) (N := some 31) (v := ?_) (a' := ?_) #[true, true, false, false, false, false, false, false] rfl rfl (any_of HT_.out (by kernel_rfl)) (fun _ _ _ h => h) (Or.inl ⟨by rfl, ?_⟩) ?_ ?_
                        rotate_left
                        · intro w'
                          go_simp
                          with_reducible rfl
                        rotate_left
                        · simp only [Act.put, List.setIfInBounds_toArray, List.set_cons_zero, List.set_cons_succ, i64_w, i32_w]
                          rfl
                        refine pure_ (i := 2) (N := some 32) (v := ?_) (a' := ?_) #[true, true, true, false, false, false, false, false] rfl rfl (any_of HT_.out (by kernel_rfl)) (fun _ _ _ h => h) (Or.inl ⟨by rfl, ?_⟩) ?_ ?_
                        rotate_left
                        · intro w'
                          go_simp
                          with_reducible rfl
                        rotate_left
                        · simp only [Act.put, List.setIfInBounds_toArray, List.set_cons_zero, List.set_cons_succ, i64_w, i32_w]
                          rfl
                        refine pure_ (i := 3) (N := some 33) (v := ?_) (a' := ?_) #[true, true, true, true, false, false, false, false] rfl rfl (any_of HT_.out (by kernel_rfl)) (fun _ _ _ h => h) (Or.inl ⟨by rfl, ?_⟩) ?_ ?_
                        rotate_left
                        · intro w'
                          go_simp
                          with_reducible rfl
                        rotate_left
                        · simp only [Act.put, List.setIfInBounds_toArray, List.set_cons_zero, List.set_cons_succ, i64_w, i32_w]
                          rfl
                        refine pure_ (i := 5) (N := some 35) (v := ?_) (a' := ?_) #[true, true, true, true, false, true, false, false] rfl rfl (any_of HT_.out (by kernel_rfl)) (fun _ _ _ h => h) (Or.inl ⟨by rfl, ?_⟩) ?_ ?_
                        rotate_left
                        · intro w'
                          go_simp
                          with_reducible rfl
                        rotate_left
                        · simp only [Act.put, List.setIfInBounds_toArray, List.set_cons_zero, List.set_cons_succ, i64_w, i32_w]
                          rfl
                        refine take_ (i := 4) (N := some 34) (v := ?_) (a' := ?_) #[true, true, true, true, true, true, false, false] rfl rfl (take_ofW HT_.out HW_.out (by kernel_rfl)) (fun _ _ _ h => h) (Or.inl ⟨by rfl, ?_⟩) hHeld ?_ ?_
                        rotate_left
                        · rintro w' ⟨s0, s1, s2, s3, s4, s5, s6, s7, s8⟩
                          go_simp
                          with_reducible rfl
                        rotate_left
                        · simp only [Act.put, List.setIfInBounds_toArray, List.set_cons_zero, List.set_cons_succ, i64_w, i32_w]
                          rfl
                        refine one_ (i := 6) (N := some 36) #[true, true, true, true, true, true, true, false] rfl rfl (one_of HT_.out (by kernel_rfl)) (by decide) (fun K hK => ?_)
                        refine goes_ Try.func60 (by kernel_rfl) rfl #[.int .i64 (wrap64 ((wrap64 (x1_1 + 1)) + 1))] (by rfl) rfl rfl (by (try simp only [List.map_toArray, List.map_cons, List.map_nil]); first | done | rfl | (simp only [List.length_drop, List.length_take]; rfl)) ?_
                        with_reducible refine (laws_markText.calls k1 (wrap64 ((wrap64 (x1_1 + 1)) + 1)) t341 _ A7.out).mono ?_
                        rintro e w25 ⟨rfl, hb⟩
                        refine ⟨_, rfl, ?_⟩
                        have n0_ := Aside0.mk (below_step (BB HB.out) hb)
                        clear HB
                        have HB := n0_
                        clear n0_
                        (try clear hb)
                        (try clear hb2)
                        (try clear hk)
                        (try clear hi)
                        refine hK.out _ _ ⟨((HB.out.cell (World.block_lt_of_cell? w _ hw340_0)).trans hw340_0), ((HB.out.cell (World.block_lt_of_cell? w _ hw340_1)).trans hw340_1), ((HB.out.cell (World.block_lt_of_cell? w _ hw340_2)).trans hw340_2), ((HB.out.cell (World.block_lt_of_cell? w _ hw340_3)).trans hw340_3), ((HB.out.cell (World.block_lt_of_cell? w _ hw340_4)).trans hw340_4), ((HB.out.cell (World.block_lt_of_cell? w _ hw340_5)).trans hw340_5), ((HB.out.cell (World.block_lt_of_cell? w _ hw340_6)).trans hw340_6), ((HB.out.cell (World.block_lt_of_cell? w _ hw340_7)).trans hw340_7), ((HB.out.cell (World.block_lt_of_cell? w _ hw340_8)).trans hw340_8)⟩ (fun hHeld => ?_)
                        clear hK K
                        refine norm_ (a' := ?_) ?_ ?_
                        rotate_left
                        · show Act.put _ (some 36) _ = _
                          simp only [Act.put, List.setIfInBounds_toArray, List.set_cons_zero, List.set_cons_succ, i64_w, i32_w]
                          rfl
                        refine pure_ (i := 7) (N := some 37) (v := ?_) (a' := ?_) #[true, true, true, true, true, true, true, true] rfl rfl (any_of HT_.out (by kernel_rfl)) (fun _ _ _ h => h) (Or.inl ⟨by rfl, ?_⟩) ?_ ?_
                        rotate_left
                        · intro w'
                          go_simp
                          with_reducible rfl
                        rotate_left
                        · simp only [Act.put, List.setIfInBounds_toArray, List.set_cons_zero, List.set_cons_succ, i64_w, i32_w]
                          rfl
                        refine done_ (done_of HT_.out (by kernel_rfl)) ?_
                        have p342 : 0 ≤ (x5_1 : Int) := DT
                        have q342 : x5_1 < (l0.length : Int) := DT
                        obtain ⟨ad342, A342_7, c342_7, e342, hx342_0, hx342_1, hx342_2, hx342_3, hx342_4, hx342_5, hx342_6, hx342_7, hx342_8, hl342_7, hi342_7⟩ := at_T135 HR0.out x5_1 p342 q342
                        obtain rfl : ad338 = ad342 := (by injection e342)
                        replace hx342_0 := (HB.out.cell (World.block_lt_of_cell? w _ hx342_0)).trans hx342_0
                        replace hx342_1 := (HB.out.cell (World.block_lt_of_cell? w _ hx342_1)).trans hx342_1
                        replace hx342_2 := (HB.out.cell (World.block_lt_of_cell? w _ hx342_2)).trans hx342_2
                        replace hx342_3 := (HB.out.cell (World.block_lt_of_cell? w _ hx342_3)).trans hx342_3
                        replace hx342_4 := (HB.out.cell (World.block_lt_of_cell? w _ hx342_4)).trans hx342_4
                        replace hx342_5 := (HB.out.cell (World.block_lt_of_cell? w _ hx342_5)).trans hx342_5
                        replace hx342_6 := (HB.out.cell (World.block_lt_of_cell? w _ hx342_6)).trans hx342_6
                        replace hx342_7 := (HB.out.cell (World.block_lt_of_cell? w _ hx342_7)).trans hx342_7
                        replace hx342_8 := (HB.out.cell (World.block_lt_of_cell? w _ hx342_8)).trans hx342_8
                        have HR342_7 := Aside0.mk hi342_7
                        have HC342_7 := Aside0.mk hl342_7
                        clear hi342_7 hl342_7
                        replace p342 := eq_true p342
                        replace q342 := eq_true q342
                        have ea_ := Option.some.inj (hx342_7.symm.trans ((HB.out.cell (World.block_lt_of_cell? w _ hw340_7)).trans hw340_7))
                        injection ea_ with ea_ en_ ec_
                        subst ea_
                        subst ec_
                        clear en_
                        have p343 : 0 ≤ (x5_1 : Int) := DT
                        have q343 : x5_1 < (l0.length : Int) := DT
                        obtain ⟨ad343, A343_7, c343_7, e343, hx343_0, hx343_1, hx343_2, hx343_3, hx343_4, hx343_5, hx343_6, hx343_7, hx343_8, hl343_7, hi343_7⟩ := at_T135 HR0.out x5_1 p343 q343
                        obtain rfl : ad338 = ad343 := (by injection e343)
                        replace hx343_0 := (HB.out.cell (World.block_lt_of_cell? w _ hx343_0)).trans hx343_0
                        replace hx343_1 := (HB.out.cell (World.block_lt_of_cell? w _ hx343_1)).trans hx343_1
                        replace hx343_2 := (HB.out.cell (World.block_lt_of_cell? w _ hx343_2)).trans hx343_2
                        replace hx343_3 := (HB.out.cell (World.block_lt_of_cell? w _ hx343_3)).trans hx343_3
                        replace hx343_4 := (HB.out.cell (World.block_lt_of_cell? w _ hx343_4)).trans hx343_4
                        replace hx343_5 := (HB.out.cell (World.block_lt_of_cell? w _ hx343_5)).trans hx343_5
                        replace hx343_6 := (HB.out.cell (World.block_lt_of_cell? w _ hx343_6)).trans hx343_6
                        replace hx343_7 := (HB.out.cell (World.block_lt_of_cell? w _ hx343_7)).trans hx343_7
                        replace hx343_8 := (HB.out.cell (World.block_lt_of_cell? w _ hx343_8)).trans hx343_8
                        have HR343_7 := Aside0.mk hi343_7
                        have HC343_7 := Aside0.mk hl343_7
                        clear hi343_7 hl343_7
                        replace p343 := eq_true p343
                        replace q343 := eq_true q343
                        have ea_ := Option.some.inj (hx342_7.symm.trans hx343_7)
                        injection ea_ with ea_ en_ ec_
                        subst ea_
                        subst ec_
                        clear en_
                        have p344 : 0 ≤ (x5_1 : Int) := DT
                        have q344 : x5_1 < (l0.length : Int) := DT
                        obtain ⟨ad344, A344_7, c344_7, e344, hx344_0, hx344_1, hx344_2, hx344_3, hx344_4, hx344_5, hx344_6, hx344_7, hx344_8, hl344_7, hi344_7⟩ := at_T135 HR0.out x5_1 p344 q344
                        obtain rfl : ad338 = ad344 := (by injection e344)
                        replace hx344_0 := (HB.out.cell (World.block_lt_of_cell? w _ hx344_0)).trans hx344_0
                        replace hx344_1 := (HB.out.cell (World.block_lt_of_cell? w _ hx344_1)).trans hx344_1
                        replace hx344_2 := (HB.out.cell (World.block_lt_of_cell? w _ hx344_2)).trans hx344_2
                        replace hx344_3 := (HB.out.cell (World.block_lt_of_cell? w _ hx344_3)).trans hx344_3
                        replace hx344_4 := (HB.out.cell (World.block_lt_of_cell? w _ hx344_4)).trans hx344_4
                        replace hx344_5 := (HB.out.cell (World.block_lt_of_cell? w _ hx344_5)).trans hx344_5
                        replace hx344_6 := (HB.out.cell (World.block_lt_of_cell? w _ hx344_6)).trans hx344_6
                        replace hx344_7 := (HB.out.cell (World.block_lt_of_cell? w _ hx344_7)).trans hx344_7
                        replace hx344_8 := (HB.out.cell (World.block_lt_of_cell? w _ hx344_8)).trans hx344_8
                        have HR344_7 := Aside0.mk hi344_7
                        have HC344_7 := Aside0.mk hl344_7
                        clear hi344_7 hl344_7
                        replace p344 := eq_true p344
                        replace q344 := eq_true q344
                        have ea_ := Option.some.inj (hx342_7.symm.trans hx344_7)
                        injection ea_ with ea_ en_ ec_
                        subst ea_
                        subst ec_
                        clear en_
                        have p345 : 0 ≤ (x5_1 : Int) := DT
                        have q345 : x5_1 < (l0.length : Int) := DT
                        obtain ⟨ad345, A345_7, c345_7, e345, hx345_0, hx345_1, hx345_2, hx345_3, hx345_4, hx345_5, hx345_6, hx345_7, hx345_8, hl345_7, hi345_7⟩ := at_T135 HR0.out x5_1 p345 q345
                        obtain rfl : ad338 = ad345 := (by injection e345)
                        replace hx345_0 := (HB.out.cell (World.block_lt_of_cell? w _ hx345_0)).trans hx345_0
                        replace hx345_1 := (HB.out.cell (World.block_lt_of_cell? w _ hx345_1)).trans hx345_1
                        replace hx345_2 := (HB.out.cell (World.block_lt_of_cell? w _ hx345_2)).trans hx345_2
                        replace hx345_3 := (HB.out.cell (World.block_lt_of_cell? w _ hx345_3)).trans hx345_3
                        replace hx345_4 := (HB.out.cell (World.block_lt_of_cell? w _ hx345_4)).trans hx345_4
                        replace hx345_5 := (HB.out.cell (World.block_lt_of_cell? w _ hx345_5)).trans hx345_5
                        replace hx345_6 := (HB.out.cell (World.block_lt_of_cell? w _ hx345_6)).trans hx345_6
                        replace hx345_7 := (HB.out.cell (World.block_lt_of_cell? w _ hx345_7)).trans hx345_7
                        replace hx345_8 := (HB.out.cell (World.block_lt_of_cell? w _ hx345_8)).trans hx345_8
                        have HR345_7 := Aside0.mk hi345_7
                        have HC345_7 := Aside0.mk hl345_7
                        clear hi345_7 hl345_7
                        replace p345 := eq_true p345
                        replace q345 := eq_true q345
                        have ea_ := Option.some.inj (hx342_7.symm.trans hx345_7)
                        injection ea_ with ea_ en_ ec_
                        subst ea_
                        subst ec_
                        clear en_
                        try go_wp2
                        go_ret
                        exact ⟨ER, (BB HB.out)⟩
                    · rw [if_neg c13] at H
                      have c13b0 : (((rd_T135 l0 x5_1).f5) == (wrap64 ((wrap64 ((wrap64 ((wrap64 ((wrap64 (x1_1 + 1)) + 1)) + 1)) + 1)) + 1))) = false := beq_eq_false_iff_ne.mpr c13
                      have c13b1 : (((rd_T135 l0 x5_1).f5) != (wrap64 ((wrap64 ((wrap64 ((wrap64 ((wrap64 (x1_1 + 1)) + 1)) + 1)) + 1)) + 1))) = true := bne_iff_ne.mpr c13
                      obtain rfl := Option.some.inj H
                      have p338 : 0 ≤ (x5_1 : Int) := DT
                      have q338 : x5_1 < (l0.length : Int) := DT
                      obtain ⟨ad338, A338_7, c338_7, e338, hx338_0, hx338_1, hx338_2, hx338_3, hx338_4, hx338_5, hx338_6, hx338_7, hx338_8, hl338_7, hi338_7⟩ := at_T135 HR0.out x5_1 p338 q338
                      cases e338
                      replace hx338_0 := (HB.out.cell (World.block_lt_of_cell? w _ hx338_0)).trans hx338_0
                      replace hx338_1 := (HB.out.cell (World.block_lt_of_cell? w _ hx338_1)).trans hx338_1
                      replace hx338_2 := (HB.out.cell (World.block_lt_of_cell? w _ hx338_2)).trans hx338_2
                      replace hx338_3 := (HB.out.cell (World.block_lt_of_cell? w _ hx338_3)).trans hx338_3
                      replace hx338_4 := (HB.out.cell (World.block_lt_of_cell? w _ hx338_4)).trans hx338_4
                      replace hx338_5 := (HB.out.cell (World.block_lt_of_cell? w _ hx338_5)).trans hx338_5
                      replace hx338_6 := (HB.out.cell (World.block_lt_of_cell? w _ hx338_6)).trans hx338_6
                      replace hx338_7 := (HB.out.cell (World.block_lt_of_cell? w _ hx338_7)).trans hx338_7
                      replace hx338_8 := (HB.out.cell (World.block_lt_of_cell? w _ hx338_8)).trans hx338_8
                      have HR338_7 := Aside0.mk hi338_7
                      have HC338_7 := Aside0.mk hl338_7
                      clear hi338_7 hl338_7
                      replace p338 := eq_true p338
                      replace q338 := eq_true q338
                      have p339 : 0 ≤ (x5_1 : Int) := DT
                      have q339 : x5_1 < (l0.length : Int) := DT
                      obtain ⟨ad339, A339_7, c339_7, e339, hx339_0, hx339_1, hx339_2, hx339_3, hx339_4, hx339_5, hx339_6, hx339_7, hx339_8, hl339_7, hi339_7⟩ := at_T135 HR0.out x5_1 p339 q339
                      obtain rfl : ad338 = ad339 := (by injection e339)
                      replace hx339_0 := (HB.out.cell (World.block_lt_of_cell? w _ hx339_0)).trans hx339_0
                      replace hx339_1 := (HB.out.cell (World.block_lt_of_cell? w _ hx339_1)).trans hx339_1
                      replace hx339_2 := (HB.out.cell (World.block_lt_of_cell? w _ hx339_2)).trans hx339_2
                      replace hx339_3 := (HB.out.cell (World.block_lt_of_cell? w _ hx339_3)).trans hx339_3
                      replace hx339_4 := (HB.out.cell (World.block_lt_of_cell? w _ hx339_4)).trans hx339_4
                      replace hx339_5 := (HB.out.cell (World.block_lt_of_cell? w _ hx339_5)).trans hx339_5
                      replace hx339_6 := (HB.out.cell (World.block_lt_of_cell? w _ hx339_6)).trans hx339_6
                      replace hx339_7 := (HB.out.cell (World.block_lt_of_cell? w _ hx339_7)).trans hx339_7
                      replace hx339_8 := (HB.out.cell (World.block_lt_of_cell? w _ hx339_8)).trans hx339_8
                      have HR339_7 := Aside0.mk hi339_7
                      have HC339_7 := Aside0.mk hl339_7
                      clear hi339_7 hl339_7
                      replace p339 := eq_true p339
                      replace q339 := eq_true q339
                      have ea_ := Option.some.inj (hx338_7.symm.trans hx339_7)
                      injection ea_ with ea_ en_ ec_
                      subst ea_
                      subst ec_
                      clear en_
                      try go_wp2
                      have n0_ := Aside0.mk (below_drew1 HB.out)
                      clear HB
                      have HB := n0_
                      clear n0_
                      have p340 : 0 ≤ (x5_1 : Int) := DT
                      have q340 : x5_1 < (l0.length : Int) := DT
                      obtain ⟨ad340, A340_7, c340_7, e340, hx340_0, hx340_1, hx340_2, hx340_3, hx340_4, hx340_5, hx340_6, hx340_7, hx340_8, hl340_7, hi340_7⟩ := at_T135 HR0.out x5_1 p340 q340
                      have hw340_8 := hx340_8
                      have hw340_7 := hx340_7
                      have hw340_6 := hx340_6
                      have hw340_5 := hx340_5
                      have hw340_4 := hx340_4
                      have hw340_3 := hx340_3
                      have hw340_2 := hx340_2
                      have hw340_1 := hx340_1
                      have hw340_0 := hx340_0
                      obtain rfl : ad338 = ad340 := (by injection e340)
                      replace hx340_0 := (HB.out.cell (World.block_lt_of_cell? w _ hx340_0)).trans hx340_0
                      replace hx340_1 := (HB.out.cell (World.block_lt_of_cell? w _ hx340_1)).trans hx340_1
                      replace hx340_2 := (HB.out.cell (World.block_lt_of_cell? w _ hx340_2)).trans hx340_2
                      replace hx340_3 := (HB.out.cell (World.block_lt_of_cell? w _ hx340_3)).trans hx340_3
                      replace hx340_4 := (HB.out.cell (World.block_lt_of_cell? w _ hx340_4)).trans hx340_4
                      replace hx340_5 := (HB.out.cell (World.block_lt_of_cell? w _ hx340_5)).trans hx340_5
                      replace hx340_6 := (HB.out.cell (World.block_lt_of_cell? w _ hx340_6)).trans hx340_6
                      replace hx340_7 := (HB.out.cell (World.block_lt_of_cell? w _ hx340_7)).trans hx340_7
                      replace hx340_8 := (HB.out.cell (World.block_lt_of_cell? w _ hx340_8)).trans hx340_8
                      have HR340_7 := Aside0.mk hi340_7
                      have HC340_7 := Aside0.mk hl340_7
                      clear hi340_7 hl340_7
                      replace p340 := eq_true p340
                      replace q340 := eq_true q340
                      refine start_ (n := 8) (S := fun w' => w'.cell? (ad338.add ((x5_1).toNat * 9)) = some (.int .i64 ((rd_T135 l0 x5_1).f0)) ∧ w'.cell? ⟨(ad338.add ((x5_1).toNat * 9)).block, (ad338.add ((x5_1).toNat * 9)).off + 1, none⟩ = some (.int .i64 ((rd_T135 l0 x5_1).f1)) ∧ w'.cell? ⟨(ad338.add ((x5_1).toNat * 9)).block, (ad338.add ((x5_1).toNat * 9)).off + 2, none⟩ = some (.string ((rd_T135 l0 x5_1).f2)) ∧ w'.cell? ⟨(ad338.add ((x5_1).toNat * 9)).block, (ad338.add ((x5_1).toNat * 9)).off + 3, none⟩ = some (.bool ((rd_T135 l0 x5_1).f3)) ∧ w'.cell? ⟨(ad338.add ((x5_1).toNat * 9)).block, (ad338.add ((x5_1).toNat * 9)).off + 4, none⟩ = some (.int .i64 ((rd_T135 l0 x5_1).f4)) ∧ w'.cell? ⟨(ad338.add ((x5_1).toNat * 9)).block, (ad338.add ((x5_1).toNat * 9)).off + 5, none⟩ = some (.int .i64 ((rd_T135 l0 x5_1).f5)) ∧ w'.cell? ⟨(ad338.add ((x5_1).toNat * 9)).block, (ad338.add ((x5_1).toNat * 9)).off + 6, none⟩ = some (.int .i64 ((rd_T135 l0 x5_1).f6)) ∧ w'.cell? ⟨(ad338.add ((x5_1).toNat * 9)).block, (ad338.add ((x5_1).toNat * 9)).off + 7, none⟩ = some (.slice A340_7 ((rd_T135 l0 x5_1).f7).length c340_7) ∧ w'.cell? ⟨(ad338.add ((x5_1).toNat * 9)).block, (ad338.add ((x5_1).toNat * 9)).off + 8, none⟩ = some (.int .i64 ((rd_T135 l0 x5_1).f8))) (ds := []) #[false, false, false, false, false, false, false, false] (by kernel_rfl) rfl rfl ⟨((HB.out.cell (World.block_lt_of_cell? w _ hw340_0)).trans hw340_0), ((HB.out.cell (World.block_lt_of_cell? w _ hw340_1)).trans hw340_1), ((HB.out.cell (World.block_lt_of_cell? w _ hw340_2)).trans hw340_2), ((HB.out.cell (World.block_lt_of_cell? w _ hw340_3)).trans hw340_3), ((HB.out.cell (World.block_lt_of_cell? w _ hw340_4)).trans hw340_4), ((HB.out.cell (World.block_lt_of_cell? w _ hw340_5)).trans hw340_5), ((HB.out.cell (World.block_lt_of_cell? w _ hw340_6)).trans hw340_6), ((HB.out.cell (World.block_lt_of_cell? w _ hw340_7)).trans hw340_7), ((HB.out.cell (World.block_lt_of_cell? w _ hw340_8)).trans hw340_8)⟩ (fun hHeld => ?_); refine with_tabW laws_heldInodeS.tab10 laws_heldInodeS.bits10 (fun HT_ HW_ => ?_)
                      generalize wr.drew = w26 at HB HR340_7 hx340_0 hx340_1 hx340_2 hx340_3 hx340_4 hx340_5 hx340_6 hx340_7 hx340_8 hHeld ⊢
                      refine pure_ (i := 0) (N := some 30) (v := ?_) (a' := ?_) #[true, false, false, false, false, false, false, false] rfl rfl (any_of HT_.out (by kernel_rfl)) (fun _ _ _ h => h) (Or.inl ⟨by rfl, ?_⟩) ?_ ?_
                      rotate_left
                      · intro w'
                        go_simp
                        with_reducible rfl
                      rotate_left
                      · simp only [Act.put, List.setIfInBounds_toArray, List.set_cons_zero, List.set_cons_succ, i64_w, i32_w]
                        rfl
                      refine pure_ (i := 1) (N := some 31) (v := ?_) (a' := ?_) #[true, true, false, false, false, false, false, false] rfl rfl (any_of HT_.out (by kernel_rfl)) (fun _ _ _ h => h) (Or.inl ⟨by rfl, ?_⟩) ?_ ?_
                      rotate_left
                      · intro w'
                        go_simp
                        with_reducible rfl
                      rotate_left
                      · simp only [Act.put, List.setIfInBounds_toArray, List.set_cons_zero, List.set_cons_succ, i64_w, i32_w]
                        rfl
                      refine pure_ (i := 2) (N := some 32) (v := ?_) (a' := ?_) #[true, true, true, false, false, false, false, false] rfl rfl (any_of HT_.out (by kernel_rfl)) (fun _ _ _ h => h) (Or.inl ⟨by rfl, ?_⟩) ?_ ?_
                      rotate_left
                      · intro w'
                        go_simp
                        with_reducible rfl
                      rotate_left
                      · simp only [Act.put, List.setIfInBounds_toArray, List.set_cons_zero, List.set_cons_succ, i64_w, i32_w]
                        rfl
                      refine pure_ (i := 3) (N := some 33) (v := ?_) (a' := ?_) #[true, true, true, true, false, false, false, false] rfl rfl (any_of HT_.out (by kernel_rfl)) (fun _ _ _ h => h) (Or.inl ⟨by rfl, ?_⟩) ?_ ?_
                      rotate_left
                      · intro w'
                        go_simp
                        with_reducible rfl
                      rotate_left
                      · simp only [Act.put, List.setIfInBounds_toArray, List.set_cons_zero, List.set_cons_succ, i64_w, i32_w]
                        rfl
                      refine pure_ (i := 5) (N := some 35) (v := ?_) (a' := ?_) #[true, true, true, true, false, true, false, false] rfl rfl (any_of HT_.out (by kernel_rfl)) (fun _ _ _ h => h) (Or.inl ⟨by rfl, ?_⟩) ?_ ?_
                      rotate_left
                      · intro w'
                        go_simp
                        with_reducible rfl
                      rotate_left
                      · simp only [Act.put, List.setIfInBounds_toArray, List.set_cons_zero, List.set_cons_succ, i64_w, i32_w]
                        rfl
                      refine take_ (i := 4) (N := some 34) (v := ?_) (a' := ?_) #[true, true, true, true, true, true, false, false] rfl rfl (take_ofW HT_.out HW_.out (by kernel_rfl)) (fun _ _ _ h => h) (Or.inl ⟨by rfl, ?_⟩) hHeld ?_ ?_
                      rotate_left
                      · rintro w' ⟨s0, s1, s2, s3, s4, s5, s6, s7, s8⟩
                        go_simp
                        with_reducible rfl
                      rotate_left
                      · simp only [Act.put, List.setIfInBounds_toArray, List.set_cons_zero, List.set_cons_succ, i64_w, i32_w]
                        rfl
                      refine one_ (i := 6) (N := some 36) #[true, true, true, true, true, true, true, false] rfl rfl (one_of HT_.out (by kernel_rfl)) (by decide) (fun K hK => ?_)
                      refine goes_ Try.func60 (by kernel_rfl) rfl #[.int .i64 (wrap64 ((wrap64 (x1_1 + 1)) + 1))] (by rfl) rfl rfl (by (try simp only [List.map_toArray, List.map_cons, List.map_nil]); first | done | rfl | (simp only [List.length_drop, List.length_take]; rfl)) ?_
                      with_reducible refine (laws_markText.calls k1 (wrap64 ((wrap64 (x1_1 + 1)) + 1)) t341 _ A7.out).mono ?_
                      rintro e w27 ⟨rfl, hb⟩
                      refine ⟨_, rfl, ?_⟩
                      have n0_ := Aside0.mk (below_step (BB HB.out) hb)
                      clear HB
                      have HB := n0_
                      clear n0_
                      (try clear hb)
                      (try clear hb2)
                      (try clear hk)
                      (try clear hi)
                      refine hK.out _ _ ⟨((HB.out.cell (World.block_lt_of_cell? w _ hw340_0)).trans hw340_0), ((HB.out.cell (World.block_lt_of_cell? w _ hw340_1)).trans hw340_1), ((HB.out.cell (World.block_lt_of_cell? w _ hw340_2)).trans hw340_2), ((HB.out.cell (World.block_lt_of_cell? w _ hw340_3)).trans hw340_3), ((HB.out.cell (World.block_lt_of_cell? w _ hw340_4)).trans hw340_4), ((HB.out.cell (World.block_lt_of_cell? w _ hw340_5)).trans hw340_5), ((HB.out.cell (World.block_lt_of_cell? w _ hw340_6)).trans hw340_6), ((HB.out.cell (World.block_lt_of_cell? w _ hw340_7)).trans hw340_7), ((HB.out.cell (World.block_lt_of_cell? w _ hw340_8)).trans hw340_8)⟩ (fun hHeld => ?_)
                      clear hK K
                      refine norm_ (a' := ?_) ?_ ?_
                      rotate_left
                      · show Act.put _ (some 36) _ = _
                        simp only [Act.put, List.setIfInBounds_toArray, List.set_cons_zero, List.set_cons_succ, i64_w, i32_w]
                        rfl
                      refine pure_ (i := 7) (N := some 37) (v := ?_) (a' := ?_) #[true, true, true, true, true, true, true, true] rfl rfl (any_of HT_.out (by kernel_rfl)) (fun _ _ _ h => h) (Or.inl ⟨by rfl, ?_⟩) ?_ ?_
                      rotate_left
                      · intro w'
                        go_simp
                        with_reducible rfl
                      rotate_left
                      · simp only [Act.put, List.setIfInBounds_toArray, List.set_cons_zero, List.set_cons_succ, i64_w, i32_w]
                        rfl
                      refine done_ (done_of HT_.out (by kernel_rfl)) ?_
                      have p342 : 0 ≤ (x5_1 : Int) := DT
                      have q342 : x5_1 < (l0.length : Int) := DT
                      obtain ⟨ad342, A342_7, c342_7, e342, hx342_0, hx342_1, hx342_2, hx342_3, hx342_4, hx342_5, hx342_6, hx342_7, hx342_8, hl342_7, hi342_7⟩ := at_T135 HR0.out x5_1 p342 q342
                      obtain rfl : ad338 = ad342 := (by injection e342)
                      replace hx342_0 := (HB.out.cell (World.block_lt_of_cell? w _ hx342_0)).trans hx342_0
                      replace hx342_1 := (HB.out.cell (World.block_lt_of_cell? w _ hx342_1)).trans hx342_1
                      replace hx342_2 := (HB.out.cell (World.block_lt_of_cell? w _ hx342_2)).trans hx342_2
                      replace hx342_3 := (HB.out.cell (World.block_lt_of_cell? w _ hx342_3)).trans hx342_3
                      replace hx342_4 := (HB.out.cell (World.block_lt_of_cell? w _ hx342_4)).trans hx342_4
                      replace hx342_5 := (HB.out.cell (World.block_lt_of_cell? w _ hx342_5)).trans hx342_5
                      replace hx342_6 := (HB.out.cell (World.block_lt_of_cell? w _ hx342_6)).trans hx342_6
                      replace hx342_7 := (HB.out.cell (World.block_lt_of_cell? w _ hx342_7)).trans hx342_7
                      replace hx342_8 := (HB.out.cell (World.block_lt_of_cell? w _ hx342_8)).trans hx342_8
                      have HR342_7 := Aside0.mk hi342_7
                      have HC342_7 := Aside0.mk hl342_7
                      clear hi342_7 hl342_7
                      replace p342 := eq_true p342
                      replace q342 := eq_true q342
                      have ea_ := Option.some.inj (hx342_7.symm.trans ((HB.out.cell (World.block_lt_of_cell? w _ hw340_7)).trans hw340_7))
                      injection ea_ with ea_ en_ ec_
                      subst ea_
                      subst ec_
                      clear en_
                      have p343 : 0 ≤ (x5_1 : Int) := DT
                      have q343 : x5_1 < (l0.length : Int) := DT
                      obtain ⟨ad343, A343_7, c343_7, e343, hx343_0, hx343_1, hx343_2, hx343_3, hx343_4, hx343_5, hx343_6, hx343_7, hx343_8, hl343_7, hi343_7⟩ := at_T135 HR0.out x5_1 p343 q343
                      obtain rfl : ad338 = ad343 := (by injection e343)
                      replace hx343_0 := (HB.out.cell (World.block_lt_of_cell? w _ hx343_0)).trans hx343_0
                      replace hx343_1 := (HB.out.cell (World.block_lt_of_cell? w _ hx343_1)).trans hx343_1
                      replace hx343_2 := (HB.out.cell (World.block_lt_of_cell? w _ hx343_2)).trans hx343_2
                      replace hx343_3 := (HB.out.cell (World.block_lt_of_cell? w _ hx343_3)).trans hx343_3
                      replace hx343_4 := (HB.out.cell (World.block_lt_of_cell? w _ hx343_4)).trans hx343_4
                      replace hx343_5 := (HB.out.cell (World.block_lt_of_cell? w _ hx343_5)).trans hx343_5
                      replace hx343_6 := (HB.out.cell (World.block_lt_of_cell? w _ hx343_6)).trans hx343_6
                      replace hx343_7 := (HB.out.cell (World.block_lt_of_cell? w _ hx343_7)).trans hx343_7
                      replace hx343_8 := (HB.out.cell (World.block_lt_of_cell? w _ hx343_8)).trans hx343_8
                      have HR343_7 := Aside0.mk hi343_7
                      have HC343_7 := Aside0.mk hl343_7
                      clear hi343_7 hl343_7
                      replace p343 := eq_true p343
                      replace q343 := eq_true q343
                      have ea_ := Option.some.inj (hx342_7.symm.trans hx343_7)
                      injection ea_ with ea_ en_ ec_
                      subst ea_
                      subst ec_
                      clear en_
                      have p344 : 0 ≤ (x5_1 : Int) := DT
                      have q344 : x5_1 < (l0.length : Int) := DT
                      obtain ⟨ad344, A344_7, c344_7, e344, hx344_0, hx344_1, hx344_2, hx344_3, hx344_4, hx344_5, hx344_6, hx344_7, hx344_8, hl344_7, hi344_7⟩ := at_T135 HR0.out x5_1 p344 q344
                      obtain rfl : ad338 = ad344 := (by injection e344)
                      replace hx344_0 := (HB.out.cell (World.block_lt_of_cell? w _ hx344_0)).trans hx344_0
                      replace hx344_1 := (HB.out.cell (World.block_lt_of_cell? w _ hx344_1)).trans hx344_1
                      replace hx344_2 := (HB.out.cell (World.block_lt_of_cell? w _ hx344_2)).trans hx344_2
                      replace hx344_3 := (HB.out.cell (World.block_lt_of_cell? w _ hx344_3)).trans hx344_3
                      replace hx344_4 := (HB.out.cell (World.block_lt_of_cell? w _ hx344_4)).trans hx344_4
                      replace hx344_5 := (HB.out.cell (World.block_lt_of_cell? w _ hx344_5)).trans hx344_5
                      replace hx344_6 := (HB.out.cell (World.block_lt_of_cell? w _ hx344_6)).trans hx344_6
                      replace hx344_7 := (HB.out.cell (World.block_lt_of_cell? w _ hx344_7)).trans hx344_7
                      replace hx344_8 := (HB.out.cell (World.block_lt_of_cell? w _ hx344_8)).trans hx344_8
                      have HR344_7 := Aside0.mk hi344_7
                      have HC344_7 := Aside0.mk hl344_7
                      clear hi344_7 hl344_7
                      replace p344 := eq_true p344
                      replace q344 := eq_true q344
                      have ea_ := Option.some.inj (hx342_7.symm.trans hx344_7)
                      injection ea_ with ea_ en_ ec_
                      subst ea_
                      subst ec_
                      clear en_
                      try go_wp2
                      go_ret
                      exact ⟨ER, (BB HB.out)⟩
                  · rw [if_neg c12] at H
                    have c12b0 : (((rd_T135 l0 x5_1).f4) == (wrap64 ((wrap64 ((wrap64 ((wrap64 (x1_1 + 1)) + 1)) + 1)) + 1))) = false := beq_eq_false_iff_ne.mpr c12
                    have c12b1 : (((rd_T135 l0 x5_1).f4) != (wrap64 ((wrap64 ((wrap64 ((wrap64 (x1_1 + 1)) + 1)) + 1)) + 1))) = true := bne_iff_ne.mpr c12
                    obtain rfl := Option.some.inj H
                    have p338 : 0 ≤ (x5_1 : Int) := DT
                    have q338 : x5_1 < (l0.length : Int) := DT
                    obtain ⟨ad338, A338_7, c338_7, e338, hx338_0, hx338_1, hx338_2, hx338_3, hx338_4, hx338_5, hx338_6, hx338_7, hx338_8, hl338_7, hi338_7⟩ := at_T135 HR0.out x5_1 p338 q338
                    cases e338
                    replace hx338_0 := (HB.out.cell (World.block_lt_of_cell? w _ hx338_0)).trans hx338_0
                    replace hx338_1 := (HB.out.cell (World.block_lt_of_cell? w _ hx338_1)).trans hx338_1
                    replace hx338_2 := (HB.out.cell (World.block_lt_of_cell? w _ hx338_2)).trans hx338_2
                    replace hx338_3 := (HB.out.cell (World.block_lt_of_cell? w _ hx338_3)).trans hx338_3
                    replace hx338_4 := (HB.out.cell (World.block_lt_of_cell? w _ hx338_4)).trans hx338_4
                    replace hx338_5 := (HB.out.cell (World.block_lt_of_cell? w _ hx338_5)).trans hx338_5
                    replace hx338_6 := (HB.out.cell (World.block_lt_of_cell? w _ hx338_6)).trans hx338_6
                    replace hx338_7 := (HB.out.cell (World.block_lt_of_cell? w _ hx338_7)).trans hx338_7
                    replace hx338_8 := (HB.out.cell (World.block_lt_of_cell? w _ hx338_8)).trans hx338_8
                    have HR338_7 := Aside0.mk hi338_7
                    have HC338_7 := Aside0.mk hl338_7
                    clear hi338_7 hl338_7
                    replace p338 := eq_true p338
                    replace q338 := eq_true q338
                    have p339 : 0 ≤ (x5_1 : Int) := DT
                    have q339 : x5_1 < (l0.length : Int) := DT
                    obtain ⟨ad339, A339_7, c339_7, e339, hx339_0, hx339_1, hx339_2, hx339_3, hx339_4, hx339_5, hx339_6, hx339_7, hx339_8, hl339_7, hi339_7⟩ := at_T135 HR0.out x5_1 p339 q339
                    obtain rfl : ad338 = ad339 := (by injection e339)
                    replace hx339_0 := (HB.out.cell (World.block_lt_of_cell? w _ hx339_0)).trans hx339_0
                    replace hx339_1 := (HB.out.cell (World.block_lt_of_cell? w _ hx339_1)).trans hx339_1
                    replace hx339_2 := (HB.out.cell (World.block_lt_of_cell? w _ hx339_2)).trans hx339_2
                    replace hx339_3 := (HB.out.cell (World.block_lt_of_cell? w _ hx339_3)).trans hx339_3
                    replace hx339_4 := (HB.out.cell (World.block_lt_of_cell? w _ hx339_4)).trans hx339_4
                    replace hx339_5 := (HB.out.cell (World.block_lt_of_cell? w _ hx339_5)).trans hx339_5
                    replace hx339_6 := (HB.out.cell (World.block_lt_of_cell? w _ hx339_6)).trans hx339_6
                    replace hx339_7 := (HB.out.cell (World.block_lt_of_cell? w _ hx339_7)).trans hx339_7
                    replace hx339_8 := (HB.out.cell (World.block_lt_of_cell? w _ hx339_8)).trans hx339_8
                    have HR339_7 := Aside0.mk hi339_7
                    have HC339_7 := Aside0.mk hl339_7
                    clear hi339_7 hl339_7
                    replace p339 := eq_true p339
                    replace q339 := eq_true q339
                    have ea_ := Option.some.inj (hx338_7.symm.trans hx339_7)
                    injection ea_ with ea_ en_ ec_
                    subst ea_
                    subst ec_
                    clear en_
                    try go_wp2
                    have n0_ := Aside0.mk (below_drew1 HB.out)
                    clear HB
                    have HB := n0_
                    clear n0_
                    have p340 : 0 ≤ (x5_1 : Int) := DT
                    have q340 : x5_1 < (l0.length : Int) := DT
                    obtain ⟨ad340, A340_7, c340_7, e340, hx340_0, hx340_1, hx340_2, hx340_3, hx340_4, hx340_5, hx340_6, hx340_7, hx340_8, hl340_7, hi340_7⟩ := at_T135 HR0.out x5_1 p340 q340
                    have hw340_8 := hx340_8
                    have hw340_7 := hx340_7
                    have hw340_6 := hx340_6
                    have hw340_5 := hx340_5
                    have hw340_4 := hx340_4
                    have hw340_3 := hx340_3
                    have hw340_2 := hx340_2
                    have hw340_1 := hx340_1
                    have hw340_0 := hx340_0
                    obtain rfl : ad338 = ad340 := (by injection e340)
                    replace hx340_0 := (HB.out.cell (World.block_lt_of_cell? w _ hx340_0)).trans hx340_0
                    replace hx340_1 := (HB.out.cell (World.block_lt_of_cell? w _ hx340_1)).trans hx340_1
                    replace hx340_2 := (HB.out.cell (World.block_lt_of_cell? w _ hx340_2)).trans hx340_2
                    replace hx340_3 := (HB.out.cell (World.block_lt_of_cell? w _ hx340_3)).trans hx340_3
                    replace hx340_4 := (HB.out.cell (World.block_lt_of_cell? w _ hx340_4)).trans hx340_4
                    replace hx340_5 := (HB.out.cell (World.block_lt_of_cell? w _ hx340_5)).trans hx340_5
                    replace hx340_6 := (HB.out.cell (World.block_lt_of_cell? w _ hx340_6)).trans hx340_6
                    replace hx340_7 := (HB.out.cell (World.block_lt_of_cell? w _ hx340_7)).trans hx340_7
                    replace hx340_8 := (HB.out.cell (World.block_lt_of_cell? w _ hx340_8)).trans hx340_8
                    have HR340_7 := Aside0.mk hi340_7
                    have HC340_7 := Aside0.mk hl340_7
                    clear hi340_7 hl340_7
                    replace p340 := eq_true p340
                    replace q340 := eq_true q340
                    refine start_ (n := 8) (S := fun w' => w'.cell? (ad338.add ((x5_1).toNat * 9)) = some (.int .i64 ((rd_T135 l0 x5_1).f0)) ∧ w'.cell? ⟨(ad338.add ((x5_1).toNat * 9)).block, (ad338.add ((x5_1).toNat * 9)).off + 1, none⟩ = some (.int .i64 ((rd_T135 l0 x5_1).f1)) ∧ w'.cell? ⟨(ad338.add ((x5_1).toNat * 9)).block, (ad338.add ((x5_1).toNat * 9)).off + 2, none⟩ = some (.string ((rd_T135 l0 x5_1).f2)) ∧ w'.cell? ⟨(ad338.add ((x5_1).toNat * 9)).block, (ad338.add ((x5_1).toNat * 9)).off + 3, none⟩ = some (.bool ((rd_T135 l0 x5_1).f3)) ∧ w'.cell? ⟨(ad338.add ((x5_1).toNat * 9)).block, (ad338.add ((x5_1).toNat * 9)).off + 4, none⟩ = some (.int .i64 ((rd_T135 l0 x5_1).f4)) ∧ w'.cell? ⟨(ad338.add ((x5_1).toNat * 9)).block, (ad338.add ((x5_1).toNat * 9)).off + 5, none⟩ = some (.int .i64 ((rd_T135 l0 x5_1).f5)) ∧ w'.cell? ⟨(ad338.add ((x5_1).toNat * 9)).block, (ad338.add ((x5_1).toNat * 9)).off + 6, none⟩ = some (.int .i64 ((rd_T135 l0 x5_1).f6)) ∧ w'.cell? ⟨(ad338.add ((x5_1).toNat * 9)).block, (ad338.add ((x5_1).toNat * 9)).off + 7, none⟩ = some (.slice A340_7 ((rd_T135 l0 x5_1).f7).length c340_7) ∧ w'.cell? ⟨(ad338.add ((x5_1).toNat * 9)).block, (ad338.add ((x5_1).toNat * 9)).off + 8, none⟩ = some (.int .i64 ((rd_T135 l0 x5_1).f8))) (ds := []) #[false, false, false, false, false, false, false, false] (by kernel_rfl) rfl rfl ⟨((HB.out.cell (World.block_lt_of_cell? w _ hw340_0)).trans hw340_0), ((HB.out.cell (World.block_lt_of_cell? w _ hw340_1)).trans hw340_1), ((HB.out.cell (World.block_lt_of_cell? w _ hw340_2)).trans hw340_2), ((HB.out.cell (World.block_lt_of_cell? w _ hw340_3)).trans hw340_3), ((HB.out.cell (World.block_lt_of_cell? w _ hw340_4)).trans hw340_4), ((HB.out.cell (World.block_lt_of_cell? w _ hw340_5)).trans hw340_5), ((HB.out.cell (World.block_lt_of_cell? w _ hw340_6)).trans hw340_6), ((HB.out.cell (World.block_lt_of_cell? w _ hw340_7)).trans hw340_7), ((HB.out.cell (World.block_lt_of_cell? w _ hw340_8)).trans hw340_8)⟩ (fun hHeld => ?_); refine with_tabW laws_heldInodeS.tab10 laws_heldInodeS.bits10 (fun HT_ HW_ => ?_)
                    generalize wr.drew = w28 at HB HR340_7 hx340_0 hx340_1 hx340_2 hx340_3 hx340_4 hx340_5 hx340_6 hx340_7 hx340_8 hHeld ⊢
                    refine pure_ (i := 0) (N := some 30) (v := ?_) (a' := ?_) #[true, false, false, false, false, false, false, false] rfl rfl (any_of HT_.out (by kernel_rfl)) (fun _ _ _ h => h) (Or.inl ⟨by rfl, ?_⟩) ?_ ?_
                    rotate_left
                    · intro w'
                      go_simp
                      with_reducible rfl
                    rotate_left
                    · simp only [Act.put, List.setIfInBounds_toArray, List.set_cons_zero, List.set_cons_succ, i64_w, i32_w]
                      rfl
                    refine pure_ (i := 1) (N := some 31) (v := ?_) (a' := ?_) #[true, true, false, false, false, false, false, false] rfl rfl (any_of HT_.out (by kernel_rfl)) (fun _ _ _ h => h) (Or.inl ⟨by rfl, ?_⟩) ?_ ?_
                    rotate_left
                    · intro w'
                      go_simp
                      with_reducible rfl
                    rotate_left
                    · simp only [Act.put, List.setIfInBounds_toArray, List.set_cons_zero, List.set_cons_succ, i64_w, i32_w]
                      rfl
                    refine pure_ (i := 2) (N := some 32) (v := ?_) (a' := ?_) #[true, true, true, false, false, false, false, false] rfl rfl (any_of HT_.out (by kernel_rfl)) (fun _ _ _ h => h) (Or.inl ⟨by rfl, ?_⟩) ?_ ?_
                    rotate_left
                    · intro w'
                      go_simp
                      with_reducible rfl
                    rotate_left
                    · simp only [Act.put, List.setIfInBounds_toArray, List.set_cons_zero, List.set_cons_succ, i64_w, i32_w]
                      rfl
                    refine pure_ (i := 3) (N := some 33) (v := ?_) (a' := ?_) #[true, true, true, true, false, false, false, false] rfl rfl (any_of HT_.out (by kernel_rfl)) (fun _ _ _ h => h) (Or.inl ⟨by rfl, ?_⟩) ?_ ?_
                    rotate_left
                    · intro w'
                      go_simp
                      with_reducible rfl
                    rotate_left
                    · simp only [Act.put, List.setIfInBounds_toArray, List.set_cons_zero, List.set_cons_succ, i64_w, i32_w]
                      rfl
                    refine pure_ (i := 5) (N := some 35) (v := ?_) (a' := ?_) #[true, true, true, true, false, true, false, false] rfl rfl (any_of HT_.out (by kernel_rfl)) (fun _ _ _ h => h) (Or.inl ⟨by rfl, ?_⟩) ?_ ?_
                    rotate_left
                    · intro w'
                      go_simp
                      with_reducible rfl
                    rotate_left
                    · simp only [Act.put, List.setIfInBounds_toArray, List.set_cons_zero, List.set_cons_succ, i64_w, i32_w]
                      rfl
                    refine take_ (i := 4) (N := some 34) (v := ?_) (a' := ?_) #[true, true, true, true, true, true, false, false] rfl rfl (take_ofW HT_.out HW_.out (by kernel_rfl)) (fun _ _ _ h => h) (Or.inl ⟨by rfl, ?_⟩) hHeld ?_ ?_
                    rotate_left
                    · rintro w' ⟨s0, s1, s2, s3, s4, s5, s6, s7, s8⟩
                      go_simp
                      with_reducible rfl
                    rotate_left
                    · simp only [Act.put, List.setIfInBounds_toArray, List.set_cons_zero, List.set_cons_succ, i64_w, i32_w]
                      rfl
                    refine one_ (i := 6) (N := some 36) #[true, true, true, true, true, true, true, false] rfl rfl (one_of HT_.out (by kernel_rfl)) (by decide) (fun K hK => ?_)
                    refine goes_ Try.func60 (by kernel_rfl) rfl #[.int .i64 (wrap64 ((wrap64 (x1_1 + 1)) + 1))] (by rfl) rfl rfl (by (try simp only [List.map_toArray, List.map_cons, List.map_nil]); first | done | rfl | (simp only [List.length_drop, List.length_take]; rfl)) ?_
                    with_reducible refine (laws_markText.calls k1 (wrap64 ((wrap64 (x1_1 + 1)) + 1)) t341 _ A7.out).mono ?_
                    rintro e w29 ⟨rfl, hb⟩
                    refine ⟨_, rfl, ?_⟩
                    have n0_ := Aside0.mk (below_step (BB HB.out) hb)
                    clear HB
                    have HB := n0_
                    clear n0_
                    (try clear hb)
                    (try clear hb2)
                    (try clear hk)
                    (try clear hi)
                    refine hK.out _ _ ⟨((HB.out.cell (World.block_lt_of_cell? w _ hw340_0)).trans hw340_0), ((HB.out.cell (World.block_lt_of_cell? w _ hw340_1)).trans hw340_1), ((HB.out.cell (World.block_lt_of_cell? w _ hw340_2)).trans hw340_2), ((HB.out.cell (World.block_lt_of_cell? w _ hw340_3)).trans hw340_3), ((HB.out.cell (World.block_lt_of_cell? w _ hw340_4)).trans hw340_4), ((HB.out.cell (World.block_lt_of_cell? w _ hw340_5)).trans hw340_5), ((HB.out.cell (World.block_lt_of_cell? w _ hw340_6)).trans hw340_6), ((HB.out.cell (World.block_lt_of_cell? w _ hw340_7)).trans hw340_7), ((HB.out.cell (World.block_lt_of_cell? w _ hw340_8)).trans hw340_8)⟩ (fun hHeld => ?_)
                    clear hK K
                    refine norm_ (a' := ?_) ?_ ?_
                    rotate_left
                    · show Act.put _ (some 36) _ = _
                      simp only [Act.put, List.setIfInBounds_toArray, List.set_cons_zero, List.set_cons_succ, i64_w, i32_w]
                      rfl
                    refine pure_ (i := 7) (N := some 37) (v := ?_) (a' := ?_) #[true, true, true, true, true, true, true, true] rfl rfl (any_of HT_.out (by kernel_rfl)) (fun _ _ _ h => h) (Or.inl ⟨by rfl, ?_⟩) ?_ ?_
                    rotate_left
                    · intro w'
                      go_simp
                      with_reducible rfl
                    rotate_left
                    · simp only [Act.put, List.setIfInBounds_toArray, List.set_cons_zero, List.set_cons_succ, i64_w, i32_w]
                      rfl
                    refine done_ (done_of HT_.out (by kernel_rfl)) ?_
                    have p342 : 0 ≤ (x5_1 : Int) := DT
                    have q342 : x5_1 < (l0.length : Int) := DT
                    obtain ⟨ad342, A342_7, c342_7, e342, hx342_0, hx342_1, hx342_2, hx342_3, hx342_4, hx342_5, hx342_6, hx342_7, hx342_8, hl342_7, hi342_7⟩ := at_T135 HR0.out x5_1 p342 q342
                    obtain rfl : ad338 = ad342 := (by injection e342)
                    replace hx342_0 := (HB.out.cell (World.block_lt_of_cell? w _ hx342_0)).trans hx342_0
                    replace hx342_1 := (HB.out.cell (World.block_lt_of_cell? w _ hx342_1)).trans hx342_1
                    replace hx342_2 := (HB.out.cell (World.block_lt_of_cell? w _ hx342_2)).trans hx342_2
                    replace hx342_3 := (HB.out.cell (World.block_lt_of_cell? w _ hx342_3)).trans hx342_3
                    replace hx342_4 := (HB.out.cell (World.block_lt_of_cell? w _ hx342_4)).trans hx342_4
                    replace hx342_5 := (HB.out.cell (World.block_lt_of_cell? w _ hx342_5)).trans hx342_5
                    replace hx342_6 := (HB.out.cell (World.block_lt_of_cell? w _ hx342_6)).trans hx342_6
                    replace hx342_7 := (HB.out.cell (World.block_lt_of_cell? w _ hx342_7)).trans hx342_7
                    replace hx342_8 := (HB.out.cell (World.block_lt_of_cell? w _ hx342_8)).trans hx342_8
                    have HR342_7 := Aside0.mk hi342_7
                    have HC342_7 := Aside0.mk hl342_7
                    clear hi342_7 hl342_7
                    replace p342 := eq_true p342
                    replace q342 := eq_true q342
                    have ea_ := Option.some.inj (hx342_7.symm.trans ((HB.out.cell (World.block_lt_of_cell? w _ hw340_7)).trans hw340_7))
                    injection ea_ with ea_ en_ ec_
                    subst ea_
                    subst ec_
                    clear en_
                    have p343 : 0 ≤ (x5_1 : Int) := DT
                    have q343 : x5_1 < (l0.length : Int) := DT
                    obtain ⟨ad343, A343_7, c343_7, e343, hx343_0, hx343_1, hx343_2, hx343_3, hx343_4, hx343_5, hx343_6, hx343_7, hx343_8, hl343_7, hi343_7⟩ := at_T135 HR0.out x5_1 p343 q343
                    obtain rfl : ad338 = ad343 := (by injection e343)
                    replace hx343_0 := (HB.out.cell (World.block_lt_of_cell? w _ hx343_0)).trans hx343_0
                    replace hx343_1 := (HB.out.cell (World.block_lt_of_cell? w _ hx343_1)).trans hx343_1
                    replace hx343_2 := (HB.out.cell (World.block_lt_of_cell? w _ hx343_2)).trans hx343_2
                    replace hx343_3 := (HB.out.cell (World.block_lt_of_cell? w _ hx343_3)).trans hx343_3
                    replace hx343_4 := (HB.out.cell (World.block_lt_of_cell? w _ hx343_4)).trans hx343_4
                    replace hx343_5 := (HB.out.cell (World.block_lt_of_cell? w _ hx343_5)).trans hx343_5
                    replace hx343_6 := (HB.out.cell (World.block_lt_of_cell? w _ hx343_6)).trans hx343_6
                    replace hx343_7 := (HB.out.cell (World.block_lt_of_cell? w _ hx343_7)).trans hx343_7
                    replace hx343_8 := (HB.out.cell (World.block_lt_of_cell? w _ hx343_8)).trans hx343_8
                    have HR343_7 := Aside0.mk hi343_7
                    have HC343_7 := Aside0.mk hl343_7
                    clear hi343_7 hl343_7
                    replace p343 := eq_true p343
                    replace q343 := eq_true q343
                    have ea_ := Option.some.inj (hx342_7.symm.trans hx343_7)
                    injection ea_ with ea_ en_ ec_
                    subst ea_
                    subst ec_
                    clear en_
                    try go_wp2
                    go_ret
                    exact ⟨ER, (BB HB.out)⟩
              · rw [if_neg c8] at H
                have c8b0 : (((rd_T135 l0 x5_1).f2).toList == t341.toList) = false := beq_eq_false_iff_ne.mpr c8
                have c8b1 : (((rd_T135 l0 x5_1).f2).toList != t341.toList) = true := bne_iff_ne.mpr c8
                obtain rfl := Option.some.inj H
                have p338 : 0 ≤ (x5_1 : Int) := DT
                have q338 : x5_1 < (l0.length : Int) := DT
                obtain ⟨ad338, A338_7, c338_7, e338, hx338_0, hx338_1, hx338_2, hx338_3, hx338_4, hx338_5, hx338_6, hx338_7, hx338_8, hl338_7, hi338_7⟩ := at_T135 HR0.out x5_1 p338 q338
                cases e338
                replace hx338_0 := (HB.out.cell (World.block_lt_of_cell? w _ hx338_0)).trans hx338_0
                replace hx338_1 := (HB.out.cell (World.block_lt_of_cell? w _ hx338_1)).trans hx338_1
                replace hx338_2 := (HB.out.cell (World.block_lt_of_cell? w _ hx338_2)).trans hx338_2
                replace hx338_3 := (HB.out.cell (World.block_lt_of_cell? w _ hx338_3)).trans hx338_3
                replace hx338_4 := (HB.out.cell (World.block_lt_of_cell? w _ hx338_4)).trans hx338_4
                replace hx338_5 := (HB.out.cell (World.block_lt_of_cell? w _ hx338_5)).trans hx338_5
                replace hx338_6 := (HB.out.cell (World.block_lt_of_cell? w _ hx338_6)).trans hx338_6
                replace hx338_7 := (HB.out.cell (World.block_lt_of_cell? w _ hx338_7)).trans hx338_7
                replace hx338_8 := (HB.out.cell (World.block_lt_of_cell? w _ hx338_8)).trans hx338_8
                have HR338_7 := Aside0.mk hi338_7
                have HC338_7 := Aside0.mk hl338_7
                clear hi338_7 hl338_7
                replace p338 := eq_true p338
                replace q338 := eq_true q338
                have p339 : 0 ≤ (x5_1 : Int) := DT
                have q339 : x5_1 < (l0.length : Int) := DT
                obtain ⟨ad339, A339_7, c339_7, e339, hx339_0, hx339_1, hx339_2, hx339_3, hx339_4, hx339_5, hx339_6, hx339_7, hx339_8, hl339_7, hi339_7⟩ := at_T135 HR0.out x5_1 p339 q339
                obtain rfl : ad338 = ad339 := (by injection e339)
                replace hx339_0 := (HB.out.cell (World.block_lt_of_cell? w _ hx339_0)).trans hx339_0
                replace hx339_1 := (HB.out.cell (World.block_lt_of_cell? w _ hx339_1)).trans hx339_1
                replace hx339_2 := (HB.out.cell (World.block_lt_of_cell? w _ hx339_2)).trans hx339_2
                replace hx339_3 := (HB.out.cell (World.block_lt_of_cell? w _ hx339_3)).trans hx339_3
                replace hx339_4 := (HB.out.cell (World.block_lt_of_cell? w _ hx339_4)).trans hx339_4
                replace hx339_5 := (HB.out.cell (World.block_lt_of_cell? w _ hx339_5)).trans hx339_5
                replace hx339_6 := (HB.out.cell (World.block_lt_of_cell? w _ hx339_6)).trans hx339_6
                replace hx339_7 := (HB.out.cell (World.block_lt_of_cell? w _ hx339_7)).trans hx339_7
                replace hx339_8 := (HB.out.cell (World.block_lt_of_cell? w _ hx339_8)).trans hx339_8
                have HR339_7 := Aside0.mk hi339_7
                have HC339_7 := Aside0.mk hl339_7
                clear hi339_7 hl339_7
                replace p339 := eq_true p339
                replace q339 := eq_true q339
                have ea_ := Option.some.inj (hx338_7.symm.trans hx339_7)
                injection ea_ with ea_ en_ ec_
                subst ea_
                subst ec_
                clear en_
                try go_wp2
                have n0_ := Aside0.mk (below_drew1 HB.out)
                clear HB
                have HB := n0_
                clear n0_
                have p340 : 0 ≤ (x5_1 : Int) := DT
                have q340 : x5_1 < (l0.length : Int) := DT
                obtain ⟨ad340, A340_7, c340_7, e340, hx340_0, hx340_1, hx340_2, hx340_3, hx340_4, hx340_5, hx340_6, hx340_7, hx340_8, hl340_7, hi340_7⟩ := at_T135 HR0.out x5_1 p340 q340
                have hw340_8 := hx340_8
                have hw340_7 := hx340_7
                have hw340_6 := hx340_6
                have hw340_5 := hx340_5
                have hw340_4 := hx340_4
                have hw340_3 := hx340_3
                have hw340_2 := hx340_2
                have hw340_1 := hx340_1
                have hw340_0 := hx340_0
                obtain rfl : ad338 = ad340 := (by injection e340)
                replace hx340_0 := (HB.out.cell (World.block_lt_of_cell? w _ hx340_0)).trans hx340_0
                replace hx340_1 := (HB.out.cell (World.block_lt_of_cell? w _ hx340_1)).trans hx340_1
                replace hx340_2 := (HB.out.cell (World.block_lt_of_cell? w _ hx340_2)).trans hx340_2
                replace hx340_3 := (HB.out.cell (World.block_lt_of_cell? w _ hx340_3)).trans hx340_3
                replace hx340_4 := (HB.out.cell (World.block_lt_of_cell? w _ hx340_4)).trans hx340_4
                replace hx340_5 := (HB.out.cell (World.block_lt_of_cell? w _ hx340_5)).trans hx340_5
                replace hx340_6 := (HB.out.cell (World.block_lt_of_cell? w _ hx340_6)).trans hx340_6
                replace hx340_7 := (HB.out.cell (World.block_lt_of_cell? w _ hx340_7)).trans hx340_7
                replace hx340_8 := (HB.out.cell (World.block_lt_of_cell? w _ hx340_8)).trans hx340_8
                have HR340_7 := Aside0.mk hi340_7
                have HC340_7 := Aside0.mk hl340_7
                clear hi340_7 hl340_7
                replace p340 := eq_true p340
                replace q340 := eq_true q340
                refine start_ (n := 8) (S := fun w' => w'.cell? (ad338.add ((x5_1).toNat * 9)) = some (.int .i64 ((rd_T135 l0 x5_1).f0)) ∧ w'.cell? ⟨(ad338.add ((x5_1).toNat * 9)).block, (ad338.add ((x5_1).toNat * 9)).off + 1, none⟩ = some (.int .i64 ((rd_T135 l0 x5_1).f1)) ∧ w'.cell? ⟨(ad338.add ((x5_1).toNat * 9)).block, (ad338.add ((x5_1).toNat * 9)).off + 2, none⟩ = some (.string ((rd_T135 l0 x5_1).f2)) ∧ w'.cell? ⟨(ad338.add ((x5_1).toNat * 9)).block, (ad338.add ((x5_1).toNat * 9)).off + 3, none⟩ = some (.bool ((rd_T135 l0 x5_1).f3)) ∧ w'.cell? ⟨(ad338.add ((x5_1).toNat * 9)).block, (ad338.add ((x5_1).toNat * 9)).off + 4, none⟩ = some (.int .i64 ((rd_T135 l0 x5_1).f4)) ∧ w'.cell? ⟨(ad338.add ((x5_1).toNat * 9)).block, (ad338.add ((x5_1).toNat * 9)).off + 5, none⟩ = some (.int .i64 ((rd_T135 l0 x5_1).f5)) ∧ w'.cell? ⟨(ad338.add ((x5_1).toNat * 9)).block, (ad338.add ((x5_1).toNat * 9)).off + 6, none⟩ = some (.int .i64 ((rd_T135 l0 x5_1).f6)) ∧ w'.cell? ⟨(ad338.add ((x5_1).toNat * 9)).block, (ad338.add ((x5_1).toNat * 9)).off + 7, none⟩ = some (.slice A340_7 ((rd_T135 l0 x5_1).f7).length c340_7) ∧ w'.cell? ⟨(ad338.add ((x5_1).toNat * 9)).block, (ad338.add ((x5_1).toNat * 9)).off + 8, none⟩ = some (.int .i64 ((rd_T135 l0 x5_1).f8))) (ds := []) #[false, false, false, false, false, false, false, false] (by kernel_rfl) rfl rfl ⟨((HB.out.cell (World.block_lt_of_cell? w _ hw340_0)).trans hw340_0), ((HB.out.cell (World.block_lt_of_cell? w _ hw340_1)).trans hw340_1), ((HB.out.cell (World.block_lt_of_cell? w _ hw340_2)).trans hw340_2), ((HB.out.cell (World.block_lt_of_cell? w _ hw340_3)).trans hw340_3), ((HB.out.cell (World.block_lt_of_cell? w _ hw340_4)).trans hw340_4), ((HB.out.cell (World.block_lt_of_cell? w _ hw340_5)).trans hw340_5), ((HB.out.cell (World.block_lt_of_cell? w _ hw340_6)).trans hw340_6), ((HB.out.cell (World.block_lt_of_cell? w _ hw340_7)).trans hw340_7), ((HB.out.cell (World.block_lt_of_cell? w _ hw340_8)).trans hw340_8)⟩ (fun hHeld => ?_); refine with_tabW laws_heldInodeS.tab10 laws_heldInodeS.bits10 (fun HT_ HW_ => ?_)
                generalize wr.drew = w30 at HB HR340_7 hx340_0 hx340_1 hx340_2 hx340_3 hx340_4 hx340_5 hx340_6 hx340_7 hx340_8 hHeld ⊢
                refine pure_ (i := 0) (N := some 30) (v := ?_) (a' := ?_) #[true, false, false, false, false, false, false, false] rfl rfl (any_of HT_.out (by kernel_rfl)) (fun _ _ _ h => h) (Or.inl ⟨by rfl, ?_⟩) ?_ ?_
                rotate_left
                · intro w'
                  go_simp
                  with_reducible rfl
                rotate_left
                · simp only [Act.put, List.setIfInBounds_toArray, List.set_cons_zero, List.set_cons_succ, i64_w, i32_w]
                  rfl
                refine pure_ (i := 1) (N := some 31) (v := ?_) (a' := ?_) #[true, true, false, false, false, false, false, false] rfl rfl (any_of HT_.out (by kernel_rfl)) (fun _ _ _ h => h) (Or.inl ⟨by rfl, ?_⟩) ?_ ?_
                rotate_left
                · intro w'
                  go_simp
                  with_reducible rfl
                rotate_left
                · simp only [Act.put, List.setIfInBounds_toArray, List.set_cons_zero, List.set_cons_succ, i64_w, i32_w]
                  rfl
                refine pure_ (i := 2) (N := some 32) (v := ?_) (a' := ?_) #[true, true, true, false, false, false, false, false] rfl rfl (any_of HT_.out (by kernel_rfl)) (fun _ _ _ h => h) (Or.inl ⟨by rfl, ?_⟩) ?_ ?_
                rotate_left
                · intro w'
                  go_simp
                  with_reducible rfl
                rotate_left
                · simp only [Act.put, List.setIfInBounds_toArray, List.set_cons_zero, List.set_cons_succ, i64_w, i32_w]
                  rfl
                refine pure_ (i := 3) (N := some 33) (v := ?_) (a' := ?_) #[true, true, true, true, false, false, false, false] rfl rfl (any_of HT_.out (by kernel_rfl)) (fun _ _ _ h => h) (Or.inl ⟨by rfl, ?_⟩) ?_ ?_
                rotate_left
                · intro w'
                  go_simp
                  with_reducible rfl
                rotate_left
                · simp only [Act.put, List.setIfInBounds_toArray, List.set_cons_zero, List.set_cons_succ, i64_w, i32_w]
                  rfl
                refine pure_ (i := 5) (N := some 35) (v := ?_) (a' := ?_) #[true, true, true, true, false, true, false, false] rfl rfl (any_of HT_.out (by kernel_rfl)) (fun _ _ _ h => h) (Or.inl ⟨by rfl, ?_⟩) ?_ ?_
                rotate_left
                · intro w'
                  go_simp
                  with_reducible rfl
                rotate_left
                · simp only [Act.put, List.setIfInBounds_toArray, List.set_cons_zero, List.set_cons_succ, i64_w, i32_w]
                  rfl
                refine take_ (i := 4) (N := some 34) (v := ?_) (a' := ?_) #[true, true, true, true, true, true, false, false] rfl rfl (take_ofW HT_.out HW_.out (by kernel_rfl)) (fun _ _ _ h => h) (Or.inl ⟨by rfl, ?_⟩) hHeld ?_ ?_
                rotate_left
                · rintro w' ⟨s0, s1, s2, s3, s4, s5, s6, s7, s8⟩
                  go_simp
                  with_reducible rfl
                rotate_left
                · simp only [Act.put, List.setIfInBounds_toArray, List.set_cons_zero, List.set_cons_succ, i64_w, i32_w]
                  rfl
                refine one_ (i := 6) (N := some 36) #[true, true, true, true, true, true, true, false] rfl rfl (one_of HT_.out (by kernel_rfl)) (by decide) (fun K hK => ?_)
                refine goes_ Try.func60 (by kernel_rfl) rfl #[.int .i64 (wrap64 ((wrap64 (x1_1 + 1)) + 1))] (by rfl) rfl rfl (by (try simp only [List.map_toArray, List.map_cons, List.map_nil]); first | done | rfl | (simp only [List.length_drop, List.length_take]; rfl)) ?_
                with_reducible refine (laws_markText.calls k1 (wrap64 ((wrap64 (x1_1 + 1)) + 1)) t341 _ A7.out).mono ?_
                rintro e w31 ⟨rfl, hb⟩
                refine ⟨_, rfl, ?_⟩
                have n0_ := Aside0.mk (below_step (BB HB.out) hb)
                clear HB
                have HB := n0_
                clear n0_
                (try clear hb)
                (try clear hb2)
                (try clear hk)
                (try clear hi)
                refine hK.out _ _ ⟨((HB.out.cell (World.block_lt_of_cell? w _ hw340_0)).trans hw340_0), ((HB.out.cell (World.block_lt_of_cell? w _ hw340_1)).trans hw340_1), ((HB.out.cell (World.block_lt_of_cell? w _ hw340_2)).trans hw340_2), ((HB.out.cell (World.block_lt_of_cell? w _ hw340_3)).trans hw340_3), ((HB.out.cell (World.block_lt_of_cell? w _ hw340_4)).trans hw340_4), ((HB.out.cell (World.block_lt_of_cell? w _ hw340_5)).trans hw340_5), ((HB.out.cell (World.block_lt_of_cell? w _ hw340_6)).trans hw340_6), ((HB.out.cell (World.block_lt_of_cell? w _ hw340_7)).trans hw340_7), ((HB.out.cell (World.block_lt_of_cell? w _ hw340_8)).trans hw340_8)⟩ (fun hHeld => ?_)
                clear hK K
                refine norm_ (a' := ?_) ?_ ?_
                rotate_left
                · show Act.put _ (some 36) _ = _
                  simp only [Act.put, List.setIfInBounds_toArray, List.set_cons_zero, List.set_cons_succ, i64_w, i32_w]
                  rfl
                refine pure_ (i := 7) (N := some 37) (v := ?_) (a' := ?_) #[true, true, true, true, true, true, true, true] rfl rfl (any_of HT_.out (by kernel_rfl)) (fun _ _ _ h => h) (Or.inl ⟨by rfl, ?_⟩) ?_ ?_
                rotate_left
                · intro w'
                  go_simp
                  with_reducible rfl
                rotate_left
                · simp only [Act.put, List.setIfInBounds_toArray, List.set_cons_zero, List.set_cons_succ, i64_w, i32_w]
                  rfl
                refine done_ (done_of HT_.out (by kernel_rfl)) ?_
                try go_wp2
                go_ret
                exact ⟨ER, (BB HB.out)⟩
            · rw [if_neg c6] at H
              have c6b0 : (((rd_T135 l0 x5_1).f1) == (wrap64 (x1_1 + 1))) = false := beq_eq_false_iff_ne.mpr c6
              have c6b1 : (((rd_T135 l0 x5_1).f1) != (wrap64 (x1_1 + 1))) = true := bne_iff_ne.mpr c6
              obtain rfl := Option.some.inj H
              have p338 : 0 ≤ (x5_1 : Int) := DT
              have q338 : x5_1 < (l0.length : Int) := DT
              obtain ⟨ad338, A338_7, c338_7, e338, hx338_0, hx338_1, hx338_2, hx338_3, hx338_4, hx338_5, hx338_6, hx338_7, hx338_8, hl338_7, hi338_7⟩ := at_T135 HR0.out x5_1 p338 q338
              cases e338
              replace hx338_0 := (HB.out.cell (World.block_lt_of_cell? w _ hx338_0)).trans hx338_0
              replace hx338_1 := (HB.out.cell (World.block_lt_of_cell? w _ hx338_1)).trans hx338_1
              replace hx338_2 := (HB.out.cell (World.block_lt_of_cell? w _ hx338_2)).trans hx338_2
              replace hx338_3 := (HB.out.cell (World.block_lt_of_cell? w _ hx338_3)).trans hx338_3
              replace hx338_4 := (HB.out.cell (World.block_lt_of_cell? w _ hx338_4)).trans hx338_4
              replace hx338_5 := (HB.out.cell (World.block_lt_of_cell? w _ hx338_5)).trans hx338_5
              replace hx338_6 := (HB.out.cell (World.block_lt_of_cell? w _ hx338_6)).trans hx338_6
              replace hx338_7 := (HB.out.cell (World.block_lt_of_cell? w _ hx338_7)).trans hx338_7
              replace hx338_8 := (HB.out.cell (World.block_lt_of_cell? w _ hx338_8)).trans hx338_8
              have HR338_7 := Aside0.mk hi338_7
              have HC338_7 := Aside0.mk hl338_7
              clear hi338_7 hl338_7
              replace p338 := eq_true p338
              replace q338 := eq_true q338
              have p339 : 0 ≤ (x5_1 : Int) := DT
              have q339 : x5_1 < (l0.length : Int) := DT
              obtain ⟨ad339, A339_7, c339_7, e339, hx339_0, hx339_1, hx339_2, hx339_3, hx339_4, hx339_5, hx339_6, hx339_7, hx339_8, hl339_7, hi339_7⟩ := at_T135 HR0.out x5_1 p339 q339
              obtain rfl : ad338 = ad339 := (by injection e339)
              replace hx339_0 := (HB.out.cell (World.block_lt_of_cell? w _ hx339_0)).trans hx339_0
              replace hx339_1 := (HB.out.cell (World.block_lt_of_cell? w _ hx339_1)).trans hx339_1
              replace hx339_2 := (HB.out.cell (World.block_lt_of_cell? w _ hx339_2)).trans hx339_2
              replace hx339_3 := (HB.out.cell (World.block_lt_of_cell? w _ hx339_3)).trans hx339_3
              replace hx339_4 := (HB.out.cell (World.block_lt_of_cell? w _ hx339_4)).trans hx339_4
              replace hx339_5 := (HB.out.cell (World.block_lt_of_cell? w _ hx339_5)).trans hx339_5
              replace hx339_6 := (HB.out.cell (World.block_lt_of_cell? w _ hx339_6)).trans hx339_6
              replace hx339_7 := (HB.out.cell (World.block_lt_of_cell? w _ hx339_7)).trans hx339_7
              replace hx339_8 := (HB.out.cell (World.block_lt_of_cell? w _ hx339_8)).trans hx339_8
              have HR339_7 := Aside0.mk hi339_7
              have HC339_7 := Aside0.mk hl339_7
              clear hi339_7 hl339_7
              replace p339 := eq_true p339
              replace q339 := eq_true q339
              have ea_ := Option.some.inj (hx338_7.symm.trans hx339_7)
              injection ea_ with ea_ en_ ec_
              subst ea_
              subst ec_
              clear en_
              go_wp2
              go_ret
              exact ⟨ER, (BB HB.out)⟩
          · rw [if_neg c5] at H
            have c5b0 : (((rd_T135 l0 x5_1).f0) == x1_1) = false := beq_eq_false_iff_ne.mpr c5
            have c5b1 : (((rd_T135 l0 x5_1).f0) != x1_1) = true := bne_iff_ne.mpr c5
            obtain rfl := Option.some.inj H
            have p338 : 0 ≤ (x5_1 : Int) := DT
            have q338 : x5_1 < (l0.length : Int) := DT
            obtain ⟨ad338, A338_7, c338_7, e338, hx338_0, hx338_1, hx338_2, hx338_3, hx338_4, hx338_5, hx338_6, hx338_7, hx338_8, hl338_7, hi338_7⟩ := at_T135 HR0.out x5_1 p338 q338
            cases e338
            replace hx338_0 := (HB.out.cell (World.block_lt_of_cell? w _ hx338_0)).trans hx338_0
            replace hx338_1 := (HB.out.cell (World.block_lt_of_cell? w _ hx338_1)).trans hx338_1
            replace hx338_2 := (HB.out.cell (World.block_lt_of_cell? w _ hx338_2)).trans hx338_2
            replace hx338_3 := (HB.out.cell (World.block_lt_of_cell? w _ hx338_3)).trans hx338_3
            replace hx338_4 := (HB.out.cell (World.block_lt_of_cell? w _ hx338_4)).trans hx338_4
            replace hx338_5 := (HB.out.cell (World.block_lt_of_cell? w _ hx338_5)).trans hx338_5
            replace hx338_6 := (HB.out.cell (World.block_lt_of_cell? w _ hx338_6)).trans hx338_6
            replace hx338_7 := (HB.out.cell (World.block_lt_of_cell? w _ hx338_7)).trans hx338_7
            replace hx338_8 := (HB.out.cell (World.block_lt_of_cell? w _ hx338_8)).trans hx338_8
            have HR338_7 := Aside0.mk hi338_7
            have HC338_7 := Aside0.mk hl338_7
            clear hi338_7 hl338_7
            replace p338 := eq_true p338
            replace q338 := eq_true q338
            go_wp2
            go_ret
            exact ⟨ER, (BB HB.out)⟩
        · rw [if_neg c4] at H
          exact absurd H (by simp)
      · rw [if_neg c3] at H
        have c3b0 : decide (x5_1 < (l0.length : Int)) = false := decide_eq_false c3
        clear c3
        obtain rfl := Option.some.inj H
        go_wp2
        go_ret
        exact ⟨ER, (BB HB.out)⟩

end Go.Proofs.Ytfgnaneajonapaa.Pr

namespace Go.Proofs.Ytfgnaneajonapaa.Pu
open Go.RowKit Go.Proofs.YtfgnaneajonapaaW.PrintWords Go.Proofs.Ytfgnaneajonapaa.Pr Go.Proofs.Ytfgnaneajonapaa.Evs Go.Proofs.Ytfgnaneajonapaa.Lw
set_option linter.unusedVariables false
theorem heldInodeS_loop (s : List ImInode) : ∀ (q : List ImInode) (n : Int), 0 ≤ n → n + cntInodeS s < 9223372036854775000 → q.length + s.length < 9223372036854775807 →
    Ev (fun k => laws_heldInodeS.l0 k (q ++ mkInodeS s n) n (q.length : Int)) (n + cntInodeS s) := by
  induction s with
  | nil => intro q n h0 h1 hl; exact ev_step (fun k => laws_heldInodeS.l0.eq_2 _ _ _ k) (ev_neg (by simp [mkInodeS]) (ev_eq (ev_some _) (by simp [cntInodeS])))
  | cons x s ih =>
    intro q n h0 h1 hl
    simp only [cntInodeS, cntInode] at h1
    rw [List.length_cons] at hl
    have hpos := cntInodeS_pos s
    have hc : cntInode x = 8 + 2 * (x.f7.length : Int) := rfl
    have s1 : 0 ≤ n + cntInode x := by omega
    have s2 : n + cntInode x + cntInodeS s < 9223372036854775000 := by omega
    have s3 : (q ++ [mkInode x n]).length + s.length < 9223372036854775807 := by rw [List.length_append, List.length_singleton]; omega
    have s4 : (((q ++ [mkInode x n]).length : Nat) : Int) = (q.length : Int) + 1 := by rw [List.length_append, List.length_singleton]; rfl
    have s5 : (q ++ [mkInode x n]) ++ mkInodeS s (n + cntInode x) = q ++ mkInode x n :: mkInodeS s (n + cntInode x) := by rw [List.append_assoc]; rfl
    have h := ih (q ++ [mkInode x n]) (n + cntInode x) s1 s2 s3
    rw [s4, s5] at h
    clear s1 s2 s3 s4 s5 ih
    have e1 : wrap64 (n + 1) = n + 1 := wrap_in (by omega) (by omega)
    have e2 : wrap64 (n + 1 + 1) = n + 1 + 1 := wrap_in (by omega) (by omega)
    have e3 : wrap64 (n + 1 + 1 + 1) = n + 1 + 1 + 1 := wrap_in (by omega) (by omega)
    have e4 : wrap64 (n + 1 + 1 + 1 + 1) = n + 1 + 1 + 1 + 1 := wrap_in (by omega) (by omega)
    have e5 : wrap64 (n + 1 + 1 + 1 + 1 + 1) = n + 1 + 1 + 1 + 1 + 1 := wrap_in (by omega) (by omega)
    have e6 : wrap64 (n + 1 + 1 + 1 + 1 + 1 + 1) = n + 1 + 1 + 1 + 1 + 1 + 1 := wrap_in (by omega) (by omega)
    have e7 : wrap64 (n + 1 + 1 + 1 + 1 + 1 + 1 + 1) = n + 1 + 1 + 1 + 1 + 1 + 1 + 1 := wrap_in (by omega) (by omega)
    have e8 : wrap64 (n + 1 + 1 + 1 + 1 + 1 + 1 + 1 + 2 * (x.f7.length : Int) + 1) = n + cntInode x := by rw [wrap_in (by omega) (by omega)]; unfold cntInode; omega
    have e0 : wrap64 ((q.length : Int) + 1) = (q.length : Int) + 1 := wrap_in (by omega) (by omega)
    have et : Int.tmod (n + 1 + 1 + 1) 3 = (n + 1 + 1 + 1) % 3 := Int.tmod_eq_emod_of_nonneg (by omega)
    simp only [mkInodeS]
    refine ev_step (fun k => laws_heldInodeS.l0.eq_2 _ _ _ k) ?_
    simp only [rd135, e0, e1, e2, e3, e4, e5, e6, e7, et]
    have e9 : mkInode x n = ⟨n, n + 1, mt (n + 1 + 1), (n + 1 + 1 + 1) % 3 == 0, n + 1 + 1 + 1 + 1, n + 1 + 1 + 1 + 1 + 1, n + 1 + 1 + 1 + 1 + 1 + 1, mkPieceS x.f7 (n + 1 + 1 + 1 + 1 + 1 + 1 + 1), n + 1 + 1 + 1 + 1 + 1 + 1 + 1 + 2 * (x.f7.length : Int)⟩ := rfl
    have hlt : (q.length : Int) < ((q ++ mkInode x n :: mkInodeS s (n + cntInode x)).length : Int) := by rw [List.length_append, List.length_cons]; omega
    have hge : (0 : Int) ≤ (q.length : Int) := Int.natCast_nonneg _
    generalize hrest : q ++ mkInode x n :: mkInodeS s (n + cntInode x) = rest at hlt h ⊢
    refine ev_pos hlt ?_
    refine ev_pos hge ?_
    clear hlt hge hrest
    rw [e9]
    clear e9 et e0 e1 e2 e3 e4 e5 e6 e7
    dsimp only
    refine ev_pos rfl ?_
    refine ev_pos rfl ?_
    refine ev_bind (mt_ev _ (by omega)) ?_
    refine ev_pos rfl ?_
    refine ev_neg (by simp) ?_
    refine ev_pos rfl ?_
    refine ev_pos rfl ?_
    refine ev_pos rfl ?_
    refine ev_bind (heldPieceS_ev x.f7 _ (by omega) (by omega)) ?_
    have hng : ¬ (n + 1 + 1 + 1 + 1 + 1 + 1 + 1 + 2 * (x.f7.length : Int) < 0) := by omega
    refine ev_neg hng ?_
    refine ev_pos rfl ?_
    simp only [e8]
    have hr : n + cntInodeS (x :: s) = n + cntInode x + cntInodeS s := by simp only [cntInodeS]; omega
    rw [hr]
    exact h
theorem heldInodeS_ev (l : List ImInode) (n : Int) (h0 : 0 ≤ n) (h1 : n + cntInodeS l < 9223372036854775000) (hl : l.length < 9223372036854775807) : Ev (fun k => laws_heldInodeS.f k (mkInodeS l n) n) (n + cntInodeS l) := by
  unfold laws_heldInodeS.f
  simpa using heldInodeS_loop l [] n h0 h1 (by simpa using hl)
end Go.Proofs.Ytfgnaneajonapaa.Pu

namespace Go.Proofs.Ytfgnaneajonapaa.Pr
open Go.RowKit Go.Proofs.YtfgnaneajonapaaW.PrintWords Go.Proofs.YtfgnaneajonapaaW.PrintLast Go.Proofs.YtfgnaneajonapaaW.PrintMore
attribute [local go_sem] max2_int min2_int max_two min_two max_three min_three max_four min_four
set_option linter.unusedVariables false
set_option linter.unusedSimpArgs false
def laws_eqFile.f (a0_0 : ByteArray) (a0_1 : ByteArray) (a0_2 : Int) (a1_0 : ByteArray) (a1_1 : ByteArray) (a1_2 : Int) : Option (Bool) := if a0_0.toList = a1_0.toList then (if a0_1.toList = a1_1.toList then (if a0_2 = a1_2 then (some true) else (some false)) else (some false)) else (some false)
set_option maxHeartbeats 8000000 in
set_option maxRecDepth 100000 in
theorem laws_eqFile.calls (a0_0 : ByteArray) (a0_1 : ByteArray) (a0_2 : Int) (a1_0 : ByteArray) (a1_1 : ByteArray) (a1_2 : Int) (r : Bool) (w : World) (h : laws_eqFile.f a0_0 a0_1 a0_2 a1_0 a1_1 a1_2 = some r) (hr_ : Aside0 (r = true) := by exact ⟨rfl⟩) :
    Calls Try.prog 153 #[.agg #[.string a0_0, .string a0_1, .int .i64 a0_2], .agg #[.string a1_0, .string a1_1, .int .i64 a1_2]] w fun e w' => e = .returned (.bool r) ∧ Below w.heap.size w w' := by
  have hu192 := Try.underlying192
  have HB := Aside0.mk (Below.refl w.heap.size w)
  have H : (if a0_0.toList = a1_0.toList then (if a0_1.toList = a1_1.toList then (if a0_2 = a1_2 then (some true) else (some false)) else (some false)) else (some false)) = some r := h
  clear h
  by_cases c3 : a0_0.toList = a1_0.toList
  · rw [if_pos c3] at H
    have c3b0 : (a0_0.toList == a1_0.toList) = true := beq_iff_eq.mpr c3
    have c3b1 : (a0_0.toList != a1_0.toList) = false := bne_eq_false_iff_eq.mpr c3
    clear c3
    by_cases c4 : a0_1.toList = a1_1.toList
    · rw [if_pos c4] at H
      have c4b0 : (a0_1.toList == a1_1.toList) = true := beq_iff_eq.mpr c4
      have c4b1 : (a0_1.toList != a1_1.toList) = false := bne_eq_false_iff_eq.mpr c4
      clear c4
      by_cases c5 : a0_2 = a1_2
      · rw [if_pos c5] at H
        have c5b0 : (a0_2 == a1_2) = true := beq_iff_eq.mpr c5
        have c5b1 : (a0_2 != a1_2) = false := bne_eq_false_iff_eq.mpr c5
        clear c5
        obtain rfl := Option.some.inj H
        go_enter Try.func153, Try.ntmps153
        go_wp2_with (first | ((with_reducible refine gate_dst (N := 2) rfl ?_); refine BX 2 #[.string a0_0, .string a0_1, .int .i64 a0_2] 192 ?_; intro gb302 hg w6 hbox hb; have BK302 := Aside0.mk (hbox); have GW302 : Aside0 (w.heap.size ≤ gb302) := WG hg (BB HB.out); have GE302 := GW302; replace HB := Aside0.mk (below_step (BB HB.out) hb); clear hb hbox hg) | ((with_reducible refine gate_dst (N := 3) rfl ?_); refine BX 3 #[.string a1_0, .string a1_1, .int .i64 a1_2] 192 ?_; intro gb303 hg w7 hbox hb; have BK303 := Aside0.mk (hbox); have GW303 : Aside0 (w.heap.size ≤ gb303) := WG hg (BB1 HB.out GE302.out); have GE303 := GW303; have NB302_303 := NL BK302.out hg; have NB303_302 := NG BK302.out hg; replace BK302 := Aside0.mk (KB BK302.out hb); replace HB := Aside0.mk (below_step (BB1 HB.out GE302.out) hb); clear hb hbox hg; have hnb8 := NB302_303.out; have hnc8 := NB303_302.out; have hcz9 := blk_cell BK302.out; have hfz9 := blk_frozen BK302.out; have hcz10 := blk_cell BK303.out; have hfz10 := blk_frozen BK303.out))
        go_ret
        exact ⟨ER, (BB2 HB.out GE302.out GE303.out)⟩
      · rw [if_neg c5] at H
        have c5b0 : (a0_2 == a1_2) = false := beq_eq_false_iff_ne.mpr c5
        have c5b1 : (a0_2 != a1_2) = true := bne_iff_ne.mpr c5
        exact absurd ((Option.some.inj H).trans hr_.out) (by decide)
    · rw [if_neg c4] at H
      have c4b0 : (a0_1.toList == a1_1.toList) = false := beq_eq_false_iff_ne.mpr c4
      have c4b1 : (a0_1.toList != a1_1.toList) = true := bne_iff_ne.mpr c4
      exact absurd ((Option.some.inj H).trans hr_.out) (by decide)
  · rw [if_neg c3] at H
    have c3b0 : (a0_0.toList == a1_0.toList) = false := beq_eq_false_iff_ne.mpr c3
    have c3b1 : (a0_0.toList != a1_0.toList) = true := bne_iff_ne.mpr c3
    exact absurd ((Option.some.inj H).trans hr_.out) (by decide)

end Go.Proofs.Ytfgnaneajonapaa.Pr

namespace Go.Proofs.Ytfgnaneajonapaa.Pr
open Go.RowKit Go.Proofs.YtfgnaneajonapaaW.PrintWords Go.Proofs.YtfgnaneajonapaaW.PrintLast Go.Proofs.YtfgnaneajonapaaW.PrintMore
attribute [local go_sem] max2_int min2_int max_two min_two max_three min_three max_four min_four
set_option linter.unusedVariables false
set_option linter.unusedSimpArgs false
def laws_eqFileS.l0 : Nat → List (S192) → List (S192) → Int → Option (Bool)
  | 0, _, _, _ => none
  | k + 1, x0, x1, x5 => if x5 < (x0.length : Int) then (if 0 ≤ x5 then (if x5 < (x1.length : Int) then ((laws_eqFile.f ((rd_T192 x0 x5).f0) ((rd_T192 x0 x5).f1) ((rd_T192 x0 x5).f2) ((rd_T192 x1 x5).f0) ((rd_T192 x1 x5).f1) ((rd_T192 x1 x5).f2)).bind fun t306 => (if t306 = true then (laws_eqFileS.l0 k x0 x1 (wrap64 (x5 + 1))) else (some false))) else (none)) else (none)) else (some true)
def laws_eqFileS.f (k : Nat) (l0 : List (S192)) (l1 : List (S192)) : Option (Bool) := if (l0.length : Int) = (l1.length : Int) then (laws_eqFileS.l0 k l0 l1 0) else (some false)
def laws_eqFileS.T6 : Bool × List (List Nat × List Nat) := (true, [([], []), ([], []), ([0, 1], [0, 1]), ([2], [2]), ([], []), ([], []), ([4, 5], [4, 5]), ([6], [6]), ([3, 7], [3, 7]), ([8], [8])])
def laws_eqFileS.B6 : List Nat := [0, 0, 3, 7, 0, 0, 48, 112, 255, 511]
theorem laws_eqFileS.tab6 : rtab .any (opsOf Try.f109 6) = laws_eqFileS.T6 := by kernel_rfl
theorem laws_eqFileS.bits6 : waitsOk laws_eqFileS.T6.2 laws_eqFileS.B6 = true := by kernel_rfl
set_option maxHeartbeats 8000000 in
set_option maxRecDepth 100000 in
theorem laws_eqFileS.calls (k : Nat) (A0 : Option Addr) (c0 : Nat) (l0 : List (S192)) (A1 : Option Addr) (c1 : Nat) (l1 : List (S192)) (r : Bool) (w : World) (hr0 : Kd.C k192 w A0 l0.length l0) (hc0 : l0.length ≤ c0) (hr1 : Kd.C k192 w A1 l1.length l1) (hc1 : l1.length ≤ c1) (h : laws_eqFileS.f k l0 l1 = some r) (hr_ : Aside0 (r = true) := by exact ⟨rfl⟩) :
    Calls Try.prog 109 #[.slice A0 l0.length c0, .slice A1 l1.length c1] w fun e w' => e = .returned (.bool r) ∧ Below w.heap.size w w' := by
  have hu192 := Try.underlying192
  have HR0 := Aside0.mk hr0
  have HC0 := Aside0.mk hc0
  clear hr0 hc0
  have HR1 := Aside0.mk hr1
  have HC1 := Aside0.mk hc1
  clear hr1 hc1
  have HB := Aside0.mk (Below.refl w.heap.size w)
  have H : (if (l0.length : Int) = (l1.length : Int) then (laws_eqFileS.l0 k l0 l1 0) else (some false)) = some r := h
  clear h
  by_cases c3 : (l0.length : Int) = (l1.length : Int)
  · rw [if_pos c3] at H
    have c3b0 : ((l0.length : Int) == (l1.length : Int)) = true := beq_iff_eq.mpr c3
    have c3b1 : ((l0.length : Int) != (l1.length : Int)) = false := bne_eq_false_iff_eq.mpr c3
    have c3b2 : (l0.length == l1.length) = true := by first | simpa using c3 | (simp at c3 ⊢; omega)
    clear c3
    have H' := Aside0.mk H
    clear H
    go_enter Try.func109, Try.ntmps109
    go_wp2
    go_loopg [5] k (fun kq v5 w' => ∃ (x5_1 : Int), v5 = .int .i64 x5_1 ∧ Aside0 (laws_eqFileS.l0 kq l0 l1 x5_1 = some r) ∧ Aside0 (kq ≤ k) ∧ Aside0 (Below w.heap.size w w'))
    case atStart => exact ⟨(0), FR, H', ⟨Nat.le_refl _⟩, ⟨(BB HB.out)⟩⟩
    case round =>
      clear H'
      try clear c1
      try clear p2
      try clear c3
      try clear c3b0
      try clear c3b1
      try clear c3b2
      obtain ⟨x5_1, rfl, HA, HK1, HB⟩ := hrel
      cases gk with
      | zero => exact absurd HA.out (by simp [laws_eqFileS.l0])
      | succ k1 =>
        have H := HA.out
        clear HA
        simp only [laws_eqFileS.l0] at H
        by_cases c4 : x5_1 < (l0.length : Int)
        · rw [if_pos c4] at H
          have c4b0 : decide (x5_1 < (l0.length : Int)) = true := decide_eq_true c4
          clear c4
          by_cases c5 : 0 ≤ x5_1
          · rw [if_pos c5] at H
            have c5b0 : decide (0 ≤ x5_1) = true := decide_eq_true c5
            clear c5
            by_cases c6 : x5_1 < (l1.length : Int)
            · rw [if_pos c6] at H
              have c6b0 : decide (x5_1 < (l1.length : Int)) = true := decide_eq_true c6
              clear c6
              replace H := Option.bind_eq_some_iff.mp H
              obtain ⟨t306, A70, H⟩ := H
              replace H : (if t306 = true then (laws_eqFileS.l0 k1 l0 l1 (wrap64 (x5_1 + 1))) else (some false)) = some r := H
              have A7 := Aside0.mk A70
              clear A70
              by_cases c8 : t306 = true
              · subst c8
                have H1 : (laws_eqFileS.l0 k1 l0 l1 (wrap64 (x5_1 + 1))) = some r := by rw [if_pos rfl] at H; exact H
                clear H
                have H := H1
                clear H1
                have H' := Aside0.mk H
                clear H
                try go_wp2
                have n0_ := Aside0.mk (below_drew1 HB.out)
                clear HB
                have HB := n0_
                clear n0_
                have p304 : 0 ≤ (x5_1 : Int) := DT
                have q304 : x5_1 < (l0.length : Int) := DT
                obtain ⟨ad304, e304, hx304_0, hx304_1, hx304_2⟩ := at_T192 HR0.out x5_1 p304 q304
                have hw304_2 := hx304_2
                have hw304_1 := hx304_1
                have hw304_0 := hx304_0
                cases e304
                replace hx304_0 := (HB.out.cell (World.block_lt_of_cell? w _ hx304_0)).trans hx304_0
                replace hx304_1 := (HB.out.cell (World.block_lt_of_cell? w _ hx304_1)).trans hx304_1
                replace hx304_2 := (HB.out.cell (World.block_lt_of_cell? w _ hx304_2)).trans hx304_2
                replace p304 := eq_true p304
                replace q304 := eq_true q304
                have p305 : 0 ≤ (x5_1 : Int) := DT
                have q305 : x5_1 < (l1.length : Int) := DT
                obtain ⟨ad305, e305, hx305_0, hx305_1, hx305_2⟩ := at_T192 HR1.out x5_1 p305 q305
                have hw305_2 := hx305_2
                have hw305_1 := hx305_1
                have hw305_0 := hx305_0
                cases e305
                replace hx305_0 := (HB.out.cell (World.block_lt_of_cell? w _ hx305_0)).trans hx305_0
                replace hx305_1 := (HB.out.cell (World.block_lt_of_cell? w _ hx305_1)).trans hx305_1
                replace hx305_2 := (HB.out.cell (World.block_lt_of_cell? w _ hx305_2)).trans hx305_2
                replace p305 := eq_true p305
                replace q305 := eq_true q305
                refine start_ (n := 10) (S := fun w' => w'.cell? (ad304.add ((x5_1).toNat * 3)) = some (.string ((rd_T192 l0 x5_1).f0)) ∧ w'.cell? ⟨(ad304.add ((x5_1).toNat * 3)).block, (ad304.add ((x5_1).toNat * 3)).off + 1, none⟩ = some (.string ((rd_T192 l0 x5_1).f1)) ∧ w'.cell? ⟨(ad304.add ((x5_1).toNat * 3)).block, (ad304.add ((x5_1).toNat * 3)).off + 2, none⟩ = some (.int .i64 ((rd_T192 l0 x5_1).f2)) ∧ w'.cell? (ad305.add ((x5_1).toNat * 3)) = some (.string ((rd_T192 l1 x5_1).f0)) ∧ w'.cell? ⟨(ad305.add ((x5_1).toNat * 3)).block, (ad305.add ((x5_1).toNat * 3)).off + 1, none⟩ = some (.string ((rd_T192 l1 x5_1).f1)) ∧ w'.cell? ⟨(ad305.add ((x5_1).toNat * 3)).block, (ad305.add ((x5_1).toNat * 3)).off + 2, none⟩ = some (.int .i64 ((rd_T192 l1 x5_1).f2))) (ds := []) #[false, false, false, false, false, false, false, false, false, false] (by kernel_rfl) rfl rfl ⟨((HB.out.cell (World.block_lt_of_cell? w _ hw304_0)).trans hw304_0), ((HB.out.cell (World.block_lt_of_cell? w _ hw304_1)).trans hw304_1), ((HB.out.cell (World.block_lt_of_cell? w _ hw304_2)).trans hw304_2), ((HB.out.cell (World.block_lt_of_cell? w _ hw305_0)).trans hw305_0), ((HB.out.cell (World.block_lt_of_cell? w _ hw305_1)).trans hw305_1), ((HB.out.cell (World.block_lt_of_cell? w _ hw305_2)).trans hw305_2)⟩ (fun hHeld => ?_); refine with_tabW laws_eqFileS.tab6 laws_eqFileS.bits6 (fun HT_ HW_ => ?_)
                generalize wr.drew = w9 at HB hx304_0 hx304_1 hx304_2 hx305_0 hx305_1 hx305_2 hHeld ⊢
                refine pure_ (i := 0) (N := some 17) (v := ?_) (a' := ?_) #[true, false, false, false, false, false, false, false, false, false] rfl rfl (any_of HT_.out (by kernel_rfl)) (fun _ _ _ h => h) (Or.inl ⟨by rfl, ?_⟩) ?_ ?_
                rotate_left
                · intro w'
                  go_simp
                  with_reducible rfl
                rotate_left
                · simp only [Act.put, List.setIfInBounds_toArray, List.set_cons_zero, List.set_cons_succ, i64_w, i32_w]
                  rfl
                refine pure_ (i := 1) (N := some 18) (v := ?_) (a' := ?_) #[true, true, false, false, false, false, false, false, false, false] rfl rfl (any_of HT_.out (by kernel_rfl)) (fun _ _ _ h => h) (Or.inl ⟨by rfl, ?_⟩) ?_ ?_
                rotate_left
                · intro w'
                  go_simp
                  with_reducible rfl
                rotate_left
                · simp only [Act.put, List.setIfInBounds_toArray, List.set_cons_zero, List.set_cons_succ, i64_w, i32_w]
                  rfl
                refine pure_ (i := 2) (N := some 19) (v := ?_) (a' := ?_) #[true, true, true, false, false, false, false, false, false, false] rfl rfl (any_of HT_.out (by kernel_rfl)) (fun _ _ _ h => h) (Or.inl ⟨by rfl, ?_⟩) ?_ ?_
                rotate_left
                · intro w'
                  go_simp
                  with_reducible rfl
                rotate_left
                · simp only [Act.put, List.setIfInBounds_toArray, List.set_cons_zero, List.set_cons_succ, i64_w, i32_w]
                  rfl
                refine pure_ (i := 4) (N := some 21) (v := ?_) (a' := ?_) #[true, true, true, false, true, false, false, false, false, false] rfl rfl (any_of HT_.out (by kernel_rfl)) (fun _ _ _ h => h) (Or.inl ⟨by rfl, ?_⟩) ?_ ?_
                rotate_left
                · intro w'
                  go_simp
                  with_reducible rfl
                rotate_left
                · simp only [Act.put, List.setIfInBounds_toArray, List.set_cons_zero, List.set_cons_succ, i64_w, i32_w]
                  rfl
                refine pure_ (i := 5) (N := some 22) (v := ?_) (a' := ?_) #[true, true, true, false, true, true, false, false, false, false] rfl rfl (any_of HT_.out (by kernel_rfl)) (fun _ _ _ h => h) (Or.inl ⟨by rfl, ?_⟩) ?_ ?_
                rotate_left
                · intro w'
                  go_simp
                  with_reducible rfl
                rotate_left
                · simp only [Act.put, List.setIfInBounds_toArray, List.set_cons_zero, List.set_cons_succ, i64_w, i32_w]
                  rfl
                refine pure_ (i := 6) (N := some 23) (v := ?_) (a' := ?_) #[true, true, true, false, true, true, true, false, false, false] rfl rfl (any_of HT_.out (by kernel_rfl)) (fun _ _ _ h => h) (Or.inl ⟨by rfl, ?_⟩) ?_ ?_
                rotate_left
                · intro w'
                  go_simp
                  with_reducible rfl
                rotate_left
                · simp only [Act.put, List.setIfInBounds_toArray, List.set_cons_zero, List.set_cons_succ, i64_w, i32_w]
                  rfl
                refine take_ (i := 3) (N := some 20) (v := ?_) (a' := ?_) #[true, true, true, true, true, true, true, false, false, false] rfl rfl (take_ofW HT_.out HW_.out (by kernel_rfl)) (fun _ _ _ h => h) (Or.inl ⟨by rfl, ?_⟩) hHeld ?_ ?_
                rotate_left
                · rintro w' ⟨s0, s1, s2, s3, s4, s5⟩
                  go_simp
                  with_reducible rfl
                rotate_left
                · simp only [Act.put, List.setIfInBounds_toArray, List.set_cons_zero, List.set_cons_succ, i64_w, i32_w]
                  rfl
                refine take_ (i := 7) (N := some 24) (v := ?_) (a' := ?_) #[true, true, true, true, true, true, true, true, false, false] rfl rfl (take_ofW HT_.out HW_.out (by kernel_rfl)) (fun _ _ _ h => h) (Or.inl ⟨by rfl, ?_⟩) hHeld ?_ ?_
                rotate_left
                · rintro w' ⟨s0, s1, s2, s3, s4, s5⟩
                  go_simp
                  with_reducible rfl
                rotate_left
                · simp only [Act.put, List.setIfInBounds_toArray, List.set_cons_zero, List.set_cons_succ, i64_w, i32_w]
                  rfl
                refine one_ (i := 8) (N := some 25) #[true, true, true, true, true, true, true, true, true, false] rfl rfl (one_of HT_.out (by kernel_rfl)) (by decide) (fun K hK => ?_)
                refine goes_ Try.func153 (by kernel_rfl) rfl #[.agg #[.string ((rd_T192 l0 x5_1).f0), .string ((rd_T192 l0 x5_1).f1), .int .i64 ((rd_T192 l0 x5_1).f2)], .agg #[.string ((rd_T192 l1 x5_1).f0), .string ((rd_T192 l1 x5_1).f1), .int .i64 ((rd_T192 l1 x5_1).f2)]] (by rfl) rfl rfl (by (try simp only [List.map_toArray, List.map_cons, List.map_nil]); first | done | rfl | (simp only [List.length_drop, List.length_take]; rfl)) ?_
                with_reducible refine (laws_eqFile.calls ((rd_T192 l0 x5_1).f0) ((rd_T192 l0 x5_1).f1) ((rd_T192 l0 x5_1).f2) ((rd_T192 l1 x5_1).f0) ((rd_T192 l1 x5_1).f1) ((rd_T192 l1 x5_1).f2) true _ A7.out).mono ?_
                rintro e w10 ⟨rfl, hb⟩
                refine ⟨_, rfl, ?_⟩
                have n0_ := Aside0.mk (below_step (BB HB.out) hb)
                clear HB
                have HB := n0_
                clear n0_
                (try clear hb)
                (try clear hb2)
                (try clear hk)
                (try clear hi)
                refine hK.out _ _ ⟨((HB.out.cell (World.block_lt_of_cell? w _ hw304_0)).trans hw304_0), ((HB.out.cell (World.block_lt_of_cell? w _ hw304_1)).trans hw304_1), ((HB.out.cell (World.block_lt_of_cell? w _ hw304_2)).trans hw304_2), ((HB.out.cell (World.block_lt_of_cell? w _ hw305_0)).trans hw305_0), ((HB.out.cell (World.block_lt_of_cell? w _ hw305_1)).trans hw305_1), ((HB.out.cell (World.block_lt_of_cell? w _ hw305_2)).trans hw305_2)⟩ (fun hHeld => ?_)
                clear hK K
                refine norm_ (a' := ?_) ?_ ?_
                rotate_left
                · show Act.put _ (some 25) _ = _
                  simp only [Act.put, List.setIfInBounds_toArray, List.set_cons_zero, List.set_cons_succ, i64_w, i32_w]
                  rfl
                refine pure_ (i := 9) (N := some 26) (v := ?_) (a' := ?_) #[true, true, true, true, true, true, true, true, true, true] rfl rfl (any_of HT_.out (by kernel_rfl)) (fun _ _ _ h => h) (Or.inl ⟨by rfl, ?_⟩) ?_ ?_
                rotate_left
                · intro w'
                  go_simp
                  with_reducible rfl
                rotate_left
                · simp only [Act.put, List.setIfInBounds_toArray, List.set_cons_zero, List.set_cons_succ, i64_w, i32_w]
                  rfl
                refine done_ (done_of HT_.out (by kernel_rfl)) ?_
                try go_wp2
                go_roundg k1
                case measure => have := HK1.out; omega
                case rel => exact ⟨(wrap64 (x5_1 + 1)), FR, H', ⟨by have := HK1.out; omega⟩, ⟨(BB HB.out)⟩⟩
              · replace c8 := Bool.eq_false_iff.mpr c8
                subst c8
                have H1 : (some false) = some r := by rw [if_neg (show ¬ (false = true) by decide)] at H; exact H
                clear H
                have H := H1
                clear H1
                exact absurd ((Option.some.inj H).trans hr_.out) (by decide)
            · rw [if_neg c6] at H
              exact absurd H (by simp)
          · rw [if_neg c5] at H
            exact absurd H (by simp)
        · rw [if_neg c4] at H
          have c4b0 : decide (x5_1 < (l0.length : Int)) = false := decide_eq_false c4
          clear c4
          obtain rfl := Option.some.inj H
          go_wp2
          go_ret
          exact ⟨ER, (BB HB.out)⟩
  · rw [if_neg c3] at H
    have c3b0 : ((l0.length : Int) == (l1.length : Int)) = false := beq_eq_false_iff_ne.mpr c3
    have c3b1 : ((l0.length : Int) != (l1.length : Int)) = true := bne_iff_ne.mpr c3
    have c3b2 : (l0.length == l1.length) = false := by first | simpa using c3 | (simp at c3 ⊢; omega)
    exact absurd ((Option.some.inj H).trans hr_.out) (by decide)

end Go.Proofs.Ytfgnaneajonapaa.Pr

namespace Go.Proofs.Ytfgnaneajonapaa.Pr
open Go.RowKit Go.Proofs.YtfgnaneajonapaaW.PrintWords Go.Proofs.YtfgnaneajonapaaW.PrintLast Go.Proofs.YtfgnaneajonapaaW.PrintMore
attribute [local go_sem] max2_int min2_int max_two min_two max_three min_three max_four min_four
set_option linter.unusedVariables false
set_option linter.unusedSimpArgs false
end Go.Proofs.Ytfgnaneajonapaa.Pr

namespace Go.Proofs.Ytfgnaneajonapaa.Pr
open Go.RowKit Go.Proofs.YtfgnaneajonapaaW.PrintWords Go.Proofs.YtfgnaneajonapaaW.PrintLast Go.Proofs.YtfgnaneajonapaaW.PrintMore
attribute [local go_sem] max2_int min2_int max_two min_two max_three min_three max_four min_four
set_option linter.unusedVariables false
set_option linter.unusedSimpArgs false
end Go.Proofs.Ytfgnaneajonapaa.Pr

namespace Go.Proofs.Ytfgnaneajonapaa.Pr
open Go.RowKit Go.Proofs.YtfgnaneajonapaaW.PrintWords Go.Proofs.YtfgnaneajonapaaW.PrintLast Go.Proofs.YtfgnaneajonapaaW.PrintMore
attribute [local go_sem] max2_int min2_int max_two min_two max_three min_three max_four min_four
set_option linter.unusedVariables false
set_option linter.unusedSimpArgs false
end Go.Proofs.Ytfgnaneajonapaa.Pr

namespace Go.Proofs.Ytfgnaneajonapaa.Pr
open Go.RowKit Go.Proofs.YtfgnaneajonapaaW.PrintWords Go.Proofs.YtfgnaneajonapaaW.PrintLast Go.Proofs.YtfgnaneajonapaaW.PrintMore
attribute [local go_sem] max2_int min2_int max_two min_two max_three min_three max_four min_four
set_option linter.unusedVariables false
set_option linter.unusedSimpArgs false
end Go.Proofs.Ytfgnaneajonapaa.Pr

namespace Go.Proofs.Ytfgnaneajonapaa.Lw
open Go.RowKit Go.Proofs.YtfgnaneajonapaaW.PrintWords Go.Proofs.Ytfgnaneajonapaa.Pr Go.Proofs.Ytfgnaneajonapaa.Evs
set_option linter.unusedVariables false
abbrev ImFile := S192
def lnFile (x : ImFile) : Prop := True
theorem rd192 (p s : List S192) (x : S192) : rd_T192 (p ++ x :: s) (p.length : Int) = x := by unfold rd_T192; exact getD_mid' p s x _ _ rfl
theorem eqFile_refl (x : ImFile) : laws_eqFile.f (x.f0) (x.f1) (x.f2) (x.f0) (x.f1) (x.f2) = some true := by unfold laws_eqFile.f; simp
theorem eqFileS_loop (s : List ImFile) : ∀ (p : List ImFile), p.length + s.length < 9223372036854775807 → Ev (fun k => laws_eqFileS.l0 k (p ++ s) (p ++ s) (p.length : Int)) true := by
  induction s with
  | nil => intro p hl; exact ev_step (fun k => laws_eqFileS.l0.eq_2 _ _ _ k) (ev_neg (by simp) (ev_some _))
  | cons x s ih =>
    intro p hl
    simp at hl
    refine ev_step (fun k => laws_eqFileS.l0.eq_2 _ _ _ k) (ev_pos (by simp; omega) (ev_pos (by omega) (ev_pos (by simp; omega) (ev_call (by rw [rd192]; exact eqFile_refl x) (ev_pos rfl ?_)))))
    rw [wrap_succ (by omega) (by omega)]
    simpa using ih (p ++ [x]) (by simp; omega)
theorem eqFileS_ev (l : List ImFile) (hl : l.length < 9223372036854775807) : Ev (fun k => laws_eqFileS.f k l l) true := by
  unfold laws_eqFileS.f
  refine ev_pos rfl ?_
  simpa using eqFileS_loop l [] (by simp; omega)
end Go.Proofs.Ytfgnaneajonapaa.Lw

namespace Go.Proofs.Ytfgnaneajonapaa.Pr
open Go.RowKit Go.Proofs.YtfgnaneajonapaaW.PrintWords Go.Proofs.YtfgnaneajonapaaW.PrintLast Go.Proofs.YtfgnaneajonapaaW.PrintMore
attribute [local go_sem] max2_int min2_int max_two min_two max_three min_three max_four min_four
set_option linter.unusedVariables false
set_option linter.unusedSimpArgs false
def laws_markFileS.l0 : Nat → List (S192) → Int → Int → Option (Int × (List (S192)))
  | 0, _, _, _ => none
  | k + 1, x0, x1, x5 => if x5 < (x0.length : Int) then ((laws_markText.f k x1).bind fun t323 => (if 0 ≤ x5 then ((some (x0.set (x5 : Int).toNat (⟨t323, (rd_T192 x0 x5).f1, (rd_T192 x0 x5).f2⟩ : S192) : List (S192))).bind fun y324 => ((laws_markText.f k (wrap64 (x1 + 1))).bind fun t325 => ((some (y324.set (x5 : Int).toNat (⟨(rd_T192 y324 x5).f0, t325, (rd_T192 y324 x5).f2⟩ : S192) : List (S192))).bind fun y326 => (laws_markFileS.l0 k (y326.set (x5 : Int).toNat (⟨(rd_T192 y326 x5).f0, (rd_T192 y326 x5).f1, wrap64 ((wrap64 (x1 + 1)) + 1)⟩ : S192)) (wrap64 ((wrap64 ((wrap64 (x1 + 1)) + 1)) + 1)) (wrap64 (x5 + 1)))))) else (none))) else (some (x1, x0))
def laws_markFileS.f (k : Nat) (l0 : List (S192)) (a1 : Int) : Option (Int × (List (S192))) := laws_markFileS.l0 k l0 a1 0
set_option maxHeartbeats 8000000 in
set_option maxRecDepth 100000 in
theorem laws_markFileS.calls (k : Nat) (P0_ : Nat → Prop) (u9000_ : Value) (l0 : List (S192)) (a1 : Int) (r1 : Int) (r2 : List (S192)) (w0 w : World) (hB : Below w0.heap.size w0 w) (ho0 : Kd.R k192 192 w w0.heap.size P0_ u9000_ l0) (h : laws_markFileS.f k l0 a1 = some (r1, r2)) :
    Calls Try.prog 112 #[u9000_, .int .i64 a1] w fun e w' => e = .returned (.int .i64 r1) ∧ Kd.R k192 192 w' w0.heap.size (fun k_ => (P0_ k_ ∨ w.heap.size ≤ k_)) u9000_ r2 ∧ Below w0.heap.size w0 w' ∧ Kept w w' (fun k_ => P0_ k_) := by
  have HO0 := Aside0.mk (show Kd.R k192 192 w w0.heap.size (fun k_ => (P0_ k_ ∨ w.heap.size ≤ k_)) u9000_ l0 from Kd.R_mono ho0 (fun k_ hk => (.inl hk)))
  have HK := Aside0.mk (Kept.refl w (fun k_ => P0_ k_))
  have HW0 := Aside0.mk hB.size
  have HB := Aside0.mk hB
  clear hB
  have H : (laws_markFileS.l0 k l0 a1 0) = some (r1, r2) := h
  clear h
  have H' := Aside0.mk H
  clear H
  go_enter Try.func112, Try.ntmps112
  go_wp2
  go_loopg [1, 5] k (fun kq v1 v5 w' => ∃ (x0_1 : List (S192)) (x1_1 : Int) (x5_1 : Int), v1 = .int .i64 x1_1 ∧ v5 = .int .i64 x5_1 ∧ Aside0 (laws_markFileS.l0 kq x0_1 x1_1 x5_1 = some (r1, r2)) ∧ Aside0 (kq ≤ k) ∧ Aside0 (Kd.R k192 192 w' w0.heap.size (fun k_ => (P0_ k_ ∨ w.heap.size ≤ k_)) u9000_ x0_1) ∧ Aside0 (Kept w w' (fun k_ => P0_ k_)) ∧ Aside0 (Below w0.heap.size w0 w'))
  case atStart => exact ⟨(l0), (a1), (0), FR, FR, H', ⟨Nat.le_refl _⟩, ⟨(RR HO0.out)⟩, ⟨by repeat (first | (with_reducible first | exact HK.out | apply Kept.alloc | apply Kept.drewN | apply Kept.drew) | exact HK.out)⟩, ⟨(BB HB.out)⟩⟩
  case round =>
    clear H'
    try clear c1
    try clear p2
    obtain ⟨x0_1, x1_1, x5_1, rfl, rfl, HA, HK1, HO_0, HK, HB⟩ := hrel
    cases gk with
    | zero => exact absurd HA.out (by simp [laws_markFileS.l0])
    | succ k1 =>
      have H := HA.out
      clear HA
      simp only [laws_markFileS.l0] at H
      by_cases c3 : x5_1 < (x0_1.length : Int)
      · rw [if_pos c3] at H
        have c3b0 : decide (x5_1 < (x0_1.length : Int)) = true := decide_eq_true c3
        clear c3
        replace H := Option.bind_eq_some_iff.mp H
        obtain ⟨t323, A40, H⟩ := H
        replace H : (if 0 ≤ x5_1 then ((some (x0_1.set (x5_1 : Int).toNat (⟨t323, (rd_T192 x0_1 x5_1).f1, (rd_T192 x0_1 x5_1).f2⟩ : S192) : List (S192))).bind fun y324 => ((laws_markText.f k1 (wrap64 (x1_1 + 1))).bind fun t325 => ((some (y324.set (x5_1 : Int).toNat (⟨(rd_T192 y324 x5_1).f0, t325, (rd_T192 y324 x5_1).f2⟩ : S192) : List (S192))).bind fun y326 => (laws_markFileS.l0 k1 (y326.set (x5_1 : Int).toNat (⟨(rd_T192 y326 x5_1).f0, (rd_T192 y326 x5_1).f1, wrap64 ((wrap64 (x1_1 + 1)) + 1)⟩ : S192)) (wrap64 ((wrap64 ((wrap64 (x1_1 + 1)) + 1)) + 1)) (wrap64 (x5_1 + 1)))))) else (none)) = some (r1, r2) := H
        have A4 := Aside0.mk A40
        clear A40
        by_cases c5 : 0 ≤ x5_1
        · rw [if_pos c5] at H
          have c5b0 : decide (0 ≤ x5_1) = true := decide_eq_true c5
          clear c5
          obtain ⟨y324, hy324⟩ : ∃ y_ : List (S192), y_ = (x0_1.set (x5_1 : Int).toNat (⟨t323, (rd_T192 x0_1 x5_1).f1, (rd_T192 x0_1 x5_1).f2⟩ : S192)) := ⟨_, rfl⟩
          replace H : ((laws_markText.f k1 (wrap64 (x1_1 + 1))).bind fun t325 => ((some (y324.set (x5_1 : Int).toNat (⟨(rd_T192 y324 x5_1).f0, t325, (rd_T192 y324 x5_1).f2⟩ : S192) : List (S192))).bind fun y326 => (laws_markFileS.l0 k1 (y326.set (x5_1 : Int).toNat (⟨(rd_T192 y326 x5_1).f0, (rd_T192 y326 x5_1).f1, wrap64 ((wrap64 (x1_1 + 1)) + 1)⟩ : S192)) (wrap64 ((wrap64 ((wrap64 (x1_1 + 1)) + 1)) + 1)) (wrap64 (x5_1 + 1))))) = some (r1, r2) := by first | (rw [hy324]; with_reducible exact H) | (have H2_ := (Option.bind_some _ _).symm.trans H; rw [hy324]; with_reducible exact H2_) | (have H2_ := (Option.bind_some _ _).symm.trans H; with_reducible exact H2_) | with_reducible exact H | (rw [hy324]; exact H) | exact H
          have Ny324 := Aside0.mk hy324
          clear hy324
          replace H := Option.bind_eq_some_iff.mp H
          obtain ⟨t325, A70, H⟩ := H
          replace H : ((some (y324.set (x5_1 : Int).toNat (⟨(rd_T192 y324 x5_1).f0, t325, (rd_T192 y324 x5_1).f2⟩ : S192) : List (S192))).bind fun y326 => (laws_markFileS.l0 k1 (y326.set (x5_1 : Int).toNat (⟨(rd_T192 y326 x5_1).f0, (rd_T192 y326 x5_1).f1, wrap64 ((wrap64 (x1_1 + 1)) + 1)⟩ : S192)) (wrap64 ((wrap64 ((wrap64 (x1_1 + 1)) + 1)) + 1)) (wrap64 (x5_1 + 1)))) = some (r1, r2) := H
          have A7 := Aside0.mk A70
          clear A70
          obtain ⟨y326, hy326⟩ : ∃ y_ : List (S192), y_ = (y324.set (x5_1 : Int).toNat (⟨(rd_T192 y324 x5_1).f0, t325, (rd_T192 y324 x5_1).f2⟩ : S192)) := ⟨_, rfl⟩
          replace H : (laws_markFileS.l0 k1 (y326.set (x5_1 : Int).toNat (⟨(rd_T192 y326 x5_1).f0, (rd_T192 y326 x5_1).f1, wrap64 ((wrap64 (x1_1 + 1)) + 1)⟩ : S192)) (wrap64 ((wrap64 ((wrap64 (x1_1 + 1)) + 1)) + 1)) (wrap64 (x5_1 + 1))) = some (r1, r2) := by first | (rw [hy326]; with_reducible exact H) | (have H2_ := (Option.bind_some _ _).symm.trans H; rw [hy326]; with_reducible exact H2_) | (have H2_ := (Option.bind_some _ _).symm.trans H; with_reducible exact H2_) | with_reducible exact H | (rw [hy326]; exact H) | exact H
          have Ny326 := Aside0.mk hy326
          clear hy326
          obtain ⟨y327, hy327⟩ : ∃ y_ : List (S192), y_ = (y326.set (x5_1 : Int).toNat (⟨(rd_T192 y326 x5_1).f0, (rd_T192 y326 x5_1).f1, wrap64 ((wrap64 (x1_1 + 1)) + 1)⟩ : S192)) := ⟨_, rfl⟩
          replace H : (laws_markFileS.l0 k1 y327 (wrap64 ((wrap64 ((wrap64 (x1_1 + 1)) + 1)) + 1)) (wrap64 (x5_1 + 1))) = some (r1, r2) := by first | (rw [hy327]; with_reducible exact H) | (have H2_ := (Option.bind_some _ _).symm.trans H; rw [hy327]; with_reducible exact H2_) | (have H2_ := (Option.bind_some _ _).symm.trans H; with_reducible exact H2_) | with_reducible exact H | (rw [hy327]; exact H) | exact H
          have Ny327 := Aside0.mk hy327
          clear hy327
          have H' := Aside0.mk H
          clear H
          obtain ⟨Ao10, co10, eo10⟩ := Kd.R_slice HO_0.out
          subst eo10
          go_wp2_with (first | ((with_reducible refine gate_callee (f := 60) rfl ?_); refine GL (some 15) rfl rfl Try.func60 #[.int .i64 x1_1] rfl ?_; (with_reducible refine (laws_markText.calls k1 x1_1 t323 _ A4.out).mono ?_); rintro e w11 ⟨rfl, hb⟩; refine ⟨_, rfl, ?_⟩; replace HO_0 := Aside0.mk (Kd.R_below (RR HO_0.out) hb); replace HK := Aside0.mk (Kept.below (S := (fun k_ => P0_ k_)) (by repeat (first | (with_reducible first | exact HK.out | apply Kept.alloc | apply Kept.drewN | apply Kept.drew) | exact HK.out)) hb); replace HB := Aside0.mk (below_step (BB HB.out) hb); (try clear hb); have p6 : 0 ≤ (x5_1 : Int) := DT; have q6 : (x5_1 : Int) < ((x0_1.length : Int) : Int) := DT; obtain ⟨go6, co6, eo6, gb6, gl6, cl6, HG6⟩ := Kd.R_form HO_0.out (by omega); (first | cases eo6 | (injection eo6 with ea_ en_ ec_; (first | subst ea_ | (injection ea_ with ea_; subst ea_)); subst ec_; clear en_)); have GB6 := Aside0.mk gb6; have GG6 := Aside0.mk HG6; clear gb6 gl6 HG6; have HMgo6 := Aside0.mk (show (P0_ go6 ∨ w.heap.size ≤ go6) from (HO_0.out.1 _ rfl)); obtain ⟨ce6, hcl6, hM6, hcc6, hfr6⟩ := Kd.R_elem HO_0.out z192 (x5_1 : Int) p6 q6; obtain rfl := k192_openM hM6; have hx6_0 : w11.cell? ⟨go6, (x5_1 : Int).toNat * 3, none⟩ = some (.string ((rd_T192 x0_1 x5_1).f0)) := hcc6 0 _ rfl; have hx6_1 : w11.cell? ⟨go6, (x5_1 : Int).toNat * 3 + 1, none⟩ = some (.string ((rd_T192 x0_1 x5_1).f1)) := hcc6 1 _ rfl; have hx6_2 : w11.cell? ⟨go6, (x5_1 : Int).toNat * 3 + 2, none⟩ = some (.int .i64 ((rd_T192 x0_1 x5_1).f2)) := hcc6 2 _ rfl; have hf6_0 : w11.frozen? ⟨go6, (x5_1 : Int).toNat * 3, none⟩ = false := hfr6 0; have hf6_1 : w11.frozen? ⟨go6, (x5_1 : Int).toNat * 3 + 1, none⟩ = false := hfr6 1; have hf6_2 : w11.frozen? ⟨go6, (x5_1 : Int).toNat * 3 + 2, none⟩ = false := hfr6 2; clear hcl6 hcc6 hfr6 hM6; replace p6 := eq_true p6; replace q6 := eq_true q6; have HX12 := Aside0.mk (show Kd.R k192 192 w11 w0.heap.size (fun k_ => (P0_ k_ ∨ w.heap.size ≤ k_)) (.slice (some ⟨go6, 0, none⟩) x0_1.length co10) x0_1 from (RR HO_0.out)); obtain ⟨ce12, hcl12, hM12, hcc12, hfr12⟩ := Kd.R_elem HX12.out z192 (x5_1 : Int) DT (by have h_ : (x5_1 : Int) < ((x0_1.length : Int) : Int) := DT; first | exact h_ | (have e_ := (Kd.R_reads' HO_0.out).1; omega) | simpa using h_); obtain rfl := k192_openM hM12; have HP12 := Kd.R_seg HX12.out (x5_1 : Int) DT (by have h_ : (x5_1 : Int) < ((x0_1.length : Int) : Int) := DT; first | exact h_ | (have e_ := (Kd.R_reads' HO_0.out).1; omega) | simpa using h_) (seg := [.string t323]) (j := 0) hcl12 hcc12 (show 1 ≤ 3 from by decide) (x' := (⟨t323, (rd_T192 x0_1 x5_1).f1, (rd_T192 x0_1 x5_1).f2⟩ : S192)) (k192_mkM _ _ _ (⟨t323, (rd_T192 x0_1 x5_1).f1, (rd_T192 x0_1 x5_1).f2⟩ : S192) ) (fun _ hk => hk); have hx12_0 := hcc12 0 _ rfl; (try simp only [show (k192).sz = 3 from rfl, Nat.mul_one, Nat.add_zero] at hx12_0); have hf12_0 := hfr12 0; (try simp only [show (k192).sz = 3 from rfl, Nat.mul_one, Nat.add_zero] at hf12_0); clear hcl12 hcc12 hfr12 hM12) | ((with_reducible refine gate_store (t := 9) (p := 17) rfl ?_); refine store_event (t := 9) (p := 17) (v := ?vo_w13) (w1 := (w11.setCell ⟨go6, (x5_1 : Int).toNat * 3, none⟩ (.string t323))) ?hg ?ho ?hn ?hr ?_; (case ho => rfl); (case hg => rfl); (case hn => rfl); (case hr => first | (go_simp; done) | (go_simp; rfl)); intro w13 hw; have hg : w11.grownBy w13 (some go6) := (by rw [hw]; exact HP12.2); have hp_ : Kd.R k192 192 w13 w0.heap.size (fun k_ => (P0_ k_ ∨ w.heap.size ≤ k_)) (.slice (some ⟨go6, 0, none⟩) x0_1.length co10) y324 := (by rw [hw, Ny324.out]; exact HP12.1); clear HP12; have n0_ := Aside0.mk (hp_); have n1_ := Aside0.mk ((by rw [hw]; exact below_set (HB.out) GB6.out : Below w0.heap.size w0 w13)); have n2_ := Aside0.mk (Kept.of_grown (S := (fun k_ => P0_ k_)) hg (by repeat (first | (with_reducible first | exact HK.out | apply Kept.alloc | apply Kept.drewN | apply Kept.drew) | exact HK.out)) (fun k_ e_ => (HO_0.out.1 k_ e_))); clear HO_0; clear HB; clear HK; have HO_0 := n0_; have HB := n1_; have HK := n2_; clear n0_ n1_ n2_; clear hg hw hp_) | ((with_reducible refine gate_callee (f := 60) rfl ?_); refine GL (some 23) rfl rfl Try.func60 #[.int .i64 (wrap64 (x1_1 + 1))] rfl ?_; (with_reducible refine (laws_markText.calls k1 (wrap64 (x1_1 + 1)) t325 _ A7.out).mono ?_); rintro e w14 ⟨rfl, hb⟩; refine ⟨_, rfl, ?_⟩; replace HO_0 := Aside0.mk (Kd.R_below (RR HO_0.out) hb); replace HK := Aside0.mk (Kept.below (S := (fun k_ => P0_ k_)) (by repeat (first | (with_reducible first | exact HK.out | apply Kept.alloc | apply Kept.drewN | apply Kept.drew) | exact HK.out)) hb); replace HB := Aside0.mk (below_step (BB HB.out) hb); (try clear hb); have p8 : 0 ≤ (x5_1 : Int) := DT; have q8 : (x5_1 : Int) < ((x0_1.length : Int) : Int) := DT; obtain ⟨ce8, hcl8, hM8, hcc8, hfr8⟩ := Kd.R_elem HO_0.out z192 (x5_1 : Int) p8 q8; obtain rfl := k192_openM hM8; have hx8_0 : w14.cell? ⟨go6, (x5_1 : Int).toNat * 3, none⟩ = some (.string ((rd_T192 y324 x5_1).f0)) := hcc8 0 _ rfl; have hx8_1 : w14.cell? ⟨go6, (x5_1 : Int).toNat * 3 + 1, none⟩ = some (.string ((rd_T192 y324 x5_1).f1)) := hcc8 1 _ rfl; have hx8_2 : w14.cell? ⟨go6, (x5_1 : Int).toNat * 3 + 2, none⟩ = some (.int .i64 ((rd_T192 y324 x5_1).f2)) := hcc8 2 _ rfl; have hf8_0 : w14.frozen? ⟨go6, (x5_1 : Int).toNat * 3, none⟩ = false := hfr8 0; have hf8_1 : w14.frozen? ⟨go6, (x5_1 : Int).toNat * 3 + 1, none⟩ = false := hfr8 1; have hf8_2 : w14.frozen? ⟨go6, (x5_1 : Int).toNat * 3 + 2, none⟩ = false := hfr8 2; clear hcl8 hcc8 hfr8 hM8; replace p8 := eq_true p8; replace q8 := eq_true q8; have HX15 := Aside0.mk (show Kd.R k192 192 w14 w0.heap.size (fun k_ => (P0_ k_ ∨ w.heap.size ≤ k_)) (.slice (some ⟨go6, 0, none⟩) x0_1.length co10) y324 from (RR HO_0.out)); obtain ⟨ce15, hcl15, hM15, hcc15, hfr15⟩ := Kd.R_elem HX15.out z192 (x5_1 : Int) DT (by have h_ : (x5_1 : Int) < ((x0_1.length : Int) : Int) := DT; first | exact h_ | (have e_ := (Kd.R_reads' HO_0.out).1; omega) | simpa using h_); obtain rfl := k192_openM hM15; have HP15 := Kd.R_seg HX15.out (x5_1 : Int) DT (by have h_ : (x5_1 : Int) < ((x0_1.length : Int) : Int) := DT; first | exact h_ | (have e_ := (Kd.R_reads' HO_0.out).1; omega) | simpa using h_) (seg := [.string t325]) (j := 1) hcl15 hcc15 (show 2 ≤ 3 from by decide) (x' := (⟨(rd_T192 y324 x5_1).f0, t325, (rd_T192 y324 x5_1).f2⟩ : S192)) (k192_mkM _ _ _ (⟨(rd_T192 y324 x5_1).f0, t325, (rd_T192 y324 x5_1).f2⟩ : S192) ) (fun _ hk => hk); have hx15_1 := hcc15 1 _ rfl; (try simp only [show (k192).sz = 3 from rfl, Nat.mul_one, Nat.add_zero] at hx15_1); have hf15_1 := hfr15 1; (try simp only [show (k192).sz = 3 from rfl, Nat.mul_one, Nat.add_zero] at hf15_1); clear hcl15 hcc15 hfr15 hM15) | ((with_reducible refine gate_store (t := 9) (p := 25) rfl ?_); refine store_event (t := 9) (p := 25) (v := ?vo_w16) (w1 := (w14.setCell ⟨go6, (x5_1 : Int).toNat * 3 + 1, none⟩ (.string t325))) ?hg ?ho ?hn ?hr ?_; (case ho => rfl); (case hg => rfl); (case hn => rfl); (case hr => first | (go_simp; done) | (go_simp; rfl)); intro w16 hw; have hg : w14.grownBy w16 (some go6) := (by rw [hw]; exact HP15.2); have hp_ : Kd.R k192 192 w16 w0.heap.size (fun k_ => (P0_ k_ ∨ w.heap.size ≤ k_)) (.slice (some ⟨go6, 0, none⟩) x0_1.length co10) y326 := (by rw [hw, Ny326.out]; exact HP15.1); clear HP15; have n0_ := Aside0.mk (hp_); have n1_ := Aside0.mk ((by rw [hw]; exact below_set (HB.out) GB6.out : Below w0.heap.size w0 w16)); have n2_ := Aside0.mk (Kept.of_grown (S := (fun k_ => P0_ k_)) hg (by repeat (first | (with_reducible first | exact HK.out | apply Kept.alloc | apply Kept.drewN | apply Kept.drew) | exact HK.out)) (fun k_ e_ => (HO_0.out.1 k_ e_))); clear HO_0; clear HB; clear HK; have HO_0 := n0_; have HB := n1_; have HK := n2_; clear n0_ n1_ n2_; clear hg hw hp_; have p9 : 0 ≤ (x5_1 : Int) := DT; have q9 : (x5_1 : Int) < ((x0_1.length : Int) : Int) := DT; obtain ⟨ce9, hcl9, hM9, hcc9, hfr9⟩ := Kd.R_elem HO_0.out z192 (x5_1 : Int) p9 q9; obtain rfl := k192_openM hM9; have hx9_0 : w16.cell? ⟨go6, (x5_1 : Int).toNat * 3, none⟩ = some (.string ((rd_T192 y326 x5_1).f0)) := hcc9 0 _ rfl; have hx9_1 : w16.cell? ⟨go6, (x5_1 : Int).toNat * 3 + 1, none⟩ = some (.string ((rd_T192 y326 x5_1).f1)) := hcc9 1 _ rfl; have hx9_2 : w16.cell? ⟨go6, (x5_1 : Int).toNat * 3 + 2, none⟩ = some (.int .i64 ((rd_T192 y326 x5_1).f2)) := hcc9 2 _ rfl; have hf9_0 : w16.frozen? ⟨go6, (x5_1 : Int).toNat * 3, none⟩ = false := hfr9 0; have hf9_1 : w16.frozen? ⟨go6, (x5_1 : Int).toNat * 3 + 1, none⟩ = false := hfr9 1; have hf9_2 : w16.frozen? ⟨go6, (x5_1 : Int).toNat * 3 + 2, none⟩ = false := hfr9 2; clear hcl9 hcc9 hfr9 hM9; replace p9 := eq_true p9; replace q9 := eq_true q9; have HX17 := Aside0.mk (show Kd.R k192 192 w16 w0.heap.size (fun k_ => (P0_ k_ ∨ w.heap.size ≤ k_)) (.slice (some ⟨go6, 0, none⟩) x0_1.length co10) y326 from (RR HO_0.out)); obtain ⟨ce17, hcl17, hM17, hcc17, hfr17⟩ := Kd.R_elem HX17.out z192 (x5_1 : Int) DT (by have h_ : (x5_1 : Int) < ((x0_1.length : Int) : Int) := DT; first | exact h_ | (have e_ := (Kd.R_reads' HO_0.out).1; omega) | simpa using h_); obtain rfl := k192_openM hM17; have HP17 := Kd.R_seg HX17.out (x5_1 : Int) DT (by have h_ : (x5_1 : Int) < ((x0_1.length : Int) : Int) := DT; first | exact h_ | (have e_ := (Kd.R_reads' HO_0.out).1; omega) | simpa using h_) (seg := [.int .i64 (wrap64 ((wrap64 (x1_1 + 1)) + 1))]) (j := 2) hcl17 hcc17 (show 3 ≤ 3 from by decide) (x' := (⟨(rd_T192 y326 x5_1).f0, (rd_T192 y326 x5_1).f1, wrap64 ((wrap64 (x1_1 + 1)) + 1)⟩ : S192)) (k192_mkM _ _ _ (⟨(rd_T192 y326 x5_1).f0, (rd_T192 y326 x5_1).f1, wrap64 ((wrap64 (x1_1 + 1)) + 1)⟩ : S192) ) (fun _ hk => hk); have hx17_2 := hcc17 2 _ rfl; (try simp only [show (k192).sz = 3 from rfl, Nat.mul_one, Nat.add_zero] at hx17_2); have hf17_2 := hfr17 2; (try simp only [show (k192).sz = 3 from rfl, Nat.mul_one, Nat.add_zero] at hf17_2); clear hcl17 hcc17 hfr17 hM17) | ((with_reducible refine gate_store (t := 3) (p := 32) rfl ?_); refine store_event (t := 3) (p := 32) (v := ?vo_w18) (w1 := (w16.setCell ⟨go6, (x5_1 : Int).toNat * 3 + 2, none⟩ (.int .i64 (wrap64 ((wrap64 (x1_1 + 1)) + 1))))) ?hg ?ho ?hn ?hr ?_; (case ho => rfl); (case hg => rfl); (case hn => rfl); (case hr => first | (go_simp; done) | (go_simp; rfl)); intro w18 hw; have hg : w16.grownBy w18 (some go6) := (by rw [hw]; exact HP17.2); have hp_ : Kd.R k192 192 w18 w0.heap.size (fun k_ => (P0_ k_ ∨ w.heap.size ≤ k_)) (.slice (some ⟨go6, 0, none⟩) x0_1.length co10) y327 := (by rw [hw, Ny327.out]; exact HP17.1); clear HP17; have n0_ := Aside0.mk (hp_); have n1_ := Aside0.mk ((by rw [hw]; exact below_set (HB.out) GB6.out : Below w0.heap.size w0 w18)); have n2_ := Aside0.mk (Kept.of_grown (S := (fun k_ => P0_ k_)) hg (by repeat (first | (with_reducible first | exact HK.out | apply Kept.alloc | apply Kept.drewN | apply Kept.drew) | exact HK.out)) (fun k_ e_ => (HO_0.out.1 k_ e_))); clear HO_0; clear HB; clear HK; have HO_0 := n0_; have HB := n1_; have HK := n2_; clear n0_ n1_ n2_; clear hg hw hp_))
          go_roundg k1
          case measure => have := HK1.out; omega
          case rel => exact ⟨(y327), (wrap64 ((wrap64 ((wrap64 (x1_1 + 1)) + 1)) + 1)), (wrap64 (x5_1 + 1)), FR, FR, H', ⟨by have := HK1.out; omega⟩, ⟨(RR HO_0.out)⟩, ⟨by repeat (first | (with_reducible first | exact HK.out | apply Kept.alloc | apply Kept.drewN | apply Kept.drew) | exact HK.out)⟩, ⟨(BB HB.out)⟩⟩
        · rw [if_neg c5] at H
          exact absurd H (by simp)
      · rw [if_neg c3] at H
        have c3b0 : decide (x5_1 < (x0_1.length : Int)) = false := decide_eq_false c3
        clear c3
        simp only [Option.some.injEq, Prod.mk.injEq] at H
        obtain ⟨rfl, rfl⟩ := H
        obtain ⟨Ao19, co19, eo19⟩ := Kd.R_slice HO_0.out
        subst eo19
        go_wp2
        go_ret
        exact ⟨ER, by (with_reducible repeat (first | apply Kd.R_alloc | apply Kd.R_drewN | apply Kd.R_drew)); exact HO_0.out, (BB HB.out), by repeat (first | (with_reducible first | exact HK.out | apply Kept.alloc | apply Kept.drewN | apply Kept.drew) | exact HK.out)⟩

end Go.Proofs.Ytfgnaneajonapaa.Pr
