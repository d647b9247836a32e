/- A part of the proof of the law FnExactMayWrite: its texts, one behind the other. -/
import Derived.Shelf.Abstract
import Derived.WalkLawsBesides
import Derived.Test.YtfgnaneajonapaaBFnExactMayWrite1
import Derived.Test.YtfgnaneajonapaaBFnExactMayWrite2
/- Printed out of the translation by this session's pr.py over the kit's print. Lean checks it. -/
namespace Go.Proofs.Ytfgnaneajonapaa.Pr
open Go.RowKit Go.Proofs.YtfgnaneajonapaaW.PrintWords Go.Proofs.YtfgnaneajonapaaW.PrintLast Go.Proofs.YtfgnaneajonapaaW.PrintMore
attribute [local go_sem] max2_int min2_int max_two min_two max_three min_three max_four min_four
set_option linter.unusedVariables false
set_option linter.unusedSimpArgs false

/-! ### laws_eqLeaseS: function 65 -/
def laws_eqLeaseS.l0 : Nat → List (S120) → List (S120) → Int → Option (Bool)
  | 0, _, _, _ => none
  | k + 1, x0, x1, x5 => if x5 < (x0.length : Int) then (if 0 ≤ x5 then (if x5 < (x1.length : Int) then ((laws_eqLease.f ((rd_T120 x0 x5).f0) ((rd_T120 x0 x5).f1) ((rd_T120 x0 x5).f2) ((rd_T120 x1 x5).f0) ((rd_T120 x1 x5).f1) ((rd_T120 x1 x5).f2)).bind fun t314 => (if t314 = true then (laws_eqLeaseS.l0 k x0 x1 (wrap64 (x5 + 1))) else (some false))) else (none)) else (none)) else (some true)
def laws_eqLeaseS.f (k : Nat) (l0 : List (S120)) (l1 : List (S120)) : Option (Bool) := if (l0.length : Int) = (l1.length : Int) then (laws_eqLeaseS.l0 k l0 l1 0) else (some false)
def laws_eqLeaseS.T6 : Bool × List (List Nat × List Nat) := (true, [([], []), ([], []), ([0, 1], [0, 1]), ([2], [2]), ([], []), ([], []), ([4, 5], [4, 5]), ([6], [6]), ([3, 7], [3, 7]), ([8], [8])])
def laws_eqLeaseS.B6 : List Nat := [0, 0, 3, 7, 0, 0, 48, 112, 255, 511]
theorem laws_eqLeaseS.tab6 : rtab .any (opsOf Try.f65 6) = laws_eqLeaseS.T6 := by kernel_rfl
theorem laws_eqLeaseS.bits6 : waitsOk laws_eqLeaseS.T6.2 laws_eqLeaseS.B6 = true := by kernel_rfl
set_option maxHeartbeats 8000000 in
set_option maxRecDepth 100000 in
theorem laws_eqLeaseS.calls (k : Nat) (A0 : Option Addr) (c0 : Nat) (l0 : List (S120)) (A1 : Option Addr) (c1 : Nat) (l1 : List (S120)) (r : Bool) (w : World) (hr0 : Kd.C k120 w A0 l0.length l0) (hc0 : l0.length ≤ c0) (hr1 : Kd.C k120 w A1 l1.length l1) (hc1 : l1.length ≤ c1) (h : laws_eqLeaseS.f k l0 l1 = some r) (hr_ : Aside0 (r = true) := by exact ⟨rfl⟩) :
    Calls Try.prog 65 #[.slice A0 l0.length c0, .slice A1 l1.length c1] w fun e w' => e = .returned (.bool r) ∧ Below w.heap.size w w' := by
  have hu120 := Try.underlying120
  have HR0 := Aside0.mk hr0
  have HC0 := Aside0.mk hc0
  clear hr0 hc0
  have HR1 := Aside0.mk hr1
  have HC1 := Aside0.mk hc1
  clear hr1 hc1
  have HB := Aside0.mk (Below.refl w.heap.size w)
  have H : (if (l0.length : Int) = (l1.length : Int) then (laws_eqLeaseS.l0 k l0 l1 0) else (some false)) = some r := h
  clear h
  by_cases c3 : (l0.length : Int) = (l1.length : Int)
  · rw [if_pos c3] at H
    have c3b0 : ((l0.length : Int) == (l1.length : Int)) = true := beq_iff_eq.mpr c3
    have c3b1 : ((l0.length : Int) != (l1.length : Int)) = false := bne_eq_false_iff_eq.mpr c3
    have c3b2 : (l0.length == l1.length) = true := by first | simpa using c3 | (simp at c3 ⊢; omega)
    clear c3
    have H' := Aside0.mk H
    clear H
    go_enter Try.func65, Try.ntmps65
    go_wp2
    go_loopg [5] k (fun kq v5 w' => ∃ (x5_1 : Int), v5 = .int .i64 x5_1 ∧ Aside0 (laws_eqLeaseS.l0 kq l0 l1 x5_1 = some r) ∧ Aside0 (kq ≤ k) ∧ Aside0 (Below w.heap.size w w'))
    case atStart => exact ⟨(0), FR, H', ⟨Nat.le_refl _⟩, ⟨(BB HB.out)⟩⟩
    case round =>
      clear H'
      try clear c1
      try clear p2
      try clear c3
      try clear c3b0
      try clear c3b1
      try clear c3b2
      obtain ⟨x5_1, rfl, HA, HK1, HB⟩ := hrel
      cases gk with
      | zero => exact absurd HA.out (by simp [laws_eqLeaseS.l0])
      | succ k1 =>
        have H := HA.out
        clear HA
        simp only [laws_eqLeaseS.l0] at H
        by_cases c4 : x5_1 < (l0.length : Int)
        · rw [if_pos c4] at H
          have c4b0 : decide (x5_1 < (l0.length : Int)) = true := decide_eq_true c4
          clear c4
          by_cases c5 : 0 ≤ x5_1
          · rw [if_pos c5] at H
            have c5b0 : decide (0 ≤ x5_1) = true := decide_eq_true c5
            clear c5
            by_cases c6 : x5_1 < (l1.length : Int)
            · rw [if_pos c6] at H
              have c6b0 : decide (x5_1 < (l1.length : Int)) = true := decide_eq_true c6
              clear c6
              replace H := Option.bind_eq_some_iff.mp H
              obtain ⟨t314, A70, H⟩ := H
              replace H : (if t314 = true then (laws_eqLeaseS.l0 k1 l0 l1 (wrap64 (x5_1 + 1))) else (some false)) = some r := H
              have A7 := Aside0.mk A70
              clear A70
              by_cases c8 : t314 = true
              · subst c8
                have H1 : (laws_eqLeaseS.l0 k1 l0 l1 (wrap64 (x5_1 + 1))) = some r := by rw [if_pos rfl] at H; exact H
                clear H
                have H := H1
                clear H1
                have H' := Aside0.mk H
                clear H
                try go_wp2
                have n0_ := Aside0.mk (below_drew1 HB.out)
                clear HB
                have HB := n0_
                clear n0_
                have p312 : 0 ≤ (x5_1 : Int) := DT
                have q312 : x5_1 < (l0.length : Int) := DT
                obtain ⟨ad312, e312, hx312_0, hx312_1, hx312_2⟩ := at_T120 HR0.out x5_1 p312 q312
                have hw312_2 := hx312_2
                have hw312_1 := hx312_1
                have hw312_0 := hx312_0
                cases e312
                replace hx312_0 := (HB.out.cell (World.block_lt_of_cell? w _ hx312_0)).trans hx312_0
                replace hx312_1 := (HB.out.cell (World.block_lt_of_cell? w _ hx312_1)).trans hx312_1
                replace hx312_2 := (HB.out.cell (World.block_lt_of_cell? w _ hx312_2)).trans hx312_2
                replace p312 := eq_true p312
                replace q312 := eq_true q312
                have p313 : 0 ≤ (x5_1 : Int) := DT
                have q313 : x5_1 < (l1.length : Int) := DT
                obtain ⟨ad313, e313, hx313_0, hx313_1, hx313_2⟩ := at_T120 HR1.out x5_1 p313 q313
                have hw313_2 := hx313_2
                have hw313_1 := hx313_1
                have hw313_0 := hx313_0
                cases e313
                replace hx313_0 := (HB.out.cell (World.block_lt_of_cell? w _ hx313_0)).trans hx313_0
                replace hx313_1 := (HB.out.cell (World.block_lt_of_cell? w _ hx313_1)).trans hx313_1
                replace hx313_2 := (HB.out.cell (World.block_lt_of_cell? w _ hx313_2)).trans hx313_2
                replace p313 := eq_true p313
                replace q313 := eq_true q313
                refine start_ (n := 10) (S := fun w' => w'.cell? (ad312.add ((x5_1).toNat * 3)) = some (.string ((rd_T120 l0 x5_1).f0)) ∧ w'.cell? ⟨(ad312.add ((x5_1).toNat * 3)).block, (ad312.add ((x5_1).toNat * 3)).off + 1, none⟩ = some (.int .i64 ((rd_T120 l0 x5_1).f1)) ∧ w'.cell? ⟨(ad312.add ((x5_1).toNat * 3)).block, (ad312.add ((x5_1).toNat * 3)).off + 2, none⟩ = some (.int .i64 ((rd_T120 l0 x5_1).f2)) ∧ w'.cell? (ad313.add ((x5_1).toNat * 3)) = some (.string ((rd_T120 l1 x5_1).f0)) ∧ w'.cell? ⟨(ad313.add ((x5_1).toNat * 3)).block, (ad313.add ((x5_1).toNat * 3)).off + 1, none⟩ = some (.int .i64 ((rd_T120 l1 x5_1).f1)) ∧ w'.cell? ⟨(ad313.add ((x5_1).toNat * 3)).block, (ad313.add ((x5_1).toNat * 3)).off + 2, none⟩ = some (.int .i64 ((rd_T120 l1 x5_1).f2))) (ds := []) #[false, false, false, false, false, false, false, false, false, false] (by kernel_rfl) rfl rfl ⟨((HB.out.cell (World.block_lt_of_cell? w _ hw312_0)).trans hw312_0), ((HB.out.cell (World.block_lt_of_cell? w _ hw312_1)).trans hw312_1), ((HB.out.cell (World.block_lt_of_cell? w _ hw312_2)).trans hw312_2), ((HB.out.cell (World.block_lt_of_cell? w _ hw313_0)).trans hw313_0), ((HB.out.cell (World.block_lt_of_cell? w _ hw313_1)).trans hw313_1), ((HB.out.cell (World.block_lt_of_cell? w _ hw313_2)).trans hw313_2)⟩ (fun hHeld => ?_); refine with_tabW laws_eqLeaseS.tab6 laws_eqLeaseS.bits6 (fun HT_ HW_ => ?_)
                generalize wr.drew = w9 at HB hx312_0 hx312_1 hx312_2 hx313_0 hx313_1 hx313_2 hHeld ⊢
                refine pure_ (i := 0) (N := some 17) (v := ?_) (a' := ?_) #[true, false, false, false, false, false, false, false, false, false] rfl rfl (any_of HT_.out (by kernel_rfl)) (fun _ _ _ h => h) (Or.inl ⟨by rfl, ?_⟩) ?_ ?_
                rotate_left
                · intro w'
                  go_simp
                  with_reducible rfl
                rotate_left
                · simp only [Act.put, List.setIfInBounds_toArray, List.set_cons_zero, List.set_cons_succ, i64_w, i32_w]
                  rfl
                refine pure_ (i := 1) (N := some 18) (v := ?_) (a' := ?_) #[true, true, false, false, false, false, false, false, false, false] rfl rfl (any_of HT_.out (by kernel_rfl)) (fun _ _ _ h => h) (Or.inl ⟨by rfl, ?_⟩) ?_ ?_
                rotate_left
                · intro w'
                  go_simp
                  with_reducible rfl
                rotate_left
                · simp only [Act.put, List.setIfInBounds_toArray, List.set_cons_zero, List.set_cons_succ, i64_w, i32_w]
                  rfl
                refine pure_ (i := 2) (N := some 19) (v := ?_) (a' := ?_) #[true, true, true, false, false, false, false, false, false, false] rfl rfl (any_of HT_.out (by kernel_rfl)) (fun _ _ _ h => h) (Or.inl ⟨by rfl, ?_⟩) ?_ ?_
                rotate_left
                · intro w'
                  go_simp
                  with_reducible rfl
                rotate_left
                · simp only [Act.put, List.setIfInBounds_toArray, List.set_cons_zero, List.set_cons_succ, i64_w, i32_w]
                  rfl
                refine pure_ (i := 4) (N := some 21) (v := ?_) (a' := ?_) #[true, true, true, false, true, false, false, false, false, false] rfl rfl (any_of HT_.out (by kernel_rfl)) (fun _ _ _ h => h) (Or.inl ⟨by rfl, ?_⟩) ?_ ?_
                rotate_left
                · intro w'
                  go_simp
                  with_reducible rfl
                rotate_left
                · simp only [Act.put, List.setIfInBounds_toArray, List.set_cons_zero, List.set_cons_succ, i64_w, i32_w]
                  rfl
                refine pure_ (i := 5) (N := some 22) (v := ?_) (a' := ?_) #[true, true, true, false, true, true, false, false, false, false] rfl rfl (any_of HT_.out (by kernel_rfl)) (fun _ _ _ h => h) (Or.inl ⟨by rfl, ?_⟩) ?_ ?_
                rotate_left
                · intro w'
                  go_simp
                  with_reducible rfl
                rotate_left
                · simp only [Act.put, List.setIfInBounds_toArray, List.set_cons_zero, List.set_cons_succ, i64_w, i32_w]
                  rfl
                refine pure_ (i := 6) (N := some 23) (v := ?_) (a' := ?_) #[true, true, true, false, true, true, true, false, false, false] rfl rfl (any_of HT_.out (by kernel_rfl)) (fun _ _ _ h => h) (Or.inl ⟨by rfl, ?_⟩) ?_ ?_
                rotate_left
                · intro w'
                  go_simp
                  with_reducible rfl
                rotate_left
                · simp only [Act.put, List.setIfInBounds_toArray, List.set_cons_zero, List.set_cons_succ, i64_w, i32_w]
                  rfl
                refine take_ (i := 3) (N := some 20) (v := ?_) (a' := ?_) #[true, true, true, true, true, true, true, false, false, false] rfl rfl (take_ofW HT_.out HW_.out (by kernel_rfl)) (fun _ _ _ h => h) (Or.inl ⟨by rfl, ?_⟩) hHeld ?_ ?_
                rotate_left
                · rintro w' ⟨s0, s1, s2, s3, s4, s5⟩
                  go_simp
                  with_reducible rfl
                rotate_left
                · simp only [Act.put, List.setIfInBounds_toArray, List.set_cons_zero, List.set_cons_succ, i64_w, i32_w]
                  rfl
                refine take_ (i := 7) (N := some 24) (v := ?_) (a' := ?_) #[true, true, true, true, true, true, true, true, false, false] rfl rfl (take_ofW HT_.out HW_.out (by kernel_rfl)) (fun _ _ _ h => h) (Or.inl ⟨by rfl, ?_⟩) hHeld ?_ ?_
                rotate_left
                · rintro w' ⟨s0, s1, s2, s3, s4, s5⟩
                  go_simp
                  with_reducible rfl
                rotate_left
                · simp only [Act.put, List.setIfInBounds_toArray, List.set_cons_zero, List.set_cons_succ, i64_w, i32_w]
                  rfl
                refine one_ (i := 8) (N := some 25) #[true, true, true, true, true, true, true, true, true, false] rfl rfl (one_of HT_.out (by kernel_rfl)) (by decide) (fun K hK => ?_)
                refine goes_ Try.func110 (by kernel_rfl) rfl #[.agg #[.string ((rd_T120 l0 x5_1).f0), .int .i64 ((rd_T120 l0 x5_1).f1), .int .i64 ((rd_T120 l0 x5_1).f2)], .agg #[.string ((rd_T120 l1 x5_1).f0), .int .i64 ((rd_T120 l1 x5_1).f1), .int .i64 ((rd_T120 l1 x5_1).f2)]] (by rfl) rfl rfl (by (try simp only [List.map_toArray, List.map_cons, List.map_nil]); first | done | rfl | (simp only [List.length_drop, List.length_take]; rfl)) ?_
                with_reducible refine (laws_eqLease.calls ((rd_T120 l0 x5_1).f0) ((rd_T120 l0 x5_1).f1) ((rd_T120 l0 x5_1).f2) ((rd_T120 l1 x5_1).f0) ((rd_T120 l1 x5_1).f1) ((rd_T120 l1 x5_1).f2) true _ A7.out).mono ?_
                rintro e w10 ⟨rfl, hb⟩
                refine ⟨_, rfl, ?_⟩
                have n0_ := Aside0.mk (below_step (BB HB.out) hb)
                clear HB
                have HB := n0_
                clear n0_
                (try clear hb)
                (try clear hb2)
                (try clear hk)
                (try clear hi)
                refine hK.out _ _ ⟨((HB.out.cell (World.block_lt_of_cell? w _ hw312_0)).trans hw312_0), ((HB.out.cell (World.block_lt_of_cell? w _ hw312_1)).trans hw312_1), ((HB.out.cell (World.block_lt_of_cell? w _ hw312_2)).trans hw312_2), ((HB.out.cell (World.block_lt_of_cell? w _ hw313_0)).trans hw313_0), ((HB.out.cell (World.block_lt_of_cell? w _ hw313_1)).trans hw313_1), ((HB.out.cell (World.block_lt_of_cell? w _ hw313_2)).trans hw313_2)⟩ (fun hHeld => ?_)
                clear hK K
                refine norm_ (a' := ?_) ?_ ?_
                rotate_left
                · show Act.put _ (some 25) _ = _
                  simp only [Act.put, List.setIfInBounds_toArray, List.set_cons_zero, List.set_cons_succ, i64_w, i32_w]
                  rfl
                refine pure_ (i := 9) (N := some 26) (v := ?_) (a' := ?_) #[true, true, true, true, true, true, true, true, true, true] rfl rfl (any_of HT_.out (by kernel_rfl)) (fun _ _ _ h => h) (Or.inl ⟨by rfl, ?_⟩) ?_ ?_
                rotate_left
                · intro w'
                  go_simp
                  with_reducible rfl
                rotate_left
                · simp only [Act.put, List.setIfInBounds_toArray, List.set_cons_zero, List.set_cons_succ, i64_w, i32_w]
                  rfl
                refine done_ (done_of HT_.out (by kernel_rfl)) ?_
                try go_wp2
                go_roundg k1
                case measure => have := HK1.out; omega
                case rel => exact ⟨(wrap64 (x5_1 + 1)), FR, H', ⟨by have := HK1.out; omega⟩, ⟨(BB HB.out)⟩⟩
              · replace c8 := Bool.eq_false_iff.mpr c8
                subst c8
                have H1 : (some false) = some r := by rw [if_neg (show ¬ (false = true) by decide)] at H; exact H
                clear H
                have H := H1
                clear H1
                exact absurd ((Option.some.inj H).trans hr_.out) (by decide)
            · rw [if_neg c6] at H
              exact absurd H (by simp)
          · rw [if_neg c5] at H
            exact absurd H (by simp)
        · rw [if_neg c4] at H
          have c4b0 : decide (x5_1 < (l0.length : Int)) = false := decide_eq_false c4
          clear c4
          obtain rfl := Option.some.inj H
          go_wp2
          go_ret
          exact ⟨ER, (BB HB.out)⟩
  · rw [if_neg c3] at H
    have c3b0 : ((l0.length : Int) == (l1.length : Int)) = false := beq_eq_false_iff_ne.mpr c3
    have c3b1 : ((l0.length : Int) != (l1.length : Int)) = true := bne_iff_ne.mpr c3
    have c3b2 : (l0.length == l1.length) = false := by first | simpa using c3 | (simp at c3 ⊢; omega)
    exact absurd ((Option.some.inj H).trans hr_.out) (by decide)

end Go.Proofs.Ytfgnaneajonapaa.Pr

/- Printed out of the translation by this session's pr.py over the kit's print. Lean checks it. -/
namespace Go.Proofs.Ytfgnaneajonapaa.Pr
open Go.RowKit Go.Proofs.YtfgnaneajonapaaW.PrintWords Go.Proofs.YtfgnaneajonapaaW.PrintLast Go.Proofs.YtfgnaneajonapaaW.PrintMore
attribute [local go_sem] max2_int min2_int max_two min_two max_three min_three max_four min_four
set_option linter.unusedVariables false
set_option linter.unusedSimpArgs false

/-! ### laws_szLeaseS: function 77 -/
def laws_szLeaseS.l0 : Nat → List (S161) → Int → Int → Option (Int)
  | 0, _, _, _ => none
  | k + 1, x0, x1, x5 => if x5 < (x0.length : Int) then (if 0 ≤ x5 then ((laws_szLease.f ((rd_T161 x0 x5).f0) ((rd_T161 x0 x5).f1) ((rd_T161 x0 x5).f2) x1).bind fun t460 => (if t460 < 0 then (some (-1)) else (laws_szLeaseS.l0 k x0 t460 (wrap64 (x5 + 1))))) else (none)) else (some x1)
def laws_szLeaseS.f (k : Nat) (l0 : List (S161)) (a1 : Int) : Option (Int) := if (wrap64 (a1 - (l0.length : Int))) < 0 then (some (-1)) else (laws_szLeaseS.l0 k l0 (wrap64 (a1 - (l0.length : Int))) 0)
set_option maxHeartbeats 8000000 in
set_option maxRecDepth 100000 in
theorem laws_szLeaseS.calls (k : Nat) (A0 : Option Addr) (c0 : Nat) (l0 : List (S161)) (a1 : Int) (r : Int) (w : World) (hr0 : Kd.C k161 w A0 l0.length l0) (hc0 : l0.length ≤ c0) (h : laws_szLeaseS.f k l0 a1 = some r) :
    Calls Try.prog 77 #[.slice A0 l0.length c0, .int .i64 a1] w fun e w' => e = .returned (.int .i64 r) ∧ Below w.heap.size w w' := by
  have hu161 := Try.underlying161
  have HR0 := Aside0.mk hr0
  have HC0 := Aside0.mk hc0
  clear hr0 hc0
  have HB := Aside0.mk (Below.refl w.heap.size w)
  have H : (if (wrap64 (a1 - (l0.length : Int))) < 0 then (some (-1)) else (laws_szLeaseS.l0 k l0 (wrap64 (a1 - (l0.length : Int))) 0)) = some r := h
  clear h
  by_cases c3 : (wrap64 (a1 - (l0.length : Int))) < 0
  · rw [if_pos c3] at H
    have c3b0 : decide ((wrap64 (a1 - (l0.length : Int))) < 0) = true := decide_eq_true c3
    clear c3
    obtain rfl := Option.some.inj H
    go_enter Try.func77, Try.ntmps77
    go_wp2
    go_ret
    exact ⟨ER, (BB HB.out)⟩
  · rw [if_neg c3] at H
    have c3b0 : decide ((wrap64 (a1 - (l0.length : Int))) < 0) = false := decide_eq_false c3
    clear c3
    have H' := Aside0.mk H
    clear H
    go_enter Try.func77, Try.ntmps77
    go_wp2
    go_loopg [1, 5] k (fun kq v1 v5 w' => ∃ (x1_1 : Int) (x5_1 : Int), v1 = .int .i64 x1_1 ∧ v5 = .int .i64 x5_1 ∧ Aside0 (laws_szLeaseS.l0 kq l0 x1_1 x5_1 = some r) ∧ Aside0 (kq ≤ k) ∧ Aside0 (Below w.heap.size w w'))
    case atStart => exact ⟨(wrap64 (a1 - (l0.length : Int))), (0), FR, FR, H', ⟨Nat.le_refl _⟩, ⟨(BB HB.out)⟩⟩
    case round =>
      clear H'
      try clear p2
      try clear c3
      try clear c3b0
      obtain ⟨x1_1, x5_1, rfl, rfl, HA, HK1, HB⟩ := hrel
      cases gk with
      | zero => exact absurd HA.out (by simp [laws_szLeaseS.l0])
      | succ k1 =>
        have H := HA.out
        clear HA
        simp only [laws_szLeaseS.l0] at H
        by_cases c4 : x5_1 < (l0.length : Int)
        · rw [if_pos c4] at H
          have c4b0 : decide (x5_1 < (l0.length : Int)) = true := decide_eq_true c4
          clear c4
          by_cases c5 : 0 ≤ x5_1
          · rw [if_pos c5] at H
            have c5b0 : decide (0 ≤ x5_1) = true := decide_eq_true c5
            clear c5
            replace H := Option.bind_eq_some_iff.mp H
            obtain ⟨t460, A60, H⟩ := H
            replace H : (if t460 < 0 then (some (-1)) else (laws_szLeaseS.l0 k1 l0 t460 (wrap64 (x5_1 + 1)))) = some r := H
            have A6 := Aside0.mk A60
            clear A60
            by_cases c7 : t460 < 0
            · rw [if_pos c7] at H
              have c7b0 : decide (t460 < 0) = true := decide_eq_true c7
              clear c7
              obtain rfl := Option.some.inj H
              have p459 : 0 ≤ (x5_1 : Int) := DT
              have q459 : x5_1 < (l0.length : Int) := DT
              obtain ⟨ad459, e459, hx459_0, hx459_1, hx459_2⟩ := at_T161 HR0.out x5_1 p459 q459
              cases e459
              replace hx459_0 := (HB.out.cell (World.block_lt_of_cell? w _ hx459_0)).trans hx459_0
              replace hx459_1 := (HB.out.cell (World.block_lt_of_cell? w _ hx459_1)).trans hx459_1
              replace hx459_2 := (HB.out.cell (World.block_lt_of_cell? w _ hx459_2)).trans hx459_2
              replace p459 := eq_true p459
              replace q459 := eq_true q459
              go_wp2_with (first | ((with_reducible refine gate_callee (f := 123) rfl ?_); refine GL (some 23) rfl rfl Try.func123 #[.agg #[.string ((rd_T161 l0 x5_1).f0), .int .i64 ((rd_T161 l0 x5_1).f1), .int .i64 ((rd_T161 l0 x5_1).f2)], .int .i64 x1_1] rfl ?_; (with_reducible refine (laws_szLease.calls ((rd_T161 l0 x5_1).f0) ((rd_T161 l0 x5_1).f1) ((rd_T161 l0 x5_1).f2) x1_1 t460 _ A6.out).mono ?_); rintro e w8 ⟨rfl, hb⟩; refine ⟨_, rfl, ?_⟩; replace HB := Aside0.mk (below_step (BB HB.out) hb); (try clear hb)))
              go_ret
              exact ⟨ER, (BB HB.out)⟩
            · rw [if_neg c7] at H
              have c7b0 : decide (t460 < 0) = false := decide_eq_false c7
              clear c7
              have H' := Aside0.mk H
              clear H
              have p459 : 0 ≤ (x5_1 : Int) := DT
              have q459 : x5_1 < (l0.length : Int) := DT
              obtain ⟨ad459, e459, hx459_0, hx459_1, hx459_2⟩ := at_T161 HR0.out x5_1 p459 q459
              cases e459
              replace hx459_0 := (HB.out.cell (World.block_lt_of_cell? w _ hx459_0)).trans hx459_0
              replace hx459_1 := (HB.out.cell (World.block_lt_of_cell? w _ hx459_1)).trans hx459_1
              replace hx459_2 := (HB.out.cell (World.block_lt_of_cell? w _ hx459_2)).trans hx459_2
              replace p459 := eq_true p459
              replace q459 := eq_true q459
              go_wp2_with (first | ((with_reducible refine gate_callee (f := 123) rfl ?_); refine GL (some 23) rfl rfl Try.func123 #[.agg #[.string ((rd_T161 l0 x5_1).f0), .int .i64 ((rd_T161 l0 x5_1).f1), .int .i64 ((rd_T161 l0 x5_1).f2)], .int .i64 x1_1] rfl ?_; (with_reducible refine (laws_szLease.calls ((rd_T161 l0 x5_1).f0) ((rd_T161 l0 x5_1).f1) ((rd_T161 l0 x5_1).f2) x1_1 t460 _ A6.out).mono ?_); rintro e w9 ⟨rfl, hb⟩; refine ⟨_, rfl, ?_⟩; replace HB := Aside0.mk (below_step (BB HB.out) hb); (try clear hb)))
              go_roundg k1
              case measure => have := HK1.out; omega
              case rel => exact ⟨(t460), (wrap64 (x5_1 + 1)), FR, FR, H', ⟨by have := HK1.out; omega⟩, ⟨(BB HB.out)⟩⟩
          · rw [if_neg c5] at H
            exact absurd H (by simp)
        · rw [if_neg c4] at H
          have c4b0 : decide (x5_1 < (l0.length : Int)) = false := decide_eq_false c4
          clear c4
          obtain rfl := Option.some.inj H
          go_wp2
          go_ret
          exact ⟨ER, (BB HB.out)⟩

end Go.Proofs.Ytfgnaneajonapaa.Pr

/- Printed out of the translation by this session's pr.py over the kit's print. Lean checks it. -/
namespace Go.Proofs.Ytfgnaneajonapaa.Pr
open Go.RowKit Go.Proofs.YtfgnaneajonapaaW.PrintWords Go.Proofs.YtfgnaneajonapaaW.PrintLast Go.Proofs.YtfgnaneajonapaaW.PrintMore
attribute [local go_sem] max2_int min2_int max_two min_two max_three min_three max_four min_four
set_option linter.unusedVariables false
set_option linter.unusedSimpArgs false

/-! ### laws_toLeaseS: function 82 -/
def laws_toLeaseS.l0 : Nat → List (S161) → List (S120) → Int → Option ((List (S120)))
  | 0, _, _, _ => none
  | k + 1, x0, x3, x4 => if x4 < (x0.length : Int) then (if 0 ≤ x4 then ((laws_toLease.f ((rd_T161 x0 x4).f0) ((rd_T161 x0 x4).f1) ((rd_T161 x0 x4).f2)).bind fun bt536 => (if x4 < (x3.length : Int) then (laws_toLeaseS.l0 k x0 (x3.set (x4 : Int).toNat (⟨bt536.1, bt536.2.1, bt536.2.2⟩ : S120)) (wrap64 (x4 + 1))) else (none))) else (none)) else (some x3)
def laws_toLeaseS.f (k : Nat) (l0 : List (S161)) : Option ((List (S120))) := if 0 ≤ (l0.length : Int) then (if ((l0.length : Int) : Int).toNat ≤ 8796093022208 then (laws_toLeaseS.l0 k l0 (List.replicate ((l0.length : Int) : Int).toNat z120) 0) else (none)) else (none)
set_option maxHeartbeats 8000000 in
set_option maxRecDepth 100000 in
theorem laws_toLeaseS.calls (k : Nat) (A0 : Option Addr) (c0 : Nat) (l0 : List (S161)) (r : List (S120)) (w : World) (hr0 : Kd.C k161 w A0 l0.length l0) (hc0 : l0.length ≤ c0) (h : laws_toLeaseS.f k l0 = some r) :
    Calls Try.prog 82 #[.slice A0 l0.length c0] w fun e w' => ∃ v0_ : Value, e = .returned (v0_) ∧ Kd.R k120 120 w' w.heap.size (fun _ => True) v0_ r ∧ Below w.heap.size w w' := by
  have hu161 := Try.underlying161
  have hu120 := Try.underlying120
  have HR0 := Aside0.mk hr0
  have HC0 := Aside0.mk hc0
  clear hr0 hc0
  have HB := Aside0.mk (Below.refl w.heap.size w)
  have H : (if 0 ≤ (l0.length : Int) then (if ((l0.length : Int) : Int).toNat ≤ 8796093022208 then (laws_toLeaseS.l0 k l0 (List.replicate ((l0.length : Int) : Int).toNat z120) 0) else (none)) else (none)) = some r := h
  clear h
  by_cases c2 : 0 ≤ (l0.length : Int)
  · rw [if_pos c2] at H
    have c2b0 := eq_true c2
    have c2b1 : decide (0 ≤ (l0.length : Int)) = true := decide_eq_true c2
    clear c2
    by_cases c3 : ((l0.length : Int) : Int).toNat ≤ 8796093022208
    · rw [if_pos c3] at H
      have c3b0 := eq_true c3
      have c3b1 : decide (((l0.length : Int) : Int).toNat ≤ 8796093022208) = true := decide_eq_true c3
      clear c3
      obtain ⟨y532, hy532⟩ : ∃ y_ : List (S120), y_ = (List.replicate ((l0.length : Int) : Int).toNat z120) := ⟨_, rfl⟩
      replace H : (laws_toLeaseS.l0 k l0 y532 0) = some r := by first | (rw [hy532]; with_reducible exact H) | (have H2_ := (Option.bind_some _ _).symm.trans H; rw [hy532]; with_reducible exact H2_) | (have H2_ := (Option.bind_some _ _).symm.trans H; with_reducible exact H2_) | with_reducible exact H | (rw [hy532]; exact H) | exact H
      have Ny532 := Aside0.mk hy532
      clear hy532
      have H' := Aside0.mk H
      clear H
      go_enter Try.func82, Try.ntmps82
      go_wp2_with (first | ((with_reducible refine gate_dst (N := 7) rfl ?_); refine Kd.R_make k120 _ 120 rfl (N := 7) rfl 44 _ _ rfl (l0.length : Int) rfl rfl Try.underlying44 (.agg #[(.string ⟨#[]⟩), (.int .i64 0), (.int .i64 0)]) 32 info120 rfl (by decide) (by omega) z120 (ok := fun _ => True) (okp := fun _ => True) (k120_mkM _ _ _ z120 ) (fun _ hk => hk) trivial DT (Nat.le_trans (Nat.mul_le_mul_right _ (DT : (l0.length : Int).toNat ≤ 8796093022208)) (by omega)) (Below.refl _ _) (Nat.le_refl _) ?_; intro v533 w4 ho5 hb hg_ hnew_; clear hg_ hnew_; (first | rw [← Ny532.out] at ho5 | (simp only [Int.reduceToNat] at ho5; rw [← Ny532.out] at ho5)); have HO534 := Aside0.mk (Kd.R_lower ho5 (below_size (BB HB.out))); replace HB := Aside0.mk (below_step (BB HB.out) hb); clear hb ho5))
      go_loopg [4] k (fun kq v4 w' => ∃ (x3_1 : List (S120)) (x4_1 : Int), v4 = .int .i64 x4_1 ∧ Aside0 (laws_toLeaseS.l0 kq l0 x3_1 x4_1 = some r) ∧ Aside0 (kq ≤ k) ∧ Aside0 (Kd.R k120 120 w' w.heap.size (fun _ => True) v533 x3_1) ∧ Aside0 (Below w.heap.size w w'))
      case atStart => exact ⟨(y532), (0), FR, H', ⟨Nat.le_refl _⟩, ⟨(RR HO534.out)⟩, ⟨(BB HB.out)⟩⟩
      case round =>
        clear H'
        try clear c2
        try clear c2b0
        try clear c2b1
        try clear p2
        try clear c3
        try clear c3b0
        try clear c3b1
        obtain ⟨x3_1, x4_1, rfl, HA, HK1, HO_3, HB⟩ := hrel
        cases gk with
        | zero => exact absurd HA.out (by simp [laws_toLeaseS.l0])
        | succ k1 =>
          have H := HA.out
          clear HA
          simp only [laws_toLeaseS.l0] at H
          by_cases c6 : x4_1 < (l0.length : Int)
          · rw [if_pos c6] at H
            have c6b0 : decide (x4_1 < (l0.length : Int)) = true := decide_eq_true c6
            clear c6
            by_cases c7 : 0 ≤ x4_1
            · rw [if_pos c7] at H
              have c7b0 : decide (0 ≤ x4_1) = true := decide_eq_true c7
              clear c7
              replace H := Option.bind_eq_some_iff.mp H
              obtain ⟨⟨t536, t537, t538⟩, A80, H⟩ := H
              replace H : (if x4_1 < (x3_1.length : Int) then (laws_toLeaseS.l0 k1 l0 (x3_1.set (x4_1 : Int).toNat (⟨t536, t537, t538⟩ : S120)) (wrap64 (x4_1 + 1))) else (none)) = some r := H
              have A8 := Aside0.mk A80
              clear A80
              by_cases c9 : x4_1 < (x3_1.length : Int)
              · rw [if_pos c9] at H
                have c9b0 : decide (x4_1 < (x3_1.length : Int)) = true := decide_eq_true c9
                clear c9
                obtain ⟨y539, hy539⟩ : ∃ y_ : List (S120), y_ = (x3_1.set (x4_1 : Int).toNat (⟨t536, t537, t538⟩ : S120)) := ⟨_, rfl⟩
                replace H : (laws_toLeaseS.l0 k1 l0 y539 (wrap64 (x4_1 + 1))) = some r := by first | (rw [hy539]; with_reducible exact H) | (have H2_ := (Option.bind_some _ _).symm.trans H; rw [hy539]; with_reducible exact H2_) | (have H2_ := (Option.bind_some _ _).symm.trans H; with_reducible exact H2_) | with_reducible exact H | (rw [hy539]; exact H) | exact H
                have Ny539 := Aside0.mk hy539
                clear hy539
                have H' := Aside0.mk H
                clear H
                have p535 : 0 ≤ (x4_1 : Int) := DT
                have q535 : x4_1 < (l0.length : Int) := DT
                obtain ⟨ad535, e535, hx535_0, hx535_1, hx535_2⟩ := at_T161 HR0.out x4_1 p535 q535
                cases e535
                replace hx535_0 := (HB.out.cell (World.block_lt_of_cell? w _ hx535_0)).trans hx535_0
                replace hx535_1 := (HB.out.cell (World.block_lt_of_cell? w _ hx535_1)).trans hx535_1
                replace hx535_2 := (HB.out.cell (World.block_lt_of_cell? w _ hx535_2)).trans hx535_2
                replace p535 := eq_true p535
                replace q535 := eq_true q535
                go_wp2_with (first | ((with_reducible refine gate_callee (f := 126) rfl ?_); refine GL (some 20) rfl rfl Try.func126 #[.agg #[.string ((rd_T161 l0 x4_1).f0), .int .i64 ((rd_T161 l0 x4_1).f1), .int .i64 ((rd_T161 l0 x4_1).f2)]] rfl ?_; (with_reducible refine (laws_toLease.calls ((rd_T161 l0 x4_1).f0) ((rd_T161 l0 x4_1).f1) ((rd_T161 l0 x4_1).f2) t536 t537 t538 _ A8.out).mono ?_); rintro e w11 ⟨rfl, hb⟩; refine ⟨_, rfl, ?_⟩; replace HO_3 := Aside0.mk (Kd.R_below (RR HO_3.out) hb); replace HB := Aside0.mk (below_step (BB HB.out) hb); (try clear hb); have p10 : 0 ≤ (x4_1 : Int) := DT; have q10 : (x4_1 : Int) < ((x3_1.length : Int) : Int) := DT; obtain ⟨go10, co10, eo10, gb10, gl10, cl10, HG10⟩ := Kd.R_form HO_3.out (by omega); (first | cases eo10 | (injection eo10 with ea_ en_ ec_; (first | subst ea_ | (injection ea_ with ea_; subst ea_)); subst ec_; clear en_)); have GB10 := Aside0.mk gb10; have GG10 := Aside0.mk HG10; clear gb10 gl10 HG10; obtain ⟨ce10, hcl10, hM10, hcc10, hfr10⟩ := Kd.R_elem HO_3.out z120 (x4_1 : Int) p10 q10; obtain rfl := k120_openM hM10; have hx10_0 : w11.cell? ⟨go10, (x4_1 : Int).toNat * 3, none⟩ = some (.string ((rd_T120 x3_1 x4_1).f0)) := hcc10 0 _ rfl; have hx10_1 : w11.cell? ⟨go10, (x4_1 : Int).toNat * 3 + 1, none⟩ = some (.int .i64 ((rd_T120 x3_1 x4_1).f1)) := hcc10 1 _ rfl; have hx10_2 : w11.cell? ⟨go10, (x4_1 : Int).toNat * 3 + 2, none⟩ = some (.int .i64 ((rd_T120 x3_1 x4_1).f2)) := hcc10 2 _ rfl; have hf10_0 : w11.frozen? ⟨go10, (x4_1 : Int).toNat * 3, none⟩ = false := hfr10 0; have hf10_1 : w11.frozen? ⟨go10, (x4_1 : Int).toNat * 3 + 1, none⟩ = false := hfr10 1; have hf10_2 : w11.frozen? ⟨go10, (x4_1 : Int).toNat * 3 + 2, none⟩ = false := hfr10 2; clear hcl10 hcc10 hfr10 hM10; replace p10 := eq_true p10; replace q10 := eq_true q10; have HX12 := Aside0.mk (show Kd.R k120 120 w11 w.heap.size (fun _ => True) (.slice (some ⟨go10, 0, none⟩) x3_1.length co10) x3_1 from (RR HO_3.out)); obtain ⟨ce12, hcl12, hM12, hcc12, hfr12⟩ := Kd.R_elem HX12.out z120 (x4_1 : Int) DT (by have h_ : (x4_1 : Int) < ((x3_1.length : Int) : Int) := DT; first | exact h_ | (have e_ := (Kd.R_reads' HO_3.out).1; omega) | simpa using h_); obtain rfl := k120_openM hM12; have HP12 := Kd.R_seg HX12.out (x4_1 : Int) DT (by have h_ : (x4_1 : Int) < ((x3_1.length : Int) : Int) := DT; first | exact h_ | (have e_ := (Kd.R_reads' HO_3.out).1; omega) | simpa using h_) (seg := [.string t536, .int .i64 t537, .int .i64 t538]) (j := 0) hcl12 hcc12 (show 3 ≤ 3 from by decide) (x' := (⟨t536, t537, t538⟩ : S120)) (k120_mkM _ _ _ (⟨t536, t537, t538⟩ : S120) ) (fun _ hk => hk); have hx12_0 := hcc12 0 _ rfl; (try simp only [show (k120).sz = 3 from rfl, Nat.mul_one, Nat.add_zero] at hx12_0); have hf12_0 := hfr12 0; (try simp only [show (k120).sz = 3 from rfl, Nat.mul_one, Nat.add_zero] at hf12_0); have hx12_1 := hcc12 1 _ rfl; (try simp only [show (k120).sz = 3 from rfl, Nat.mul_one, Nat.add_zero] at hx12_1); have hf12_1 := hfr12 1; (try simp only [show (k120).sz = 3 from rfl, Nat.mul_one, Nat.add_zero] at hf12_1); have hx12_2 := hcc12 2 _ rfl; (try simp only [show (k120).sz = 3 from rfl, Nat.mul_one, Nat.add_zero] at hx12_2); have hf12_2 := hfr12 2; (try simp only [show (k120).sz = 3 from rfl, Nat.mul_one, Nat.add_zero] at hf12_2); clear hcl12 hcc12 hfr12 hM12) | ((with_reducible refine gate_store (t := 120) (p := 21) rfl ?_); refine store_event (t := 120) (p := 21) (v := ?vo_w13) (w1 := (((w11.setCell ⟨go10, (x4_1 : Int).toNat * 3, none⟩ (.string t536)).setCell ⟨go10, (x4_1 : Int).toNat * 3 + 1, none⟩ (.int .i64 t537)).setCell ⟨go10, (x4_1 : Int).toNat * 3 + 2, none⟩ (.int .i64 t538))) ?hg ?ho ?hn ?hr ?_; (case ho => rfl); (case hg => rfl); (case hn => rfl); (case hr => first | (go_simp; done) | (go_simp; rfl)); intro w13 hw; have hg : w11.grownBy w13 (some go10) := (by rw [hw]; exact HP12.2); have hp_ : Kd.R k120 120 w13 w.heap.size (fun _ => True) (.slice (some ⟨go10, 0, none⟩) x3_1.length co10) y539 := (by rw [hw, Ny539.out]; exact HP12.1); clear HP12; have n0_ := Aside0.mk (hp_); have n1_ := Aside0.mk ((by rw [hw]; exact below_set (below_set (below_set (HB.out) GB10.out) GB10.out) GB10.out : Below w.heap.size w w13)); clear HO_3; clear HB; have HO_3 := n0_; have HB := n1_; clear n0_ n1_; clear hg hw hp_))
                go_roundg k1
                case measure => have := HK1.out; omega
                case rel => exact ⟨(y539), (wrap64 (x4_1 + 1)), FR, H', ⟨by have := HK1.out; omega⟩, ⟨(RR HO_3.out)⟩, ⟨(BB HB.out)⟩⟩
              · rw [if_neg c9] at H
                exact absurd H (by simp)
            · rw [if_neg c7] at H
              exact absurd H (by simp)
          · rw [if_neg c6] at H
            have c6b0 : decide (x4_1 < (l0.length : Int)) = false := decide_eq_false c6
            clear c6
            obtain rfl := Option.some.inj H
            go_wp2
            go_ret
            exact ⟨_, ER, by (with_reducible repeat (first | apply Kd.R_alloc | apply Kd.R_drewN | apply Kd.R_drew)); exact HO_3.out, (BB HB.out)⟩
    · rw [if_neg c3] at H
      exact absurd H (by simp)
  · rw [if_neg c2] at H
    exact absurd H (by simp)

end Go.Proofs.Ytfgnaneajonapaa.Pr

/- Generated by plumb.py: the laws' helpers of a type, told as plain functions. -/
namespace Go.Proofs.Ytfgnaneajonapaa.Lw
open Go.RowKit Go.Proofs.YtfgnaneajonapaaW.PrintWords Go.Proofs.Ytfgnaneajonapaa.Pr Go.Proofs.Ytfgnaneajonapaa.Evs
set_option linter.unusedVariables false
abbrev LLease := S161
abbrev ImLease := S120
def lnLease (x : ImLease) : Prop := True
def wtLease (x : LLease) : Nat := x.f0.size
def wtLeaseS : List LLease → Nat
  | [] => 0
  | x :: s => 1 + wtLease x + wtLeaseS s
def okLease (x : LLease) : Prop := x.f0.size ≤ maxLen
theorem wtLeaseS_len (l : List LLease) : l.length ≤ wtLeaseS l := by
  induction l with
  | nil => simp
  | cons x s ih => simp [wtLeaseS]; omega
def toLease (x : LLease) : ImLease := ⟨x.f0, x.f1, x.f2⟩
theorem rd161 (p s : List S161) (x : S161) : rd_T161 (p ++ x :: s) (p.length : Int) = x := by unfold rd_T161; exact getD_mid' p s x _ _ rfl
theorem rd120 (p s : List S120) (x : S120) : rd_T120 (p ++ x :: s) (p.length : Int) = x := by unfold rd_T120; exact getD_mid' p s x _ _ rfl
theorem szLease_ev (x : LLease) (left : Int) (h0 : 0 ≤ left) (h1 : left ≤ 1048576) (hx : okLease x) : ∃ r, laws_szLease.f (x.f0) (x.f1) (x.f2) left = some r ∧ (r = -1 ∨ (0 ≤ r ∧ r + wtLease x = left)) := by
  unfold okLease maxLen at hx
  unfold laws_szLease.f wtLease
  have e0 : wrap64 (left - (x.f0.size : Int)) = left - (x.f0.size : Int) := wrap_in (by omega) (by omega)
  simp only [e0]
  by_cases c0 : left - (x.f0.size : Int) < 0
  · exact ⟨-1, by simp only [if_pos c0], .inl rfl⟩
  exact ⟨left - (x.f0.size : Int), by simp only [if_neg c0], .inr ⟨by omega, by omega⟩⟩
theorem szLeaseS_loop (s : List LLease) : ∀ (p : List LLease) (left : Int), 0 ≤ left → left + s.length ≤ 1048576 → p.length + s.length ≤ maxLen → (∀ x ∈ s, okLease x) →
    ∃ r, Ev (fun k => laws_szLeaseS.l0 k (p ++ s) left (p.length : Int)) r ∧ (r = -1 ∨ (0 ≤ r ∧ r + wtLeaseS s = left + s.length)) := by
  induction s with
  | nil =>
    intro p left h0 h1 hl ho
    refine ⟨left, ev_step (fun k => laws_szLeaseS.l0.eq_2 _ _ _ k) (ev_neg (by simp) (ev_some _)), .inr ⟨h0, by simp [wtLeaseS]⟩⟩
  | cons x s ih =>
    intro p left h0 h1 hl ho
    unfold maxLen at hl
    simp at h1 hl
    obtain ⟨t, ht, hr⟩ := szLease_ev x left h0 (by omega) (ho x (by simp))
    by_cases c : t < 0
    · refine ⟨-1, ev_step (fun k => laws_szLeaseS.l0.eq_2 _ _ _ k) (ev_pos (by simp; omega) (ev_pos (by omega) (ev_call (a := t) (by rw [rd161]; exact ht) (ev_pos c (ev_some _))))), .inl rfl⟩
    · obtain ⟨r, hE, hR⟩ := ih (p ++ [x]) t (by omega) (by omega) (by simp; unfold maxLen; omega) (fun y hy => ho y (by simp [hy]))
      refine ⟨r, ev_step (fun k => laws_szLeaseS.l0.eq_2 _ _ _ k) (ev_pos (by simp; omega) (ev_pos (by omega) (ev_call (a := t) (by rw [rd161]; exact ht) (ev_neg c ?_)))), ?_⟩
      · rw [wrap_succ (by omega) (by omega)]
        simpa using hE
      · rcases hR with hR | hR
        · exact .inl hR
        · rcases hr with hr | hr
          · omega
          · refine .inr ⟨hR.1, ?_⟩
            simp [wtLeaseS]
            omega
theorem szLeaseS_ev (l : List LLease) (hl : l.length ≤ maxLen) (ho : ∀ x ∈ l, okLease x) (left : Int) (h0 : 0 ≤ left) (h1 : left ≤ 1048576) :
    ∃ r, Ev (fun k => laws_szLeaseS.f k l left) r ∧ (r = -1 ∨ (0 ≤ r ∧ r + wtLeaseS l = left)) := by
  unfold laws_szLeaseS.f
  unfold maxLen at hl
  have e : wrap64 (left - (l.length : Int)) = left - l.length := wrap_in (by omega) (by omega)
  rw [e]
  by_cases c : left - (l.length : Int) < 0
  · exact ⟨-1, ev_pos c (ev_some _), .inl rfl⟩
  · obtain ⟨r, hE, hR⟩ := szLeaseS_loop l [] (left - l.length) (by omega) (by omega) (by simp; unfold maxLen; omega) ho
    refine ⟨r, ev_neg c (by simpa using hE), ?_⟩
    omega
theorem szLeaseS_sz (l : List LLease) (hl : l.length ≤ maxLen) (ho : ∀ x ∈ l, okLease x) (left : Int) (h0 : 0 ≤ left) (h1 : left ≤ 1048576) : SzEv (fun k => laws_szLeaseS.f k l left) left (wtLeaseS l) := szLeaseS_ev l hl ho left h0 h1
theorem toLease_ev (x : LLease) : Ev (fun k => laws_toLease.f (x.f0) (x.f1) (x.f2)) ((toLease x).f0, (toLease x).f1, (toLease x).f2) := ev_const rfl
theorem toLeaseS_loop (s : List LLease) : ∀ (p : List LLease), p.length + s.length < 9223372036854775807 →
    Ev (fun k => laws_toLeaseS.l0 k (p ++ s) (p.map toLease ++ List.replicate s.length z120) (p.length : Int)) ((p ++ s).map toLease) := by
  induction s with
  | nil => intro p hl; exact ev_step (fun k => laws_toLeaseS.l0.eq_2 _ _ _ k) (ev_neg (by simp) (ev_eq (ev_some _) (by simp)))
  | cons x s ih =>
    intro p hl
    simp at hl
    refine ev_step (fun k => laws_toLeaseS.l0.eq_2 _ _ _ k) (ev_pos (by simp; omega) (ev_pos (by omega) (ev_call (by rw [rd161]; rfl) (ev_pos (by simp; omega) ?_))))
    rw [wrap_succ (by omega) (by omega)]
    have h := ih (p ++ [x]) (by simp; omega)
    have e : (p.map toLease ++ List.replicate (x :: s).length z120).set ((p.length : Int)).toNat (toLease x) = (p ++ [x]).map toLease ++ List.replicate s.length z120 := by
      rw [List.length_cons, List.replicate_succ, set_mid _ _ _ _ _ (by simp)]
      simp
    refine ev_eq (g := fun k => laws_toLeaseS.l0 k (p ++ x :: s) ((p.map toLease ++ List.replicate (x :: s).length z120).set ((p.length : Int)).toNat (toLease x)) ((p.length : Int) + 1)) ?_ rfl
    rw [e]
    simpa using h
theorem toLeaseS_ev (l : List LLease) (hl : l.length ≤ 1048576) : Ev (fun k => laws_toLeaseS.f k l) (l.map toLease) := by
  unfold laws_toLeaseS.f
  refine ev_pos (by omega) (ev_pos (by omega) ?_)
  have h := toLeaseS_loop l [] (by simp; omega)
  simpa using h
theorem toLeaseS_evw (l : List LLease) (hl : wtLeaseS l ≤ 1048576) : Ev (fun k => laws_toLeaseS.f k l) (l.map toLease) := toLeaseS_ev l (by have := wtLeaseS_len l; omega)
theorem eqLease_refl (x : ImLease) : laws_eqLease.f (x.f0) (x.f1) (x.f2) (x.f0) (x.f1) (x.f2) = some true := by unfold laws_eqLease.f; simp
theorem eqLeaseS_loop (s : List ImLease) : ∀ (p : List ImLease), p.length + s.length < 9223372036854775807 → Ev (fun k => laws_eqLeaseS.l0 k (p ++ s) (p ++ s) (p.length : Int)) true := by
  induction s with
  | nil => intro p hl; exact ev_step (fun k => laws_eqLeaseS.l0.eq_2 _ _ _ k) (ev_neg (by simp) (ev_some _))
  | cons x s ih =>
    intro p hl
    simp at hl
    refine ev_step (fun k => laws_eqLeaseS.l0.eq_2 _ _ _ k) (ev_pos (by simp; omega) (ev_pos (by omega) (ev_pos (by simp; omega) (ev_call (by rw [rd120]; exact eqLease_refl x) (ev_pos rfl ?_)))))
    rw [wrap_succ (by omega) (by omega)]
    simpa using ih (p ++ [x]) (by simp; omega)
theorem eqLeaseS_ev (l : List ImLease) (hl : l.length < 9223372036854775807) : Ev (fun k => laws_eqLeaseS.f k l l) true := by
  unfold laws_eqLeaseS.f
  refine ev_pos rfl ?_
  simpa using eqLeaseS_loop l [] (by simp; omega)
def bdLease (x : ImLease) : Prop := (x.f0.size ≤ 1048576)
theorem wtLeaseS_at {l : List LLease} {x : LLease} (h : x ∈ l) : 1 + wtLease x ≤ wtLeaseS l := by
  induction l with
  | nil => cases h
  | cons y l ih =>
    rcases List.mem_cons.1 h with rfl | h
    · simp [wtLeaseS]
    · have := ih h
      simp [wtLeaseS]
      omega
theorem bd_toLease (x : LLease) (h : wtLease x ≤ 1048576) : bdLease (toLease x) := by
  unfold wtLease at h
  exact (show x.f0.size ≤ 1048576 by omega)
theorem bd_toLeaseS (l : List LLease) (h : wtLeaseS l ≤ 1048576) : (l.map toLease).length ≤ 1048576 ∧ ∀ y ∈ l.map toLease, bdLease y := by
  have hl := wtLeaseS_len l
  refine ⟨by simp; omega, fun y hy => ?_⟩
  obtain ⟨z, hz, rfl⟩ := List.mem_map.1 hy
  have := wtLeaseS_at hz
  exact bd_toLease z (by omega)
theorem ln_bdLease {x : ImLease} (h : bdLease x) : lnLease x := trivial
end Go.Proofs.Ytfgnaneajonapaa.Lw

/- Printed out of the translation by this session's pr.py over the kit's print. Lean checks it. -/
namespace Go.Proofs.Ytfgnaneajonapaa.Pr
open Go.RowKit Go.Proofs.YtfgnaneajonapaaW.PrintWords Go.Proofs.YtfgnaneajonapaaW.PrintLast Go.Proofs.YtfgnaneajonapaaW.PrintMore
attribute [local go_sem] max2_int min2_int max_two min_two max_three min_three max_four min_four
set_option linter.unusedVariables false
set_option linter.unusedSimpArgs false

/-! ### laws_eqServer: function 27 -/
def laws_eqServer.f (k : Nat) (a0_0 : Bool) (l0_1 : List (S135)) (a0_2 : Int) (a0_3 : Int) (l0_4 : List (S192)) (l0_5 : List (S120)) (a0_6 : Int) (a1_0 : Bool) (l1_1 : List (S135)) (a1_2 : Int) (a1_3 : Int) (l1_4 : List (S192)) (l1_5 : List (S120)) (a1_6 : Int) : Option (Bool) := if (a0_0 != a1_0) = true then (some false) else ((laws_eqTree.f k l0_1 a0_2 l1_1 a1_2).bind fun t317 => (if t317 = true then (if a0_3 = a1_3 then ((laws_eqDisk.f k l0_4 l1_4).bind fun t318 => (if t318 = true then ((laws_eqLeaseS.f k l0_5 l1_5).bind fun t319 => (if t319 = true then (if a0_6 = a1_6 then (some true) else (some false)) else (some false))) else (some false))) else (some false)) else (some false)))
set_option maxHeartbeats 8000000 in
set_option maxRecDepth 100000 in
theorem laws_eqServer.calls (k : Nat) (a0_0 : Bool) (A0_1 : Option Addr) (c0_1 : Nat) (l0_1 : List (S135)) (a0_2 : Int) (a0_3 : Int) (A0_4 : Option Addr) (c0_4 : Nat) (l0_4 : List (S192)) (A0_5 : Option Addr) (c0_5 : Nat) (l0_5 : List (S120)) (a0_6 : Int) (a1_0 : Bool) (A1_1 : Option Addr) (c1_1 : Nat) (l1_1 : List (S135)) (a1_2 : Int) (a1_3 : Int) (A1_4 : Option Addr) (c1_4 : Nat) (l1_4 : List (S192)) (A1_5 : Option Addr) (c1_5 : Nat) (l1_5 : List (S120)) (a1_6 : Int) (r : Bool) (w : World) (hr0_1 : Kd.C k135 w A0_1 l0_1.length l0_1) (hc0_1 : l0_1.length ≤ c0_1) (hr0_4 : Kd.C k192 w A0_4 l0_4.length l0_4) (hc0_4 : l0_4.length ≤ c0_4) (hr0_5 : Kd.C k120 w A0_5 l0_5.length l0_5) (hc0_5 : l0_5.length ≤ c0_5) (hr1_1 : Kd.C k135 w A1_1 l1_1.length l1_1) (hc1_1 : l1_1.length ≤ c1_1) (hr1_4 : Kd.C k192 w A1_4 l1_4.length l1_4) (hc1_4 : l1_4.length ≤ c1_4) (hr1_5 : Kd.C k120 w A1_5 l1_5.length l1_5) (hc1_5 : l1_5.length ≤ c1_5) (h : laws_eqServer.f k a0_0 l0_1 a0_2 a0_3 l0_4 l0_5 a0_6 a1_0 l1_1 a1_2 a1_3 l1_4 l1_5 a1_6 = some r) (hr_ : Aside0 (r = true) := by exact ⟨rfl⟩) :
    Calls Try.prog 27 #[.agg #[.bool a0_0, .slice A0_1 l0_1.length c0_1, .int .i64 a0_2, .int .i64 a0_3, .slice A0_4 l0_4.length c0_4, .slice A0_5 l0_5.length c0_5, .int .i64 a0_6], .agg #[.bool a1_0, .slice A1_1 l1_1.length c1_1, .int .i64 a1_2, .int .i64 a1_3, .slice A1_4 l1_4.length c1_4, .slice A1_5 l1_5.length c1_5, .int .i64 a1_6]] w fun e w' => e = .returned (.bool r) ∧ Below w.heap.size w w' := by
  have hu46 := Try.underlying46
  have hu40 := Try.underlying40
  have hu43 := Try.underlying43
  have HR0_1 := Aside0.mk hr0_1
  have HC0_1 := Aside0.mk hc0_1
  clear hr0_1 hc0_1
  have HR0_4 := Aside0.mk hr0_4
  have HC0_4 := Aside0.mk hc0_4
  clear hr0_4 hc0_4
  have HR0_5 := Aside0.mk hr0_5
  have HC0_5 := Aside0.mk hc0_5
  clear hr0_5 hc0_5
  have HR1_1 := Aside0.mk hr1_1
  have HC1_1 := Aside0.mk hc1_1
  clear hr1_1 hc1_1
  have HR1_4 := Aside0.mk hr1_4
  have HC1_4 := Aside0.mk hc1_4
  clear hr1_4 hc1_4
  have HR1_5 := Aside0.mk hr1_5
  have HC1_5 := Aside0.mk hc1_5
  clear hr1_5 hc1_5
  have HB := Aside0.mk (Below.refl w.heap.size w)
  have H : (if (a0_0 != a1_0) = true then (some false) else ((laws_eqTree.f k l0_1 a0_2 l1_1 a1_2).bind fun t317 => (if t317 = true then (if a0_3 = a1_3 then ((laws_eqDisk.f k l0_4 l1_4).bind fun t318 => (if t318 = true then ((laws_eqLeaseS.f k l0_5 l1_5).bind fun t319 => (if t319 = true then (if a0_6 = a1_6 then (some true) else (some false)) else (some false))) else (some false))) else (some false)) else (some false)))) = some r := h
  clear h
  by_cases c3 : (a0_0 != a1_0) = true
  · rw [if_pos c3] at H
    have c3b0 : (a0_0 != a1_0) = true := c3
    (try (have c3b1 : decide (a0_0 = a1_0) = false := by simpa using c3))
    (try (have c3b2 : (a0_0 == a1_0) = false := by simpa using c3))
    (try (have c3b3 : ¬ (a0_0 = a1_0) := by simpa using c3))
    clear c3
    exact absurd ((Option.some.inj H).trans hr_.out) (by decide)
  · rw [if_neg c3] at H
    have c3b0 : (a0_0 != a1_0) = false := by simpa using c3
    (try (have c3b1 : decide (a0_0 = a1_0) = true := by simpa using c3))
    (try (have c3b2 : (a0_0 == a1_0) = true := by simpa using c3))
    clear c3
    replace H := Option.bind_eq_some_iff.mp H
    obtain ⟨t317, A40, H⟩ := H
    replace H : (if t317 = true then (if a0_3 = a1_3 then ((laws_eqDisk.f k l0_4 l1_4).bind fun t318 => (if t318 = true then ((laws_eqLeaseS.f k l0_5 l1_5).bind fun t319 => (if t319 = true then (if a0_6 = a1_6 then (some true) else (some false)) else (some false))) else (some false))) else (some false)) else (some false)) = some r := H
    have A4 := Aside0.mk A40
    clear A40
    by_cases c5 : t317 = true
    · subst c5
      have H1 : (if a0_3 = a1_3 then ((laws_eqDisk.f k l0_4 l1_4).bind fun t318 => (if t318 = true then ((laws_eqLeaseS.f k l0_5 l1_5).bind fun t319 => (if t319 = true then (if a0_6 = a1_6 then (some true) else (some false)) else (some false))) else (some false))) else (some false)) = some r := by rw [if_pos rfl] at H; exact H
      clear H
      have H := H1
      clear H1
      by_cases c6 : a0_3 = a1_3
      · rw [if_pos c6] at H
        have c6b0 : (a0_3 == a1_3) = true := beq_iff_eq.mpr c6
        have c6b1 : (a0_3 != a1_3) = false := bne_eq_false_iff_eq.mpr c6
        clear c6
        replace H := Option.bind_eq_some_iff.mp H
        obtain ⟨t318, A70, H⟩ := H
        replace H : (if t318 = true then ((laws_eqLeaseS.f k l0_5 l1_5).bind fun t319 => (if t319 = true then (if a0_6 = a1_6 then (some true) else (some false)) else (some false))) else (some false)) = some r := H
        have A7 := Aside0.mk A70
        clear A70
        by_cases c8 : t318 = true
        · subst c8
          have H1 : ((laws_eqLeaseS.f k l0_5 l1_5).bind fun t319 => (if t319 = true then (if a0_6 = a1_6 then (some true) else (some false)) else (some false))) = some r := by rw [if_pos rfl] at H; exact H
          clear H
          have H := H1
          clear H1
          replace H := Option.bind_eq_some_iff.mp H
          obtain ⟨t319, A90, H⟩ := H
          replace H : (if t319 = true then (if a0_6 = a1_6 then (some true) else (some false)) else (some false)) = some r := H
          have A9 := Aside0.mk A90
          clear A90
          by_cases c10 : t319 = true
          · subst c10
            have H1 : (if a0_6 = a1_6 then (some true) else (some false)) = some r := by rw [if_pos rfl] at H; exact H
            clear H
            have H := H1
            clear H1
            by_cases c11 : a0_6 = a1_6
            · rw [if_pos c11] at H
              have c11b0 : (a0_6 == a1_6) = true := beq_iff_eq.mpr c11
              have c11b1 : (a0_6 != a1_6) = false := bne_eq_false_iff_eq.mpr c11
              clear c11
              obtain rfl := Option.some.inj H
              go_enter Try.func27, Try.ntmps27
              go_wp2_with (first | ((with_reducible refine gate_dst (N := 2) rfl ?_); refine BX 2 #[.bool a0_0, .slice A0_1 l0_1.length c0_1, .int .i64 a0_2, .int .i64 a0_3, .slice A0_4 l0_4.length c0_4, .slice A0_5 l0_5.length c0_5, .int .i64 a0_6] 46 ?_; intro gb315 hg w12 hbox hb; have BK315 := Aside0.mk (hbox); have GW315 : Aside0 (w.heap.size ≤ gb315) := WG hg (BB HB.out); have GE315 := GW315; replace HB := Aside0.mk (below_step (BB HB.out) hb); clear hb hbox hg) | ((with_reducible refine gate_dst (N := 3) rfl ?_); refine BX 3 #[.bool a1_0, .slice A1_1 l1_1.length c1_1, .int .i64 a1_2, .int .i64 a1_3, .slice A1_4 l1_4.length c1_4, .slice A1_5 l1_5.length c1_5, .int .i64 a1_6] 46 ?_; intro gb316 hg w13 hbox hb; have BK316 := Aside0.mk (hbox); have GW316 : Aside0 (w.heap.size ≤ gb316) := WG hg (BB1 HB.out GE315.out); have GE316 := GW316; have NB315_316 := NL BK315.out hg; have NB316_315 := NG BK315.out hg; replace BK315 := Aside0.mk (KB BK315.out hb); replace HB := Aside0.mk (below_step (BB1 HB.out GE315.out) hb); clear hb hbox hg; have hnb14 := NB315_316.out; have hnc14 := NB316_315.out; have hcz15 := blk_cell BK315.out; have hfz15 := blk_frozen BK315.out; have hcz16 := blk_cell BK316.out; have hfz16 := blk_frozen BK316.out) | ((with_reducible refine gate_callee (f := 63) rfl ?_); refine GL (some 14) rfl rfl Try.func63 #[.agg #[.slice A0_1 l0_1.length c0_1, .int .i64 a0_2], .agg #[.slice A1_1 l1_1.length c1_1, .int .i64 a1_2]] rfl ?_; (with_reducible refine (laws_eqTree.calls k _ _ l0_1 a0_2 _ _ l1_1 a1_2 true _ ?side1 ?side2 ?side3 ?side4 A4.out).mono ?_); (case side1 => exact CC (Kd.C_below HR0_1.out HB.out)); (case side2 => exact HC0_1.out); (case side3 => exact CC (Kd.C_below HR1_1.out HB.out)); (case side4 => exact HC1_1.out); rintro e w17 ⟨rfl, hb⟩; refine ⟨_, rfl, ?_⟩; replace BK315 := Aside0.mk (KB BK315.out hb); replace BK316 := Aside0.mk (KB BK316.out hb); replace HB := Aside0.mk (below_step (BB2 HB.out GE315.out GE316.out) hb); (try clear hb); have hcz18 := blk_cell BK315.out; have hfz18 := blk_frozen BK315.out; have hcz19 := blk_cell BK316.out; have hfz19 := blk_frozen BK316.out) | ((with_reducible refine gate_callee (f := 64) rfl ?_); refine GL (some 25) rfl rfl Try.func64 #[.agg #[.slice A0_4 l0_4.length c0_4], .agg #[.slice A1_4 l1_4.length c1_4]] rfl ?_; (with_reducible refine (laws_eqDisk.calls k _ _ l0_4 _ _ l1_4 true _ ?side1 ?side2 ?side3 ?side4 A7.out).mono ?_); (case side1 => exact CC (Kd.C_below HR0_4.out HB.out)); (case side2 => exact HC0_4.out); (case side3 => exact CC (Kd.C_below HR1_4.out HB.out)); (case side4 => exact HC1_4.out); rintro e w20 ⟨rfl, hb⟩; refine ⟨_, rfl, ?_⟩; replace BK315 := Aside0.mk (KB BK315.out hb); replace BK316 := Aside0.mk (KB BK316.out hb); replace HB := Aside0.mk (below_step (BB2 HB.out GE315.out GE316.out) hb); (try clear hb); have hcz21 := blk_cell BK315.out; have hfz21 := blk_frozen BK315.out; have hcz22 := blk_cell BK316.out; have hfz22 := blk_frozen BK316.out) | ((with_reducible refine gate_callee (f := 65) rfl ?_); refine GL (some 31) rfl rfl Try.func65 #[.slice A0_5 l0_5.length c0_5, .slice A1_5 l1_5.length c1_5] rfl ?_; (with_reducible refine (laws_eqLeaseS.calls k _ _ l0_5 _ _ l1_5 true _ ?side1 ?side2 ?side3 ?side4 A9.out).mono ?_); (case side1 => exact CC (Kd.C_below HR0_5.out HB.out)); (case side2 => exact HC0_5.out); (case side3 => exact CC (Kd.C_below HR1_5.out HB.out)); (case side4 => exact HC1_5.out); rintro e w23 ⟨rfl, hb⟩; refine ⟨_, rfl, ?_⟩; replace BK315 := Aside0.mk (KB BK315.out hb); replace BK316 := Aside0.mk (KB BK316.out hb); replace HB := Aside0.mk (below_step (BB2 HB.out GE315.out GE316.out) hb); (try clear hb); have hcz24 := blk_cell BK315.out; have hfz24 := blk_frozen BK315.out; have hcz25 := blk_cell BK316.out; have hfz25 := blk_frozen BK316.out))
              go_ret
              exact ⟨ER, (BB2 HB.out GE315.out GE316.out)⟩
            · rw [if_neg c11] at H
              have c11b0 : (a0_6 == a1_6) = false := beq_eq_false_iff_ne.mpr c11
              have c11b1 : (a0_6 != a1_6) = true := bne_iff_ne.mpr c11
              exact absurd ((Option.some.inj H).trans hr_.out) (by decide)
          · replace c10 := Bool.eq_false_iff.mpr c10
            subst c10
            have H1 : (some false) = some r := by rw [if_neg (show ¬ (false = true) by decide)] at H; exact H
            clear H
            have H := H1
            clear H1
            exact absurd ((Option.some.inj H).trans hr_.out) (by decide)
        · replace c8 := Bool.eq_false_iff.mpr c8
          subst c8
          have H1 : (some false) = some r := by rw [if_neg (show ¬ (false = true) by decide)] at H; exact H
          clear H
          have H := H1
          clear H1
          exact absurd ((Option.some.inj H).trans hr_.out) (by decide)
      · rw [if_neg c6] at H
        have c6b0 : (a0_3 == a1_3) = false := beq_eq_false_iff_ne.mpr c6
        have c6b1 : (a0_3 != a1_3) = true := bne_iff_ne.mpr c6
        exact absurd ((Option.some.inj H).trans hr_.out) (by decide)
    · replace c5 := Bool.eq_false_iff.mpr c5
      subst c5
      have H1 : (some false) = some r := by rw [if_neg (show ¬ (false = true) by decide)] at H; exact H
      clear H
      have H := H1
      clear H1
      exact absurd ((Option.some.inj H).trans hr_.out) (by decide)

end Go.Proofs.Ytfgnaneajonapaa.Pr

/- Printed out of the translation by this session's pr.py over the kit's print. Lean checks it. -/
namespace Go.Proofs.Ytfgnaneajonapaa.Pr
open Go.RowKit Go.Proofs.YtfgnaneajonapaaW.PrintWords Go.Proofs.YtfgnaneajonapaaW.PrintLast Go.Proofs.YtfgnaneajonapaaW.PrintMore
attribute [local go_sem] max2_int min2_int max_two min_two max_three min_three max_four min_four
set_option linter.unusedVariables false
set_option linter.unusedSimpArgs false

/-! ### laws_szServer: function 35 -/
def laws_szServer.f (k : Nat) (a0_0 : Bool) (l0_1 : List (S199)) (a0_2 : Int) (a0_3 : Int) (l0_4 : List (S201)) (l0_5 : List (S161)) (a0_6 : Int) (a1 : Int) : Option (Int) := (laws_szTree.f k l0_1 a0_2 a1).bind fun t462 => (if t462 < 0 then (some (-1)) else ((laws_szDisk.f k l0_4 t462).bind fun t463 => (if t463 < 0 then (some (-1)) else ((laws_szLeaseS.f k l0_5 t463).bind fun t464 => (if t464 < 0 then (some (-1)) else (some t464))))))
set_option maxHeartbeats 8000000 in
set_option maxRecDepth 100000 in
theorem laws_szServer.calls (k : Nat) (a0_0 : Bool) (A0_1 : Option Addr) (c0_1 : Nat) (l0_1 : List (S199)) (a0_2 : Int) (a0_3 : Int) (A0_4 : Option Addr) (c0_4 : Nat) (l0_4 : List (S201)) (A0_5 : Option Addr) (c0_5 : Nat) (l0_5 : List (S161)) (a0_6 : Int) (a1 : Int) (r : Int) (w : World) (hr0_1 : Kd.C k199 w A0_1 l0_1.length l0_1) (hc0_1 : l0_1.length ≤ c0_1) (hr0_4 : Kd.C k201 w A0_4 l0_4.length l0_4) (hc0_4 : l0_4.length ≤ c0_4) (hr0_5 : Kd.C k161 w A0_5 l0_5.length l0_5) (hc0_5 : l0_5.length ≤ c0_5) (h : laws_szServer.f k a0_0 l0_1 a0_2 a0_3 l0_4 l0_5 a0_6 a1 = some r) :
    Calls Try.prog 35 #[.agg #[.bool a0_0, .slice A0_1 l0_1.length c0_1, .int .i64 a0_2, .int .i64 a0_3, .slice A0_4 l0_4.length c0_4, .slice A0_5 l0_5.length c0_5, .int .i64 a0_6], .int .i64 a1] w fun e w' => e = .returned (.int .i64 r) ∧ Below w.heap.size w w' := by
  have hu65 := Try.underlying65
  have hu59 := Try.underlying59
  have hu62 := Try.underlying62
  have HR0_1 := Aside0.mk hr0_1
  have HC0_1 := Aside0.mk hc0_1
  clear hr0_1 hc0_1
  have HR0_4 := Aside0.mk hr0_4
  have HC0_4 := Aside0.mk hc0_4
  clear hr0_4 hc0_4
  have HR0_5 := Aside0.mk hr0_5
  have HC0_5 := Aside0.mk hc0_5
  clear hr0_5 hc0_5
  have HB := Aside0.mk (Below.refl w.heap.size w)
  have H : ((laws_szTree.f k l0_1 a0_2 a1).bind fun t462 => (if t462 < 0 then (some (-1)) else ((laws_szDisk.f k l0_4 t462).bind fun t463 => (if t463 < 0 then (some (-1)) else ((laws_szLeaseS.f k l0_5 t463).bind fun t464 => (if t464 < 0 then (some (-1)) else (some t464))))))) = some r := h
  clear h
  replace H := Option.bind_eq_some_iff.mp H
  obtain ⟨t462, A30, H⟩ := H
  replace H : (if t462 < 0 then (some (-1)) else ((laws_szDisk.f k l0_4 t462).bind fun t463 => (if t463 < 0 then (some (-1)) else ((laws_szLeaseS.f k l0_5 t463).bind fun t464 => (if t464 < 0 then (some (-1)) else (some t464)))))) = some r := H
  have A3 := Aside0.mk A30
  clear A30
  by_cases c4 : t462 < 0
  · rw [if_pos c4] at H
    have c4b0 : decide (t462 < 0) = true := decide_eq_true c4
    clear c4
    obtain rfl := Option.some.inj H
    go_enter Try.func35, Try.ntmps35
    go_wp2_with (first | ((with_reducible refine gate_dst (N := 2) rfl ?_); refine BX 2 #[.bool a0_0, .slice A0_1 l0_1.length c0_1, .int .i64 a0_2, .int .i64 a0_3, .slice A0_4 l0_4.length c0_4, .slice A0_5 l0_5.length c0_5, .int .i64 a0_6] 65 ?_; intro gb461 hg w5 hbox hb; have BK461 := Aside0.mk (hbox); have GW461 : Aside0 (w.heap.size ≤ gb461) := WG hg (BB HB.out); have GE461 := GW461; replace HB := Aside0.mk (below_step (BB HB.out) hb); clear hb hbox hg; have hcz6 := blk_cell BK461.out; have hfz6 := blk_frozen BK461.out) | ((with_reducible refine gate_callee (f := 75) rfl ?_); refine GL (some 8) rfl rfl Try.func75 #[.agg #[.slice A0_1 l0_1.length c0_1, .int .i64 a0_2], .int .i64 a1] rfl ?_; (with_reducible refine (laws_szTree.calls k _ _ l0_1 a0_2 a1 t462 _ ?side1 ?side2 A3.out).mono ?_); (case side1 => exact CC (Kd.C_below HR0_1.out HB.out)); (case side2 => exact HC0_1.out); rintro e w7 ⟨rfl, hb⟩; refine ⟨_, rfl, ?_⟩; replace BK461 := Aside0.mk (KB BK461.out hb); replace HB := Aside0.mk (below_step (BB1 HB.out GE461.out) hb); (try clear hb)))
    go_ret
    exact ⟨ER, (BB1 HB.out GE461.out)⟩
  · rw [if_neg c4] at H
    have c4b0 : decide (t462 < 0) = false := decide_eq_false c4
    clear c4
    replace H := Option.bind_eq_some_iff.mp H
    obtain ⟨t463, A80, H⟩ := H
    replace H : (if t463 < 0 then (some (-1)) else ((laws_szLeaseS.f k l0_5 t463).bind fun t464 => (if t464 < 0 then (some (-1)) else (some t464)))) = some r := H
    have A8 := Aside0.mk A80
    clear A80
    by_cases c9 : t463 < 0
    · rw [if_pos c9] at H
      have c9b0 : decide (t463 < 0) = true := decide_eq_true c9
      clear c9
      obtain rfl := Option.some.inj H
      go_enter Try.func35, Try.ntmps35
      go_wp2_with (first | ((with_reducible refine gate_dst (N := 2) rfl ?_); refine BX 2 #[.bool a0_0, .slice A0_1 l0_1.length c0_1, .int .i64 a0_2, .int .i64 a0_3, .slice A0_4 l0_4.length c0_4, .slice A0_5 l0_5.length c0_5, .int .i64 a0_6] 65 ?_; intro gb461 hg w10 hbox hb; have BK461 := Aside0.mk (hbox); have GW461 : Aside0 (w.heap.size ≤ gb461) := WG hg (BB HB.out); have GE461 := GW461; replace HB := Aside0.mk (below_step (BB HB.out) hb); clear hb hbox hg; have hcz11 := blk_cell BK461.out; have hfz11 := blk_frozen BK461.out) | ((with_reducible refine gate_callee (f := 75) rfl ?_); refine GL (some 8) rfl rfl Try.func75 #[.agg #[.slice A0_1 l0_1.length c0_1, .int .i64 a0_2], .int .i64 a1] rfl ?_; (with_reducible refine (laws_szTree.calls k _ _ l0_1 a0_2 a1 t462 _ ?side1 ?side2 A3.out).mono ?_); (case side1 => exact CC (Kd.C_below HR0_1.out HB.out)); (case side2 => exact HC0_1.out); rintro e w12 ⟨rfl, hb⟩; refine ⟨_, rfl, ?_⟩; replace BK461 := Aside0.mk (KB BK461.out hb); replace HB := Aside0.mk (below_step (BB1 HB.out GE461.out) hb); (try clear hb); have hcz13 := blk_cell BK461.out; have hfz13 := blk_frozen BK461.out) | ((with_reducible refine gate_callee (f := 76) rfl ?_); refine GL (some 14) rfl rfl Try.func76 #[.agg #[.slice A0_4 l0_4.length c0_4], .int .i64 t462] rfl ?_; (with_reducible refine (laws_szDisk.calls k _ _ l0_4 t462 t463 _ ?side1 ?side2 A8.out).mono ?_); (case side1 => exact CC (Kd.C_below HR0_4.out HB.out)); (case side2 => exact HC0_4.out); rintro e w14 ⟨rfl, hb⟩; refine ⟨_, rfl, ?_⟩; replace BK461 := Aside0.mk (KB BK461.out hb); replace HB := Aside0.mk (below_step (BB1 HB.out GE461.out) hb); (try clear hb)))
      go_ret
      exact ⟨ER, (BB1 HB.out GE461.out)⟩
    · rw [if_neg c9] at H
      have c9b0 : decide (t463 < 0) = false := decide_eq_false c9
      clear c9
      replace H := Option.bind_eq_some_iff.mp H
      obtain ⟨t464, A150, H⟩ := H
      replace H : (if t464 < 0 then (some (-1)) else (some t464)) = some r := H
      have A15 := Aside0.mk A150
      clear A150
      by_cases c16 : t464 < 0
      · rw [if_pos c16] at H
        have c16b0 : decide (t464 < 0) = true := decide_eq_true c16
        clear c16
        obtain rfl := Option.some.inj H
        go_enter Try.func35, Try.ntmps35
        go_wp2_with (first | ((with_reducible refine gate_dst (N := 2) rfl ?_); refine BX 2 #[.bool a0_0, .slice A0_1 l0_1.length c0_1, .int .i64 a0_2, .int .i64 a0_3, .slice A0_4 l0_4.length c0_4, .slice A0_5 l0_5.length c0_5, .int .i64 a0_6] 65 ?_; intro gb461 hg w17 hbox hb; have BK461 := Aside0.mk (hbox); have GW461 : Aside0 (w.heap.size ≤ gb461) := WG hg (BB HB.out); have GE461 := GW461; replace HB := Aside0.mk (below_step (BB HB.out) hb); clear hb hbox hg; have hcz18 := blk_cell BK461.out; have hfz18 := blk_frozen BK461.out) | ((with_reducible refine gate_callee (f := 75) rfl ?_); refine GL (some 8) rfl rfl Try.func75 #[.agg #[.slice A0_1 l0_1.length c0_1, .int .i64 a0_2], .int .i64 a1] rfl ?_; (with_reducible refine (laws_szTree.calls k _ _ l0_1 a0_2 a1 t462 _ ?side1 ?side2 A3.out).mono ?_); (case side1 => exact CC (Kd.C_below HR0_1.out HB.out)); (case side2 => exact HC0_1.out); rintro e w19 ⟨rfl, hb⟩; refine ⟨_, rfl, ?_⟩; replace BK461 := Aside0.mk (KB BK461.out hb); replace HB := Aside0.mk (below_step (BB1 HB.out GE461.out) hb); (try clear hb); have hcz20 := blk_cell BK461.out; have hfz20 := blk_frozen BK461.out) | ((with_reducible refine gate_callee (f := 76) rfl ?_); refine GL (some 14) rfl rfl Try.func76 #[.agg #[.slice A0_4 l0_4.length c0_4], .int .i64 t462] rfl ?_; (with_reducible refine (laws_szDisk.calls k _ _ l0_4 t462 t463 _ ?side1 ?side2 A8.out).mono ?_); (case side1 => exact CC (Kd.C_below HR0_4.out HB.out)); (case side2 => exact HC0_4.out); rintro e w21 ⟨rfl, hb⟩; refine ⟨_, rfl, ?_⟩; replace BK461 := Aside0.mk (KB BK461.out hb); replace HB := Aside0.mk (below_step (BB1 HB.out GE461.out) hb); (try clear hb); have hcz22 := blk_cell BK461.out; have hfz22 := blk_frozen BK461.out) | ((with_reducible refine gate_callee (f := 77) rfl ?_); refine GL (some 20) rfl rfl Try.func77 #[.slice A0_5 l0_5.length c0_5, .int .i64 t463] rfl ?_; (with_reducible refine (laws_szLeaseS.calls k _ _ l0_5 t463 t464 _ ?side1 ?side2 A15.out).mono ?_); (case side1 => exact CC (Kd.C_below HR0_5.out HB.out)); (case side2 => exact HC0_5.out); rintro e w23 ⟨rfl, hb⟩; refine ⟨_, rfl, ?_⟩; replace BK461 := Aside0.mk (KB BK461.out hb); replace HB := Aside0.mk (below_step (BB1 HB.out GE461.out) hb); (try clear hb)))
        go_ret
        exact ⟨ER, (BB1 HB.out GE461.out)⟩
      · rw [if_neg c16] at H
        have c16b0 : decide (t464 < 0) = false := decide_eq_false c16
        clear c16
        obtain rfl := Option.some.inj H
        go_enter Try.func35, Try.ntmps35
        go_wp2_with (first | ((with_reducible refine gate_dst (N := 2) rfl ?_); refine BX 2 #[.bool a0_0, .slice A0_1 l0_1.length c0_1, .int .i64 a0_2, .int .i64 a0_3, .slice A0_4 l0_4.length c0_4, .slice A0_5 l0_5.length c0_5, .int .i64 a0_6] 65 ?_; intro gb461 hg w24 hbox hb; have BK461 := Aside0.mk (hbox); have GW461 : Aside0 (w.heap.size ≤ gb461) := WG hg (BB HB.out); have GE461 := GW461; replace HB := Aside0.mk (below_step (BB HB.out) hb); clear hb hbox hg; have hcz25 := blk_cell BK461.out; have hfz25 := blk_frozen BK461.out) | ((with_reducible refine gate_callee (f := 75) rfl ?_); refine GL (some 8) rfl rfl Try.func75 #[.agg #[.slice A0_1 l0_1.length c0_1, .int .i64 a0_2], .int .i64 a1] rfl ?_; (with_reducible refine (laws_szTree.calls k _ _ l0_1 a0_2 a1 t462 _ ?side1 ?side2 A3.out).mono ?_); (case side1 => exact CC (Kd.C_below HR0_1.out HB.out)); (case side2 => exact HC0_1.out); rintro e w26 ⟨rfl, hb⟩; refine ⟨_, rfl, ?_⟩; replace BK461 := Aside0.mk (KB BK461.out hb); replace HB := Aside0.mk (below_step (BB1 HB.out GE461.out) hb); (try clear hb); have hcz27 := blk_cell BK461.out; have hfz27 := blk_frozen BK461.out) | ((with_reducible refine gate_callee (f := 76) rfl ?_); refine GL (some 14) rfl rfl Try.func76 #[.agg #[.slice A0_4 l0_4.length c0_4], .int .i64 t462] rfl ?_; (with_reducible refine (laws_szDisk.calls k _ _ l0_4 t462 t463 _ ?side1 ?side2 A8.out).mono ?_); (case side1 => exact CC (Kd.C_below HR0_4.out HB.out)); (case side2 => exact HC0_4.out); rintro e w28 ⟨rfl, hb⟩; refine ⟨_, rfl, ?_⟩; replace BK461 := Aside0.mk (KB BK461.out hb); replace HB := Aside0.mk (below_step (BB1 HB.out GE461.out) hb); (try clear hb); have hcz29 := blk_cell BK461.out; have hfz29 := blk_frozen BK461.out) | ((with_reducible refine gate_callee (f := 77) rfl ?_); refine GL (some 20) rfl rfl Try.func77 #[.slice A0_5 l0_5.length c0_5, .int .i64 t463] rfl ?_; (with_reducible refine (laws_szLeaseS.calls k _ _ l0_5 t463 t464 _ ?side1 ?side2 A15.out).mono ?_); (case side1 => exact CC (Kd.C_below HR0_5.out HB.out)); (case side2 => exact HC0_5.out); rintro e w30 ⟨rfl, hb⟩; refine ⟨_, rfl, ?_⟩; replace BK461 := Aside0.mk (KB BK461.out hb); replace HB := Aside0.mk (below_step (BB1 HB.out GE461.out) hb); (try clear hb)))
        go_ret
        exact ⟨ER, (BB1 HB.out GE461.out)⟩

end Go.Proofs.Ytfgnaneajonapaa.Pr

/- Printed out of the translation by this session's pr.py over the kit's print. Lean checks it. -/
namespace Go.Proofs.Ytfgnaneajonapaa.Pr
open Go.RowKit Go.Proofs.YtfgnaneajonapaaW.PrintWords Go.Proofs.YtfgnaneajonapaaW.PrintLast Go.Proofs.YtfgnaneajonapaaW.PrintMore
attribute [local go_sem] max2_int min2_int max_two min_two max_three min_three max_four min_four
set_option linter.unusedVariables false
set_option linter.unusedSimpArgs false

/-! ### laws_toServer: function 38 -/
def laws_toServer.f (k : Nat) (a0_0 : Bool) (l0_1 : List (S199)) (a0_2 : Int) (a0_3 : Int) (l0_4 : List (S201)) (l0_5 : List (S161)) (a0_6 : Int) : Option (Bool × (List (S135)) × Int × Int × (List (S192)) × (List (S120)) × Int) := (laws_toTree.f k l0_1 a0_2).bind fun bt543 => ((laws_toDisk.f k l0_4).bind fun t547 => ((laws_toLeaseS.f k l0_5).bind fun t550 => (some (a0_0, bt543.1, bt543.2, a0_3, t547, t550, a0_6))))
set_option maxHeartbeats 8000000 in
set_option maxRecDepth 100000 in
theorem laws_toServer.calls (k : Nat) (a0_0 : Bool) (A0_1 : Option Addr) (c0_1 : Nat) (l0_1 : List (S199)) (a0_2 : Int) (a0_3 : Int) (A0_4 : Option Addr) (c0_4 : Nat) (l0_4 : List (S201)) (A0_5 : Option Addr) (c0_5 : Nat) (l0_5 : List (S161)) (a0_6 : Int) (r1 : Bool) (r2 : List (S135)) (r3 : Int) (r4 : Int) (r5 : List (S192)) (r6 : List (S120)) (r7 : Int) (w : World) (hr0_1 : Kd.C k199 w A0_1 l0_1.length l0_1) (hc0_1 : l0_1.length ≤ c0_1) (hr0_4 : Kd.C k201 w A0_4 l0_4.length l0_4) (hc0_4 : l0_4.length ≤ c0_4) (hr0_5 : Kd.C k161 w A0_5 l0_5.length l0_5) (hc0_5 : l0_5.length ≤ c0_5) (h : laws_toServer.f k a0_0 l0_1 a0_2 a0_3 l0_4 l0_5 a0_6 = some (r1, r2, r3, r4, r5, r6, r7)) :
    Calls Try.prog 38 #[.agg #[.bool a0_0, .slice A0_1 l0_1.length c0_1, .int .i64 a0_2, .int .i64 a0_3, .slice A0_4 l0_4.length c0_4, .slice A0_5 l0_5.length c0_5, .int .i64 a0_6]] w fun e w' => ∃ v1_ v4_ v5_ : Value, e = .returned (.agg #[.bool r1, v1_, .int .i64 r3, .int .i64 r4, v4_, v5_, .int .i64 r7]) ∧ Kd.S k135 135 w' w.heap.size (fun _ => True) v1_ r2 ∧ Kd.R k192 192 w' w.heap.size (fun _ => True) v4_ r5 ∧ Kd.R k120 120 w' w.heap.size (fun _ => True) v5_ r6 ∧ Below w.heap.size w w' := by
  have hu65 := Try.underlying65
  have hu46 := Try.underlying46
  have hu59 := Try.underlying59
  have hu40 := Try.underlying40
  have hu62 := Try.underlying62
  have hu43 := Try.underlying43
  have HR0_1 := Aside0.mk hr0_1
  have HC0_1 := Aside0.mk hc0_1
  clear hr0_1 hc0_1
  have HR0_4 := Aside0.mk hr0_4
  have HC0_4 := Aside0.mk hc0_4
  clear hr0_4 hc0_4
  have HR0_5 := Aside0.mk hr0_5
  have HC0_5 := Aside0.mk hc0_5
  clear hr0_5 hc0_5
  have HB := Aside0.mk (Below.refl w.heap.size w)
  have H : ((laws_toTree.f k l0_1 a0_2).bind fun bt543 => ((laws_toDisk.f k l0_4).bind fun t547 => ((laws_toLeaseS.f k l0_5).bind fun t550 => (some (a0_0, bt543.1, bt543.2, a0_3, t547, t550, a0_6))))) = some (r1, r2, r3, r4, r5, r6, r7) := h
  clear h
  replace H := Option.bind_eq_some_iff.mp H
  obtain ⟨⟨t543, t546⟩, A20, H⟩ := H
  replace H : ((laws_toDisk.f k l0_4).bind fun t547 => ((laws_toLeaseS.f k l0_5).bind fun t550 => (some (a0_0, t543, t546, a0_3, t547, t550, a0_6)))) = some (r1, r2, r3, r4, r5, r6, r7) := H
  have A2 := Aside0.mk A20
  clear A20
  replace H := Option.bind_eq_some_iff.mp H
  obtain ⟨t547, A30, H⟩ := H
  replace H : ((laws_toLeaseS.f k l0_5).bind fun t550 => (some (a0_0, t543, t546, a0_3, t547, t550, a0_6))) = some (r1, r2, r3, r4, r5, r6, r7) := H
  have A3 := Aside0.mk A30
  clear A30
  replace H := Option.bind_eq_some_iff.mp H
  obtain ⟨t550, A40, H⟩ := H
  replace H : (some (a0_0, t543, t546, a0_3, t547, t550, a0_6)) = some (r1, r2, r3, r4, r5, r6, r7) := H
  have A4 := Aside0.mk A40
  clear A40
  simp only [Option.some.injEq, Prod.mk.injEq] at H
  obtain ⟨rfl, rfl, rfl, rfl, rfl, rfl, rfl⟩ := H
  go_enter Try.func38, Try.ntmps38
  go_wp2_with (first | ((with_reducible refine gate_dst (N := 1) rfl ?_); refine BX 1 #[.bool a0_0, .slice A0_1 l0_1.length c0_1, .int .i64 a0_2, .int .i64 a0_3, .slice A0_4 l0_4.length c0_4, .slice A0_5 l0_5.length c0_5, .int .i64 a0_6] 65 ?_; intro gb540 hg w5 hbox hb; have BK540 := Aside0.mk (hbox); have GW540 : Aside0 (w.heap.size ≤ gb540) := WG hg (BB HB.out); have GE540 := GW540; replace HB := Aside0.mk (below_step (BB HB.out) hb); clear hb hbox hg) | ((with_reducible refine gate_dst (N := 2) rfl ?_); refine BX 2 #[.bool false, .slice none 0 0, .int .i64 0, .int .i64 0, .slice none 0 0, .slice none 0 0, .int .i64 0] 46 ?_; intro gb541 hg w6 hbox hb; have BK541 := Aside0.mk (hbox); have GW541 : Aside0 (w.heap.size ≤ gb541) := WG hg (BB1 HB.out GE540.out); have GE541 := GW541; have NB540_541 := NL BK540.out hg; have NB541_540 := NG BK540.out hg; replace BK540 := Aside0.mk (KB BK540.out hb); replace HB := Aside0.mk (below_step (BB1 HB.out GE540.out) hb); clear hb hbox hg) | ((with_reducible refine gate_dst (N := 3) rfl ?_); refine BX 3 #[.bool false, .slice none 0 0, .int .i64 0, .int .i64 0, .slice none 0 0, .slice none 0 0, .int .i64 0] 46 ?_; intro gb542 hg w7 hbox hb; have BK542 := Aside0.mk (hbox); have GW542 : Aside0 (w.heap.size ≤ gb542) := WG hg (BB2 HB.out GE540.out GE541.out); have GE542 := GW542; have NB540_542 := NL BK540.out hg; have NB542_540 := NG BK540.out hg; have NB541_542 := NL BK541.out hg; have NB542_541 := NG BK541.out hg; replace BK540 := Aside0.mk (KB BK540.out hb); replace BK541 := Aside0.mk (KB BK541.out hb); replace HB := Aside0.mk (below_step (BB2 HB.out GE540.out GE541.out) hb); clear hb hbox hg; have hnb8 := NB540_541.out; have hnc8 := NB541_540.out; have hnb9 := NB540_542.out; have hnc9 := NB542_540.out; have hcz10 := blk_cell BK540.out; have hfz10 := blk_frozen BK540.out; have hnb11 := NB542_541.out; have hnc11 := NB541_542.out; have hcz12 := blk_cell BK542.out; have hfz12 := blk_frozen BK542.out) | ((with_reducible refine gate_callee (f := 80) rfl ?_); refine GL (some 9) rfl rfl Try.func80 #[.agg #[.slice A0_1 l0_1.length c0_1, .int .i64 a0_2]] rfl ?_; (with_reducible refine (laws_toTree.calls k _ _ l0_1 a0_2 t543 t546 _ ?side1 ?side2 A2.out).mono ?_); (case side1 => exact Kd.C_below HR0_1.out (BB3 HB.out GE540.out GE541.out GE542.out)); (case side2 => exact HC0_1.out); rintro e w13 ⟨v544, rfl, ho0, hb⟩; refine ⟨_, rfl, ?_⟩; have n0_ := Aside0.mk (Kd.S_lower ho0 (below_size (BB3 HB.out GE540.out GE541.out GE542.out))); have n1_ := Aside0.mk (blk_below (g := gb540) (o := .cells #[.bool a0_0, .slice A0_1 l0_1.length c0_1, .int .i64 a0_2, .int .i64 a0_3, .slice A0_4 l0_4.length c0_4, .slice A0_5 l0_5.length c0_5, .int .i64 a0_6] 65 (0, 0)) (by (with_reducible repeat (first | refine blk_drewN ?_ _ | refine blk_drew ?_ | refine blk_alloc ?_ _)); refine blk_far ?_ NB540_542.out _; (with_reducible repeat (first | refine blk_drewN ?_ _ | refine blk_drew ?_ | refine blk_alloc ?_ _)); exact BK540.out) hb); have n2_ := Aside0.mk (blk_below (g := gb541) (o := .cells #[.bool false, .slice none 0 0, .int .i64 0, .int .i64 0, .slice none 0 0, .slice none 0 0, .int .i64 0] 46 (0, 0)) (by (with_reducible repeat (first | refine blk_drewN ?_ _ | refine blk_drew ?_ | refine blk_alloc ?_ _)); refine blk_far ?_ NB541_542.out _; (with_reducible repeat (first | refine blk_drewN ?_ _ | refine blk_drew ?_ | refine blk_alloc ?_ _)); exact BK541.out) hb); have n3_ := Aside0.mk (blk_below (g := gb542) (o := .cells #[.bool a0_0, .slice none 0 0, .int .i64 0, .int .i64 0, .slice none 0 0, .slice none 0 0, .int .i64 0] 46 (0, 0)) (by (with_reducible repeat (first | refine blk_drewN ?_ _ | refine blk_drew ?_ | refine blk_alloc ?_ _)); refine blk_put (cs := #[.bool false, .slice none 0 0, .int .i64 0, .int .i64 0, .slice none 0 0, .slice none 0 0, .int .i64 0]) ?_ 0 _ rfl; (with_reducible repeat (first | refine blk_drewN ?_ _ | refine blk_drew ?_ | refine blk_alloc ?_ _)); exact BK542.out) hb); have n4_ := Aside0.mk (below_step (BB3 HB.out GE540.out GE541.out GE542.out) hb); clear BK540; clear BK541; clear BK542; clear HB; have HO545 := n0_; have BK540 := n1_; have BK541 := n2_; have BK542 := n3_; have HB := n4_; clear n0_ n1_ n2_ n3_ n4_; (try clear hb); (try clear ho0); obtain ⟨Ao14, co14, eo14⟩ := Kd.S_slice HO545.out; subst eo14; have hcz15 := blk_cell BK542.out; have hfz15 := blk_frozen BK542.out; have hcz16 := blk_cell BK540.out; have hfz16 := blk_frozen BK540.out) | ((with_reducible refine gate_callee (f := 81) rfl ?_); refine GL (some 16) rfl rfl Try.func81 #[.agg #[.slice A0_4 l0_4.length c0_4]] rfl ?_; (with_reducible refine (laws_toDisk.calls k _ _ l0_4 t547 _ ?side1 ?side2 A3.out).mono ?_); (case side1 => exact Kd.C_below HR0_4.out (BB3 HB.out GE540.out GE541.out GE542.out)); (case side2 => exact HC0_4.out); rintro e w17 ⟨v548, rfl, ho0, hb⟩; refine ⟨_, rfl, ?_⟩; have n0_ := Aside0.mk (Kd.S_below (by (with_reducible repeat (first | apply Kd.S_alloc | apply Kd.S_drewN | apply Kd.S_drew)); exact (Kd.S_mono (Kd.S_far (p := ⟨gb542, 3, none⟩) (Kd.S_far (p := ⟨gb542, 2, none⟩) (Kd.S_far (p := ⟨gb542, 1, none⟩) (Kd.S_types HO545.out BK542.out (by decide)) (fun _ hk => hk.2) (.slice Ao14 t543.length co14)) (fun _ hk => hk.2) (.int .i64 t546)) (fun _ hk => hk.2) (.int .i64 a0_3)) (fun _ h_ => h_.1))) hb); have n1_ := Aside0.mk (Kd.R_lower ho0 (below_size (BB3 HB.out GE540.out GE541.out GE542.out))); have n2_ := Aside0.mk (blk_below (g := gb540) (o := .cells #[.bool a0_0, .slice A0_1 l0_1.length c0_1, .int .i64 a0_2, .int .i64 a0_3, .slice A0_4 l0_4.length c0_4, .slice A0_5 l0_5.length c0_5, .int .i64 a0_6] 65 (0, 0)) (by (with_reducible repeat (first | refine blk_drewN ?_ _ | refine blk_drew ?_ | refine blk_alloc ?_ _)); refine blk_far ?_ NB540_542.out _; (with_reducible repeat (first | refine blk_drewN ?_ _ | refine blk_drew ?_ | refine blk_alloc ?_ _)); refine blk_far ?_ NB540_542.out _; (with_reducible repeat (first | refine blk_drewN ?_ _ | refine blk_drew ?_ | refine blk_alloc ?_ _)); refine blk_far ?_ NB540_542.out _; (with_reducible repeat (first | refine blk_drewN ?_ _ | refine blk_drew ?_ | refine blk_alloc ?_ _)); exact BK540.out) hb); have n3_ := Aside0.mk (blk_below (g := gb541) (o := .cells #[.bool false, .slice none 0 0, .int .i64 0, .int .i64 0, .slice none 0 0, .slice none 0 0, .int .i64 0] 46 (0, 0)) (by (with_reducible repeat (first | refine blk_drewN ?_ _ | refine blk_drew ?_ | refine blk_alloc ?_ _)); refine blk_far ?_ NB541_542.out _; (with_reducible repeat (first | refine blk_drewN ?_ _ | refine blk_drew ?_ | refine blk_alloc ?_ _)); refine blk_far ?_ NB541_542.out _; (with_reducible repeat (first | refine blk_drewN ?_ _ | refine blk_drew ?_ | refine blk_alloc ?_ _)); refine blk_far ?_ NB541_542.out _; (with_reducible repeat (first | refine blk_drewN ?_ _ | refine blk_drew ?_ | refine blk_alloc ?_ _)); exact BK541.out) hb); have n4_ := Aside0.mk (blk_below (g := gb542) (o := .cells #[.bool a0_0, .slice Ao14 t543.length co14, .int .i64 t546, .int .i64 a0_3, .slice none 0 0, .slice none 0 0, .int .i64 0] 46 (0, 0)) (by (with_reducible repeat (first | refine blk_drewN ?_ _ | refine blk_drew ?_ | refine blk_alloc ?_ _)); refine blk_put (cs := #[.bool a0_0, .slice Ao14 t543.length co14, .int .i64 t546, .int .i64 0, .slice none 0 0, .slice none 0 0, .int .i64 0]) ?_ 3 _ rfl; (with_reducible repeat (first | refine blk_drewN ?_ _ | refine blk_drew ?_ | refine blk_alloc ?_ _)); refine blk_put (cs := #[.bool a0_0, .slice Ao14 t543.length co14, .int .i64 0, .int .i64 0, .slice none 0 0, .slice none 0 0, .int .i64 0]) ?_ 2 _ rfl; (with_reducible repeat (first | refine blk_drewN ?_ _ | refine blk_drew ?_ | refine blk_alloc ?_ _)); refine blk_put (cs := #[.bool a0_0, .slice none 0 0, .int .i64 0, .int .i64 0, .slice none 0 0, .slice none 0 0, .int .i64 0]) ?_ 1 _ rfl; (with_reducible repeat (first | refine blk_drewN ?_ _ | refine blk_drew ?_ | refine blk_alloc ?_ _)); exact BK542.out) hb); have n5_ := Aside0.mk (below_step (BB3 HB.out GE540.out GE541.out GE542.out) hb); clear HO545; clear BK540; clear BK541; clear BK542; clear HB; have HO545 := n0_; have HO549 := n1_; have BK540 := n2_; have BK541 := n3_; have BK542 := n4_; have HB := n5_; clear n0_ n1_ n2_ n3_ n4_ n5_; (try clear hb); (try clear ho0); obtain ⟨Ao18, co18, eo18⟩ := Kd.R_slice HO549.out; subst eo18; have hcz19 := blk_cell BK542.out; have hfz19 := blk_frozen BK542.out; have hcz20 := blk_cell BK540.out; have hfz20 := blk_frozen BK540.out) | ((with_reducible refine gate_callee (f := 82) rfl ?_); refine GL (some 20) rfl rfl Try.func82 #[.slice A0_5 l0_5.length c0_5] rfl ?_; (with_reducible refine (laws_toLeaseS.calls k _ _ l0_5 t550 _ ?side1 ?side2 A4.out).mono ?_); (case side1 => exact Kd.C_below HR0_5.out (BB3 HB.out GE540.out GE541.out GE542.out)); (case side2 => exact HC0_5.out); rintro e w21 ⟨v551, rfl, ho0, hb⟩; refine ⟨_, rfl, ?_⟩; have n0_ := Aside0.mk (Kd.S_below (by (with_reducible repeat (first | apply Kd.S_alloc | apply Kd.S_drewN | apply Kd.S_drew)); exact (Kd.S_mono (Kd.S_far (p := ⟨gb542, 4, none⟩) (Kd.S_types HO545.out BK542.out (by decide)) (fun _ hk => hk.2) (.slice Ao18 t547.length co18)) (fun _ h_ => h_.1))) hb); have n1_ := Aside0.mk (Kd.R_below (by (with_reducible repeat (first | apply Kd.R_alloc | apply Kd.R_drewN | apply Kd.R_drew)); exact (Kd.R_mono (Kd.R_far (p := ⟨gb542, 4, none⟩) (Kd.R_types HO549.out BK542.out (by decide)) (fun _ hk => hk.2) (.slice Ao18 t547.length co18)) (fun _ h_ => h_.1))) hb); have n2_ := Aside0.mk (Kd.R_lower ho0 (below_size (BB3 HB.out GE540.out GE541.out GE542.out))); have n3_ := Aside0.mk (blk_below (g := gb540) (o := .cells #[.bool a0_0, .slice A0_1 l0_1.length c0_1, .int .i64 a0_2, .int .i64 a0_3, .slice A0_4 l0_4.length c0_4, .slice A0_5 l0_5.length c0_5, .int .i64 a0_6] 65 (0, 0)) (by (with_reducible repeat (first | refine blk_drewN ?_ _ | refine blk_drew ?_ | refine blk_alloc ?_ _)); refine blk_far ?_ NB540_542.out _; (with_reducible repeat (first | refine blk_drewN ?_ _ | refine blk_drew ?_ | refine blk_alloc ?_ _)); exact BK540.out) hb); have n4_ := Aside0.mk (blk_below (g := gb541) (o := .cells #[.bool false, .slice none 0 0, .int .i64 0, .int .i64 0, .slice none 0 0, .slice none 0 0, .int .i64 0] 46 (0, 0)) (by (with_reducible repeat (first | refine blk_drewN ?_ _ | refine blk_drew ?_ | refine blk_alloc ?_ _)); refine blk_far ?_ NB541_542.out _; (with_reducible repeat (first | refine blk_drewN ?_ _ | refine blk_drew ?_ | refine blk_alloc ?_ _)); exact BK541.out) hb); have n5_ := Aside0.mk (blk_below (g := gb542) (o := .cells #[.bool a0_0, .slice Ao14 t543.length co14, .int .i64 t546, .int .i64 a0_3, .slice Ao18 t547.length co18, .slice none 0 0, .int .i64 0] 46 (0, 0)) (by (with_reducible repeat (first | refine blk_drewN ?_ _ | refine blk_drew ?_ | refine blk_alloc ?_ _)); refine blk_put (cs := #[.bool a0_0, .slice Ao14 t543.length co14, .int .i64 t546, .int .i64 a0_3, .slice none 0 0, .slice none 0 0, .int .i64 0]) ?_ 4 _ rfl; (with_reducible repeat (first | refine blk_drewN ?_ _ | refine blk_drew ?_ | refine blk_alloc ?_ _)); exact BK542.out) hb); have n6_ := Aside0.mk (below_step (BB3 HB.out GE540.out GE541.out GE542.out) hb); clear HO545; clear HO549; clear BK540; clear BK541; clear BK542; clear HB; have HO545 := n0_; have HO549 := n1_; have HO552 := n2_; have BK540 := n3_; have BK541 := n4_; have BK542 := n5_; have HB := n6_; clear n0_ n1_ n2_ n3_ n4_ n5_ n6_; (try clear hb); (try clear ho0); obtain ⟨Ao22, co22, eo22⟩ := Kd.R_slice HO552.out; subst eo22; have hcz23 := blk_cell BK542.out; have hfz23 := blk_frozen BK542.out; have hcz24 := blk_cell BK540.out; have hfz24 := blk_frozen BK540.out; have hcz25 := blk_cell BK541.out; have hfz25 := blk_frozen BK541.out))
  refine bodyPost_ret (results_cell_row rfl _ _ gb541 46 #[.bool a0_0, .slice Ao14 t543.length co14, .int .i64 t546, .int .i64 a0_3, .slice Ao18 t547.length co18, .slice Ao22 t550.length co22, .int .i64 a0_6] (0, 0) _ rfl (by (with_reducible repeat (first | refine blk_drewN ?_ _ | refine blk_drew ?_ | refine blk_alloc ?_ _)); refine blk_put (cs := #[.bool a0_0, .slice Ao14 t543.length co14, .int .i64 t546, .int .i64 a0_3, .slice Ao18 t547.length co18, .slice Ao22 t550.length co22, .int .i64 0]) ?_ 6 _ rfl; (with_reducible repeat (first | refine blk_drewN ?_ _ | refine blk_drew ?_ | refine blk_alloc ?_ _)); refine blk_put (cs := #[.bool a0_0, .slice Ao14 t543.length co14, .int .i64 t546, .int .i64 a0_3, .slice Ao18 t547.length co18, .slice none 0 0, .int .i64 0]) ?_ 5 _ rfl; (with_reducible repeat (first | refine blk_drewN ?_ _ | refine blk_drew ?_ | refine blk_alloc ?_ _)); refine blk_put (cs := #[.bool a0_0, .slice Ao14 t543.length co14, .int .i64 t546, .int .i64 a0_3, .slice none 0 0, .slice none 0 0, .int .i64 0]) ?_ 4 _ rfl; (with_reducible repeat (first | refine blk_drewN ?_ _ | refine blk_drew ?_ | refine blk_alloc ?_ _)); refine blk_put (cs := #[.bool a0_0, .slice Ao14 t543.length co14, .int .i64 t546, .int .i64 0, .slice none 0 0, .slice none 0 0, .int .i64 0]) ?_ 3 _ rfl; (with_reducible repeat (first | refine blk_drewN ?_ _ | refine blk_drew ?_ | refine blk_alloc ?_ _)); refine blk_put (cs := #[.bool a0_0, .slice Ao14 t543.length co14, .int .i64 0, .int .i64 0, .slice none 0 0, .slice none 0 0, .int .i64 0]) ?_ 2 _ rfl; (with_reducible repeat (first | refine blk_drewN ?_ _ | refine blk_drew ?_ | refine blk_alloc ?_ _)); refine blk_put (cs := #[.bool a0_0, .slice none 0 0, .int .i64 0, .int .i64 0, .slice none 0 0, .slice none 0 0, .int .i64 0]) ?_ 1 _ rfl; (with_reducible repeat (first | refine blk_drewN ?_ _ | refine blk_drew ?_ | refine blk_alloc ?_ _)); refine blk_put (cs := #[.bool false, .slice none 0 0, .int .i64 0, .int .i64 0, .slice none 0 0, .slice none 0 0, .int .i64 0]) ?_ 0 _ rfl; (with_reducible repeat (first | refine blk_drewN ?_ _ | refine blk_drew ?_ | refine blk_alloc ?_ _)); refine blk_far ?_ NB541_542.out _; (with_reducible repeat (first | refine blk_drewN ?_ _ | refine blk_drew ?_ | refine blk_alloc ?_ _)); refine blk_far ?_ NB541_542.out _; (with_reducible repeat (first | refine blk_drewN ?_ _ | refine blk_drew ?_ | refine blk_alloc ?_ _)); exact BK541.out) Try.underlying46 rfl (by kernel_rfl)) rfl ?_
  exact ⟨_, _, _, ER, by (with_reducible repeat (first | apply Kd.S_alloc | apply Kd.S_drewN | apply Kd.S_drew)); exact Kd.S_mono (Kd.S_far (p := ⟨gb541, 6, none⟩) (Kd.S_far (p := ⟨gb541, 5, none⟩) (Kd.S_far (p := ⟨gb541, 4, none⟩) (Kd.S_far (p := ⟨gb541, 3, none⟩) (Kd.S_far (p := ⟨gb541, 2, none⟩) (Kd.S_far (p := ⟨gb541, 1, none⟩) (Kd.S_far (p := ⟨gb541, 0, none⟩) (Kd.S_far (p := ⟨gb542, 6, none⟩) (Kd.S_far (p := ⟨gb542, 5, none⟩) (Kd.S_types (Kd.S_types HO545.out BK542.out (by decide)) BK541.out (by decide)) (fun _ hk => hk.1.2) (.slice Ao22 t550.length co22)) (fun _ hk => hk.1.2) (.int .i64 a0_6)) (fun _ hk => hk.2) (.bool a0_0)) (fun _ hk => hk.2) (.slice Ao14 t543.length co14)) (fun _ hk => hk.2) (.int .i64 t546)) (fun _ hk => hk.2) (.int .i64 a0_3)) (fun _ hk => hk.2) (.slice Ao18 t547.length co18)) (fun _ hk => hk.2) (.slice Ao22 t550.length co22)) (fun _ hk => hk.2) (.int .i64 a0_6)) (fun _ hk => trivial), by (with_reducible repeat (first | apply Kd.R_alloc | apply Kd.R_drewN | apply Kd.R_drew)); exact Kd.R_mono (Kd.R_far (p := ⟨gb541, 6, none⟩) (Kd.R_far (p := ⟨gb541, 5, none⟩) (Kd.R_far (p := ⟨gb541, 4, none⟩) (Kd.R_far (p := ⟨gb541, 3, none⟩) (Kd.R_far (p := ⟨gb541, 2, none⟩) (Kd.R_far (p := ⟨gb541, 1, none⟩) (Kd.R_far (p := ⟨gb541, 0, none⟩) (Kd.R_far (p := ⟨gb542, 6, none⟩) (Kd.R_far (p := ⟨gb542, 5, none⟩) (Kd.R_types (Kd.R_types HO549.out BK542.out (by decide)) BK541.out (by decide)) (fun _ hk => hk.1.2) (.slice Ao22 t550.length co22)) (fun _ hk => hk.1.2) (.int .i64 a0_6)) (fun _ hk => hk.2) (.bool a0_0)) (fun _ hk => hk.2) (.slice Ao14 t543.length co14)) (fun _ hk => hk.2) (.int .i64 t546)) (fun _ hk => hk.2) (.int .i64 a0_3)) (fun _ hk => hk.2) (.slice Ao18 t547.length co18)) (fun _ hk => hk.2) (.slice Ao22 t550.length co22)) (fun _ hk => hk.2) (.int .i64 a0_6)) (fun _ hk => trivial), by (with_reducible repeat (first | apply Kd.R_alloc | apply Kd.R_drewN | apply Kd.R_drew)); exact Kd.R_mono (Kd.R_far (p := ⟨gb541, 6, none⟩) (Kd.R_far (p := ⟨gb541, 5, none⟩) (Kd.R_far (p := ⟨gb541, 4, none⟩) (Kd.R_far (p := ⟨gb541, 3, none⟩) (Kd.R_far (p := ⟨gb541, 2, none⟩) (Kd.R_far (p := ⟨gb541, 1, none⟩) (Kd.R_far (p := ⟨gb541, 0, none⟩) (Kd.R_far (p := ⟨gb542, 6, none⟩) (Kd.R_far (p := ⟨gb542, 5, none⟩) (Kd.R_types (Kd.R_types HO552.out BK542.out (by decide)) BK541.out (by decide)) (fun _ hk => hk.1.2) (.slice Ao22 t550.length co22)) (fun _ hk => hk.1.2) (.int .i64 a0_6)) (fun _ hk => hk.2) (.bool a0_0)) (fun _ hk => hk.2) (.slice Ao14 t543.length co14)) (fun _ hk => hk.2) (.int .i64 t546)) (fun _ hk => hk.2) (.int .i64 a0_3)) (fun _ hk => hk.2) (.slice Ao18 t547.length co18)) (fun _ hk => hk.2) (.slice Ao22 t550.length co22)) (fun _ hk => hk.2) (.int .i64 a0_6)) (fun _ hk => trivial), (BB3 HB.out GE540.out GE541.out GE542.out)⟩

end Go.Proofs.Ytfgnaneajonapaa.Pr

/- Generated by plumb.py: the laws' helpers of a type, told as plain functions. -/
namespace Go.Proofs.Ytfgnaneajonapaa.Lw
open Go.RowKit Go.Proofs.YtfgnaneajonapaaW.PrintWords Go.Proofs.Ytfgnaneajonapaa.Pr Go.Proofs.Ytfgnaneajonapaa.Evs
set_option linter.unusedVariables false
abbrev LServer := S65
abbrev ImServer := S46
def wtServer (x : LServer) : Nat := (wtTree x.f1) + (wtDisk x.f3) + (wtLeaseS x.f4)
def wtServerS : List LServer → Nat
  | [] => 0
  | x :: s => 1 + wtServer x + wtServerS s
def okServer (x : LServer) : Prop := okTree x.f1 ∧ okDisk x.f3 ∧ (x.f4.length ≤ maxLen ∧ ∀ y ∈ x.f4, okLease y)
theorem wtServerS_len (l : List LServer) : l.length ≤ wtServerS l := by
  induction l with
  | nil => simp
  | cons x s ih => simp [wtServerS]; omega
def toServer (x : LServer) : ImServer := ⟨x.f0, (toTree x.f1), x.f2, (toDisk x.f3), (x.f4.map toLease), x.f5⟩
theorem rd65 (p s : List S65) (x : S65) : rd_T65 (p ++ x :: s) (p.length : Int) = x := by unfold rd_T65; exact getD_mid' p s x _ _ rfl
theorem rd46 (p s : List S46) (x : S46) : rd_T46 (p ++ x :: s) (p.length : Int) = x := by unfold rd_T46; exact getD_mid' p s x _ _ rfl
theorem szServer_ev (x : LServer) (left : Int) (h0 : 0 ≤ left) (h1 : left ≤ 1048576) (hx : okServer x) : SzEv (fun k => laws_szServer.f k (x.f0) (x.f1.f0) (x.f1.f1) (x.f2) (x.f3.f0) (x.f4) (x.f5) left) left (wtServer x) := by
  unfold okServer at hx
  unfold laws_szServer.f wtServer
  obtain ⟨hx0, hx1, hx2⟩ := hx
  skip
  refine sz_eq (sz_call (w2 := (((wtDisk x.f3 : Nat) : Int) + ((wtLeaseS x.f4 : Nat) : Int) : Int)) (szTree_ev x.f1 (left) (by omega) (by omega) hx0) (fun l0 g0 e0 => ?_)) (by omega)
  refine sz_eq (sz_call (w2 := (((wtLeaseS x.f4 : Nat) : Int) : Int)) (szDisk_ev x.f3 (l0) (by omega) (by omega) hx1) (fun l1 g1 e1 => ?_)) (by omega)
  refine sz_eq (sz_call (w2 := (0 : Int)) (szLeaseS_ev x.f4 hx2.1 hx2.2 (l1) (by omega) (by omega)) (fun l2 g2 e2 => ?_)) (by omega)
  exact sz_done (by omega)
theorem toServer_ev (x : LServer) (hx : wtServer x ≤ 1048576) : Ev (fun k => laws_toServer.f k (x.f0) (x.f1.f0) (x.f1.f1) (x.f2) (x.f3.f0) (x.f4) (x.f5)) ((toServer x).f0, (toServer x).f1.f0, (toServer x).f1.f1, (toServer x).f2, (toServer x).f3.f0, (toServer x).f4, (toServer x).f5) := by
  unfold wtServer at hx
  unfold laws_toServer.f
  refine ev_bind (toTree_ev x.f1 (by omega)) ?_
  refine ev_bind (toDisk_ev x.f3 (by omega)) ?_
  refine ev_bind (toLeaseS_evw x.f4 (by omega)) ?_
  exact ev_some _
def lnServer (x : ImServer) : Prop := (lnTree x.f1) ∧ (lnDisk x.f3) ∧ (x.f4.length < 9223372036854775000 ∧ ∀ y ∈ x.f4, lnLease y)
theorem eqServer_refl (x : ImServer) (hx : lnServer x) : Ev (fun k => laws_eqServer.f k (x.f0) (x.f1.f0) (x.f1.f1) (x.f2) (x.f3.f0) (x.f4) (x.f5) (x.f0) (x.f1.f0) (x.f1.f1) (x.f2) (x.f3.f0) (x.f4) (x.f5)) true := by
  unfold lnServer at hx
  obtain ⟨h0, h1, h2⟩ := hx
  unfold laws_eqServer.f
  repeat (first | with_reducible exact ev_some _ | with_reducible refine ev_pos rfl ?_ | with_reducible refine ev_neg (by simp; done) ?_ | with_reducible refine ev_bind (eqTree_refl x.f1 h0) ?_ | with_reducible refine ev_bind (eqDisk_refl x.f3 h1) ?_ | with_reducible refine ev_bind (eqLeaseS_ev x.f4 (by have := h2.1; omega)) ?_)
def bdServer (x : ImServer) : Prop := (bdTree x.f1) ∧ (bdDisk x.f3) ∧ (x.f4.length ≤ 1048576 ∧ ∀ y ∈ x.f4, bdLease y)
theorem wtServerS_at {l : List LServer} {x : LServer} (h : x ∈ l) : 1 + wtServer x ≤ wtServerS l := by
  induction l with
  | nil => cases h
  | cons y l ih =>
    rcases List.mem_cons.1 h with rfl | h
    · simp [wtServerS]
    · have := ih h
      simp [wtServerS]
      omega
theorem bd_toServer (x : LServer) (h : wtServer x ≤ 1048576) : bdServer (toServer x) := by
  unfold wtServer at h
  exact ⟨bd_toTree x.f1 (by omega), bd_toDisk x.f3 (by omega), bd_toLeaseS x.f4 (by omega)⟩
theorem bd_toServerS (l : List LServer) (h : wtServerS l ≤ 1048576) : (l.map toServer).length ≤ 1048576 ∧ ∀ y ∈ l.map toServer, bdServer y := by
  have hl := wtServerS_len l
  refine ⟨by simp; omega, fun y hy => ?_⟩
  obtain ⟨z, hz, rfl⟩ := List.mem_map.1 hy
  have := wtServerS_at hz
  exact bd_toServer z (by omega)
theorem ln_bdServer {x : ImServer} (h : bdServer x) : lnServer x := by
  unfold bdServer at h
  obtain ⟨h1, h3, h4⟩ := h
  exact ⟨ln_bdTree h1, ln_bdDisk h3, ⟨by have := h4.1; omega, fun y hy => ln_bdLease (h4.2 y hy)⟩⟩
end Go.Proofs.Ytfgnaneajonapaa.Lw

/- Printed out of the translation by this session's pr.py over the kit's print. Lean checks it. -/
namespace Go.Proofs.Ytfgnaneajonapaa.Pr
open Go.RowKit Go.Proofs.YtfgnaneajonapaaW.PrintWords Go.Proofs.YtfgnaneajonapaaW.PrintLast Go.Proofs.YtfgnaneajonapaaW.PrintMore
attribute [local go_sem] max2_int min2_int max_two min_two max_three min_three max_four min_four
set_option linter.unusedVariables false
set_option linter.unusedSimpArgs false

/-! ### laws_szAsk: function 36 -/
def laws_szAsk.f (a0_0 : Int) (a0_1 : Int) (a0_2 : ByteArray) (a0_3 : ByteArray) (a0_4 : ByteArray) (a0_5 : Int) (a1 : Int) : Option (Int) := if (wrap64 (a1 - (a0_2.size : Int))) < 0 then (some (-1)) else (if (wrap64 ((wrap64 (a1 - (a0_2.size : Int))) - (a0_3.size : Int))) < 0 then (some (-1)) else (if (wrap64 ((wrap64 ((wrap64 (a1 - (a0_2.size : Int))) - (a0_3.size : Int))) - (a0_4.size : Int))) < 0 then (some (-1)) else (some (wrap64 ((wrap64 ((wrap64 (a1 - (a0_2.size : Int))) - (a0_3.size : Int))) - (a0_4.size : Int))))))
set_option maxHeartbeats 8000000 in
set_option maxRecDepth 100000 in
theorem laws_szAsk.calls (a0_0 : Int) (a0_1 : Int) (a0_2 : ByteArray) (a0_3 : ByteArray) (a0_4 : ByteArray) (a0_5 : Int) (a1 : Int) (r : Int) (w : World) (h : laws_szAsk.f a0_0 a0_1 a0_2 a0_3 a0_4 a0_5 a1 = some r) :
    Calls Try.prog 36 #[.agg #[.int .i64 a0_0, .int .i64 a0_1, .string a0_2, .string a0_3, .string a0_4, .int .i64 a0_5], .int .i64 a1] w fun e w' => e = .returned (.int .i64 r) ∧ Below w.heap.size w w' := by
  have hu67 := Try.underlying67
  have HB := Aside0.mk (Below.refl w.heap.size w)
  have H : (if (wrap64 (a1 - (a0_2.size : Int))) < 0 then (some (-1)) else (if (wrap64 ((wrap64 (a1 - (a0_2.size : Int))) - (a0_3.size : Int))) < 0 then (some (-1)) else (if (wrap64 ((wrap64 ((wrap64 (a1 - (a0_2.size : Int))) - (a0_3.size : Int))) - (a0_4.size : Int))) < 0 then (some (-1)) else (some (wrap64 ((wrap64 ((wrap64 (a1 - (a0_2.size : Int))) - (a0_3.size : Int))) - (a0_4.size : Int))))))) = some r := h
  clear h
  by_cases c3 : (wrap64 (a1 - (a0_2.size : Int))) < 0
  · rw [if_pos c3] at H
    have c3b0 : decide ((wrap64 (a1 - (a0_2.size : Int))) < 0) = true := decide_eq_true c3
    clear c3
    obtain rfl := Option.some.inj H
    go_enter Try.func36, Try.ntmps36
    go_wp2_with (first | ((with_reducible refine gate_dst (N := 2) rfl ?_); refine BX 2 #[.int .i64 a0_0, .int .i64 a0_1, .string a0_2, .string a0_3, .string a0_4, .int .i64 a0_5] 67 ?_; intro gb465 hg w4 hbox hb; have BK465 := Aside0.mk (hbox); have GW465 : Aside0 (w.heap.size ≤ gb465) := WG hg (BB HB.out); have GE465 := GW465; replace HB := Aside0.mk (below_step (BB HB.out) hb); clear hb hbox hg; have hcz5 := blk_cell BK465.out; have hfz5 := blk_frozen BK465.out))
    go_ret
    exact ⟨ER, (BB1 HB.out GE465.out)⟩
  · rw [if_neg c3] at H
    have c3b0 : decide ((wrap64 (a1 - (a0_2.size : Int))) < 0) = false := decide_eq_false c3
    clear c3
    by_cases c6 : (wrap64 ((wrap64 (a1 - (a0_2.size : Int))) - (a0_3.size : Int))) < 0
    · rw [if_pos c6] at H
      have c6b0 : decide ((wrap64 ((wrap64 (a1 - (a0_2.size : Int))) - (a0_3.size : Int))) < 0) = true := decide_eq_true c6
      clear c6
      obtain rfl := Option.some.inj H
      go_enter Try.func36, Try.ntmps36
      go_wp2_with (first | ((with_reducible refine gate_dst (N := 2) rfl ?_); refine BX 2 #[.int .i64 a0_0, .int .i64 a0_1, .string a0_2, .string a0_3, .string a0_4, .int .i64 a0_5] 67 ?_; intro gb465 hg w7 hbox hb; have BK465 := Aside0.mk (hbox); have GW465 : Aside0 (w.heap.size ≤ gb465) := WG hg (BB HB.out); have GE465 := GW465; replace HB := Aside0.mk (below_step (BB HB.out) hb); clear hb hbox hg; have hcz8 := blk_cell BK465.out; have hfz8 := blk_frozen BK465.out))
      go_ret
      exact ⟨ER, (BB1 HB.out GE465.out)⟩
    · rw [if_neg c6] at H
      have c6b0 : decide ((wrap64 ((wrap64 (a1 - (a0_2.size : Int))) - (a0_3.size : Int))) < 0) = false := decide_eq_false c6
      clear c6
      by_cases c9 : (wrap64 ((wrap64 ((wrap64 (a1 - (a0_2.size : Int))) - (a0_3.size : Int))) - (a0_4.size : Int))) < 0
      · rw [if_pos c9] at H
        have c9b0 : decide ((wrap64 ((wrap64 ((wrap64 (a1 - (a0_2.size : Int))) - (a0_3.size : Int))) - (a0_4.size : Int))) < 0) = true := decide_eq_true c9
        clear c9
        obtain rfl := Option.some.inj H
        go_enter Try.func36, Try.ntmps36
        go_wp2_with (first | ((with_reducible refine gate_dst (N := 2) rfl ?_); refine BX 2 #[.int .i64 a0_0, .int .i64 a0_1, .string a0_2, .string a0_3, .string a0_4, .int .i64 a0_5] 67 ?_; intro gb465 hg w10 hbox hb; have BK465 := Aside0.mk (hbox); have GW465 : Aside0 (w.heap.size ≤ gb465) := WG hg (BB HB.out); have GE465 := GW465; replace HB := Aside0.mk (below_step (BB HB.out) hb); clear hb hbox hg; have hcz11 := blk_cell BK465.out; have hfz11 := blk_frozen BK465.out))
        go_ret
        exact ⟨ER, (BB1 HB.out GE465.out)⟩
      · rw [if_neg c9] at H
        have c9b0 : decide ((wrap64 ((wrap64 ((wrap64 (a1 - (a0_2.size : Int))) - (a0_3.size : Int))) - (a0_4.size : Int))) < 0) = false := decide_eq_false c9
        clear c9
        obtain rfl := Option.some.inj H
        go_enter Try.func36, Try.ntmps36
        go_wp2_with (first | ((with_reducible refine gate_dst (N := 2) rfl ?_); refine BX 2 #[.int .i64 a0_0, .int .i64 a0_1, .string a0_2, .string a0_3, .string a0_4, .int .i64 a0_5] 67 ?_; intro gb465 hg w12 hbox hb; have BK465 := Aside0.mk (hbox); have GW465 : Aside0 (w.heap.size ≤ gb465) := WG hg (BB HB.out); have GE465 := GW465; replace HB := Aside0.mk (below_step (BB HB.out) hb); clear hb hbox hg; have hcz13 := blk_cell BK465.out; have hfz13 := blk_frozen BK465.out))
        go_ret
        exact ⟨ER, (BB1 HB.out GE465.out)⟩

end Go.Proofs.Ytfgnaneajonapaa.Pr

/- Printed out of the translation by this session's pr.py over the kit's print. Lean checks it. -/
namespace Go.Proofs.Ytfgnaneajonapaa.Pr
open Go.RowKit Go.Proofs.YtfgnaneajonapaaW.PrintWords Go.Proofs.YtfgnaneajonapaaW.PrintLast Go.Proofs.YtfgnaneajonapaaW.PrintMore
attribute [local go_sem] max2_int min2_int max_two min_two max_three min_three max_four min_four
set_option linter.unusedVariables false
set_option linter.unusedSimpArgs false

/-! ### laws_toAsk: function 39 -/
def laws_toAsk.f (a0_0 : Int) (a0_1 : Int) (a0_2 : ByteArray) (a0_3 : ByteArray) (a0_4 : ByteArray) (a0_5 : Int) : Option (Int × Int × ByteArray × ByteArray × ByteArray × Int) := some (a0_0, a0_1, a0_2, a0_3, a0_4, a0_5)
set_option maxHeartbeats 8000000 in
set_option maxRecDepth 100000 in
theorem laws_toAsk.calls (a0_0 : Int) (a0_1 : Int) (a0_2 : ByteArray) (a0_3 : ByteArray) (a0_4 : ByteArray) (a0_5 : Int) (r1 : Int) (r2 : Int) (r3 : ByteArray) (r4 : ByteArray) (r5 : ByteArray) (r6 : Int) (w : World) (h : laws_toAsk.f a0_0 a0_1 a0_2 a0_3 a0_4 a0_5 = some (r1, r2, r3, r4, r5, r6)) :
    Calls Try.prog 39 #[.agg #[.int .i64 a0_0, .int .i64 a0_1, .string a0_2, .string a0_3, .string a0_4, .int .i64 a0_5]] w fun e w' => e = .returned (.agg #[.int .i64 r1, .int .i64 r2, .string r3, .string r4, .string r5, .int .i64 r6]) ∧ Below w.heap.size w w' := by
  have hu67 := Try.underlying67
  have hu72 := Try.underlying72
  have HB := Aside0.mk (Below.refl w.heap.size w)
  have H : (some (a0_0, a0_1, a0_2, a0_3, a0_4, a0_5)) = some (r1, r2, r3, r4, r5, r6) := h
  clear h
  simp only [Option.some.injEq, Prod.mk.injEq] at H
  obtain ⟨rfl, rfl, rfl, rfl, rfl, rfl⟩ := H
  go_enter Try.func39, Try.ntmps39
  go_wp2_with (first | ((with_reducible refine gate_dst (N := 1) rfl ?_); refine BX 1 #[.int .i64 a0_0, .int .i64 a0_1, .string a0_2, .string a0_3, .string a0_4, .int .i64 a0_5] 67 ?_; intro gb553 hg w2 hbox hb; have BK553 := Aside0.mk (hbox); have GW553 : Aside0 (w.heap.size ≤ gb553) := WG hg (BB HB.out); have GE553 := GW553; replace HB := Aside0.mk (below_step (BB HB.out) hb); clear hb hbox hg) | ((with_reducible refine gate_dst (N := 2) rfl ?_); refine BX 2 #[.int .i64 0, .int .i64 0, .string (⟨#[]⟩ : ByteArray), .string (⟨#[]⟩ : ByteArray), .string (⟨#[]⟩ : ByteArray), .int .i64 0] 72 ?_; intro gb554 hg w3 hbox hb; have BK554 := Aside0.mk (hbox); have GW554 : Aside0 (w.heap.size ≤ gb554) := WG hg (BB1 HB.out GE553.out); have GE554 := GW554; have NB553_554 := NL BK553.out hg; have NB554_553 := NG BK553.out hg; replace BK553 := Aside0.mk (KB BK553.out hb); replace HB := Aside0.mk (below_step (BB1 HB.out GE553.out) hb); clear hb hbox hg) | ((with_reducible refine gate_dst (N := 3) rfl ?_); refine BX 3 #[.int .i64 0, .int .i64 0, .string (⟨#[]⟩ : ByteArray), .string (⟨#[]⟩ : ByteArray), .string (⟨#[]⟩ : ByteArray), .int .i64 0] 72 ?_; intro gb555 hg w4 hbox hb; have BK555 := Aside0.mk (hbox); have GW555 : Aside0 (w.heap.size ≤ gb555) := WG hg (BB2 HB.out GE553.out GE554.out); have GE555 := GW555; have NB553_555 := NL BK553.out hg; have NB555_553 := NG BK553.out hg; have NB554_555 := NL BK554.out hg; have NB555_554 := NG BK554.out hg; replace BK553 := Aside0.mk (KB BK553.out hb); replace BK554 := Aside0.mk (KB BK554.out hb); replace HB := Aside0.mk (below_step (BB2 HB.out GE553.out GE554.out) hb); clear hb hbox hg; have hnb5 := NB553_554.out; have hnc5 := NB554_553.out; have hnb6 := NB553_555.out; have hnc6 := NB555_553.out; have hcz7 := blk_cell BK553.out; have hfz7 := blk_frozen BK553.out; have hnb8 := NB555_554.out; have hnc8 := NB554_555.out; have hcz9 := blk_cell BK555.out; have hfz9 := blk_frozen BK555.out; have hcz10 := blk_cell BK554.out; have hfz10 := blk_frozen BK554.out))
  refine bodyPost_ret (results_cell_row rfl _ _ gb554 72 #[.int .i64 a0_0, .int .i64 a0_1, .string a0_2, .string a0_3, .string a0_4, .int .i64 a0_5] (0, 0) _ rfl (by (with_reducible repeat (first | refine blk_drewN ?_ _ | refine blk_drew ?_ | refine blk_alloc ?_ _)); refine blk_put (cs := #[.int .i64 a0_0, .int .i64 a0_1, .string a0_2, .string a0_3, .string a0_4, .int .i64 0]) ?_ 5 _ rfl; (with_reducible repeat (first | refine blk_drewN ?_ _ | refine blk_drew ?_ | refine blk_alloc ?_ _)); refine blk_put (cs := #[.int .i64 a0_0, .int .i64 a0_1, .string a0_2, .string a0_3, .string (⟨#[]⟩ : ByteArray), .int .i64 0]) ?_ 4 _ rfl; (with_reducible repeat (first | refine blk_drewN ?_ _ | refine blk_drew ?_ | refine blk_alloc ?_ _)); refine blk_put (cs := #[.int .i64 a0_0, .int .i64 a0_1, .string a0_2, .string (⟨#[]⟩ : ByteArray), .string (⟨#[]⟩ : ByteArray), .int .i64 0]) ?_ 3 _ rfl; (with_reducible repeat (first | refine blk_drewN ?_ _ | refine blk_drew ?_ | refine blk_alloc ?_ _)); refine blk_put (cs := #[.int .i64 a0_0, .int .i64 a0_1, .string (⟨#[]⟩ : ByteArray), .string (⟨#[]⟩ : ByteArray), .string (⟨#[]⟩ : ByteArray), .int .i64 0]) ?_ 2 _ rfl; (with_reducible repeat (first | refine blk_drewN ?_ _ | refine blk_drew ?_ | refine blk_alloc ?_ _)); refine blk_put (cs := #[.int .i64 a0_0, .int .i64 0, .string (⟨#[]⟩ : ByteArray), .string (⟨#[]⟩ : ByteArray), .string (⟨#[]⟩ : ByteArray), .int .i64 0]) ?_ 1 _ rfl; (with_reducible repeat (first | refine blk_drewN ?_ _ | refine blk_drew ?_ | refine blk_alloc ?_ _)); refine blk_put (cs := #[.int .i64 0, .int .i64 0, .string (⟨#[]⟩ : ByteArray), .string (⟨#[]⟩ : ByteArray), .string (⟨#[]⟩ : ByteArray), .int .i64 0]) ?_ 0 _ rfl; (with_reducible repeat (first | refine blk_drewN ?_ _ | refine blk_drew ?_ | refine blk_alloc ?_ _)); refine blk_far ?_ NB554_555.out _; (with_reducible repeat (first | refine blk_drewN ?_ _ | refine blk_drew ?_ | refine blk_alloc ?_ _)); refine blk_far ?_ NB554_555.out _; (with_reducible repeat (first | refine blk_drewN ?_ _ | refine blk_drew ?_ | refine blk_alloc ?_ _)); refine blk_far ?_ NB554_555.out _; (with_reducible repeat (first | refine blk_drewN ?_ _ | refine blk_drew ?_ | refine blk_alloc ?_ _)); refine blk_far ?_ NB554_555.out _; (with_reducible repeat (first | refine blk_drewN ?_ _ | refine blk_drew ?_ | refine blk_alloc ?_ _)); refine blk_far ?_ NB554_555.out _; (with_reducible repeat (first | refine blk_drewN ?_ _ | refine blk_drew ?_ | refine blk_alloc ?_ _)); refine blk_far ?_ NB554_555.out _; (with_reducible repeat (first | refine blk_drewN ?_ _ | refine blk_drew ?_ | refine blk_alloc ?_ _)); exact BK554.out) Try.underlying72 rfl (by kernel_rfl)) rfl ?_
  exact ⟨ER, (BB3 HB.out GE553.out GE554.out GE555.out)⟩

end Go.Proofs.Ytfgnaneajonapaa.Pr

/- Generated by plumb.py: the laws' helpers of a type, told as plain functions. -/
namespace Go.Proofs.Ytfgnaneajonapaa.Lw
open Go.RowKit Go.Proofs.YtfgnaneajonapaaW.PrintWords Go.Proofs.Ytfgnaneajonapaa.Pr Go.Proofs.Ytfgnaneajonapaa.Evs
set_option linter.unusedVariables false
abbrev LAsk := S67
abbrev ImAsk := S72
def lnAsk (x : ImAsk) : Prop := True
def wtAsk (x : LAsk) : Nat := x.f2.size + x.f3.size + x.f4.size
def wtAskS : List LAsk → Nat
  | [] => 0
  | x :: s => 1 + wtAsk x + wtAskS s
def okAsk (x : LAsk) : Prop := x.f2.size ≤ maxLen ∧ x.f3.size ≤ maxLen ∧ x.f4.size ≤ maxLen
theorem wtAskS_len (l : List LAsk) : l.length ≤ wtAskS l := by
  induction l with
  | nil => simp
  | cons x s ih => simp [wtAskS]; omega
def toAsk (x : LAsk) : ImAsk := ⟨x.f0, x.f1, x.f2, x.f3, x.f4, x.f5⟩
theorem rd67 (p s : List S67) (x : S67) : rd_T67 (p ++ x :: s) (p.length : Int) = x := by unfold rd_T67; exact getD_mid' p s x _ _ rfl
theorem rd72 (p s : List S72) (x : S72) : rd_T72 (p ++ x :: s) (p.length : Int) = x := by unfold rd_T72; exact getD_mid' p s x _ _ rfl
theorem szAsk_ev (x : LAsk) (left : Int) (h0 : 0 ≤ left) (h1 : left ≤ 1048576) (hx : okAsk x) : ∃ r, laws_szAsk.f (x.f0) (x.f1) (x.f2) (x.f3) (x.f4) (x.f5) left = some r ∧ (r = -1 ∨ (0 ≤ r ∧ r + wtAsk x = left)) := by
  unfold okAsk maxLen at hx
  unfold laws_szAsk.f wtAsk
  have e0 : wrap64 (left - (x.f2.size : Int)) = left - (x.f2.size : Int) := wrap_in (by omega) (by omega)
  simp only [e0]
  by_cases c0 : left - (x.f2.size : Int) < 0
  · exact ⟨-1, by simp only [if_pos c0], .inl rfl⟩
  have e1 : wrap64 (left - (x.f2.size : Int) - (x.f3.size : Int)) = left - (x.f2.size : Int) - (x.f3.size : Int) := wrap_in (by omega) (by omega)
  simp only [e0, e1]
  by_cases c1 : left - (x.f2.size : Int) - (x.f3.size : Int) < 0
  · exact ⟨-1, by simp only [if_pos c1, if_neg c0], .inl rfl⟩
  have e2 : wrap64 (left - (x.f2.size : Int) - (x.f3.size : Int) - (x.f4.size : Int)) = left - (x.f2.size : Int) - (x.f3.size : Int) - (x.f4.size : Int) := wrap_in (by omega) (by omega)
  simp only [e0, e1, e2]
  by_cases c2 : left - (x.f2.size : Int) - (x.f3.size : Int) - (x.f4.size : Int) < 0
  · exact ⟨-1, by simp only [if_pos c2, if_neg c0, if_neg c1], .inl rfl⟩
  exact ⟨left - (x.f2.size : Int) - (x.f3.size : Int) - (x.f4.size : Int), by simp only [if_neg c0, if_neg c1, if_neg c2], .inr ⟨by omega, by omega⟩⟩
theorem toAsk_ev (x : LAsk) : Ev (fun k => laws_toAsk.f (x.f0) (x.f1) (x.f2) (x.f3) (x.f4) (x.f5)) ((toAsk x).f0, (toAsk x).f1, (toAsk x).f2, (toAsk x).f3, (toAsk x).f4, (toAsk x).f5) := ev_const rfl
def bdAsk (x : ImAsk) : Prop := (x.f2.size ≤ 1048576) ∧ (x.f3.size ≤ 1048576) ∧ (x.f4.size ≤ 1048576)
theorem wtAskS_at {l : List LAsk} {x : LAsk} (h : x ∈ l) : 1 + wtAsk x ≤ wtAskS l := by
  induction l with
  | nil => cases h
  | cons y l ih =>
    rcases List.mem_cons.1 h with rfl | h
    · simp [wtAskS]
    · have := ih h
      simp [wtAskS]
      omega
theorem bd_toAsk (x : LAsk) (h : wtAsk x ≤ 1048576) : bdAsk (toAsk x) := by
  unfold wtAsk at h
  exact ⟨(show x.f2.size ≤ 1048576 by omega), (show x.f3.size ≤ 1048576 by omega), (show x.f4.size ≤ 1048576 by omega)⟩
theorem bd_toAskS (l : List LAsk) (h : wtAskS l ≤ 1048576) : (l.map toAsk).length ≤ 1048576 ∧ ∀ y ∈ l.map toAsk, bdAsk y := by
  have hl := wtAskS_len l
  refine ⟨by simp; omega, fun y hy => ?_⟩
  obtain ⟨z, hz, rfl⟩ := List.mem_map.1 hy
  have := wtAskS_at hz
  exact bd_toAsk z (by omega)
theorem ln_bdAsk {x : ImAsk} (h : bdAsk x) : lnAsk x := trivial
end Go.Proofs.Ytfgnaneajonapaa.Lw

/- A contract of my own: Idx. -/
namespace Go.Proofs.Ytfgnaneajonapaa.Pr
open Go.RowKit Go.Proofs.YtfgnaneajonapaaW.PrintWords Go.Proofs.YtfgnaneajonapaaW.PrintLast Go.Proofs.YtfgnaneajonapaaW.PrintMore
set_option linter.unusedVariables false
set_option linter.unusedSimpArgs false
/-- The place of the first element that meets p, from place j on; -1 without one. -/
def idxF {α : Type} (p : α → Bool) : List α → Nat → Int
  | [], _ => -1
  | x :: s, j => if p x = true then (j : Int) else idxF p s (j + 1)
theorem idxF_drop_hit {α : Type} (p : α → Bool) (xs : List α) (d : α) (j : Nat) (h : j < xs.length) (hp : p (xs.getD j d) = true) : idxF p (xs.drop j) j = (j : Int) := by
  rw [List.drop_eq_getElem_cons h, idxF, if_pos]
  simpa [List.getD, List.getElem?_eq_getElem h] using hp
theorem idxF_drop_miss {α : Type} (p : α → Bool) (xs : List α) (d : α) (j : Nat) (h : j < xs.length) (hp : p (xs.getD j d) = false) : idxF p (xs.drop j) j = idxF p (xs.drop (j + 1)) (j + 1) := by
  rw [List.drop_eq_getElem_cons h, idxF, if_neg]
  simpa [List.getD, List.getElem?_eq_getElem h] using hp
theorem idxF_any {α : Type} (p : α → Bool) (xs : List α) : ∀ j : Nat, decide (0 ≤ idxF p xs j) = xs.any p := by
  induction xs with
  | nil => intro j; simp [idxF]
  | cons x s ih =>
    intro j
    by_cases c : p x = true
    · simp [idxF, c]
    · simp only [idxF, if_neg c, ih, List.any_cons]
      simp [c]
end Go.Proofs.Ytfgnaneajonapaa.Pr

/- A contract of my own: IxLease. -/
namespace Go.Proofs.Ytfgnaneajonapaa.Pr
open Go.RowKit Go.Proofs.YtfgnaneajonapaaW.PrintWords Go.Proofs.YtfgnaneajonapaaW.PrintLast Go.Proofs.YtfgnaneajonapaaW.PrintMore
set_option linter.unusedVariables false
set_option linter.unusedSimpArgs false
set_option maxHeartbeats 2000000 in
set_option maxRecDepth 100000 in
theorem ixLease (g : Nat) (lb : Array Value) (eg : ∀ args w, (callFunc g args).run Try.prog w = .ok (.enter g args) w) (p : S120 → Bool) (A : Option Addr) (c : Nat) (xs : List S120) (w : World)
    (hp : ∀ (W : World) (x : S120), x ∈ xs → Below w.heap.size w W → Calls Try.prog g (#[.agg #[.string x.f0, .int .i64 x.f1, .int .i64 x.f2]] ++ lb) W fun e w' => e = .returned (.bool (p x)) ∧ Below w.heap.size w w')
    (hr : Kd.C k120 w A xs.length xs) :
    Calls Try.prog 127 #[.slice A xs.length c, .func (.func g) #[] lb] w fun e w' => e = .returned (.int .i64 (idxF p xs 0)) ∧ Below w.heap.size w w' := by
  have hu120 := Try.underlying120
  have HR := Aside0.mk hr
  have HL := Aside0.mk hr.2.1
  have HP := Aside0.mk hp
  have HG := Aside0.mk (show idxF p (xs.drop 0) 0 = idxF p xs 0 from rfl)
  clear hr hp
  generalize hre : idxF p xs 0 = res at HG
  clear hre
  go_enter Try.func127, Try.ntmps127
  go_wp2
  go_loopg [5, 8] xs.length (fun gg _ s8 wr => ∃ kk : Nat, kk ≤ xs.length ∧ xs.length - kk ≤ gg ∧ s8 = .int .i64 kk ∧ Aside0 (Below w.heap.size w wr) ∧ Aside0 (idxF p (xs.drop kk) kk = res))
  case atStart => exact ⟨0, Nat.zero_le _, by omega, rfl, ⟨Below.refl _ w⟩, HG⟩
  case round =>
    obtain ⟨kk, hkk, hg, rfl, BW, A1⟩ := hrel
    have hlen := HL.out
    by_cases hlt : kk < xs.length
    · have hltz : (kk : Int) < (xs.length : Int) := by omega
      obtain ⟨ad, e1, hx0, hx1, hx2⟩ := at_T120 HR.out (kk : Int) (by omega) hltz
      have hmem : rd_T120 xs (kk : Int) ∈ xs := by
        have e : rd_T120 xs (kk : Int) = xs[kk] := by unfold rd_T120; simp [List.getD, List.getElem?_eq_getElem hlt]
        rw [e]
        exact List.getElem_mem hlt
      have hcall := HP.out wr (rd_T120 xs (kk : Int)) hmem BW.out
      clear hmem
      have hy : rd_T120 xs (kk : Int) = xs.getD kk z120 := rfl
      have hmiss := Aside0.mk (idxF_drop_miss p xs z120 kk hlt)
      have hhit := Aside0.mk (idxF_drop_hit p xs z120 kk hlt)
      replace hx0 := (BW.out.cell (World.block_lt_of_cell? w _ hx0)).trans hx0
      replace hx1 := (BW.out.cell (World.block_lt_of_cell? w _ hx1)).trans hx1
      replace hx2 := (BW.out.cell (World.block_lt_of_cell? w _ hx2)).trans hx2
      simp only [Int.toNat_natCast] at hx0 hx1 hx2
      rw [← hy] at hmiss hhit
      clear hy
      generalize rd_T120 xs (kk : Int) = y at hx0 hx1 hx2 hcall hmiss hhit
      subst e1
      cases hq : p y with
      | true =>
        rw [hq] at hcall
        have A2 := Aside0.mk (((hhit.out hq).symm.trans A1.out).symm)
        clear hq hmiss hhit A1
        go_wp2_with (go_at_fn g; refine hcall.mono ?_; rintro e w' ⟨rfl, hb'⟩)
        go_ret
        exact ⟨by rw [A2.out]; try rfl, hb'⟩
      | false =>
        rw [hq] at hcall
        have A2 := Aside0.mk ((hmiss.out hq).symm.trans A1.out)
        clear hq hmiss hhit A1
        go_wp2_with (go_at_fn g; refine hcall.mono ?_; rintro e w' ⟨rfl, hb'⟩)
        go_roundg (xs.length - (kk + 1))
        case measure => omega
        case rel => exact ⟨kk + 1, by omega, by omega, by go_num, ⟨hb'⟩, A2⟩
    · have hltz : ¬ (kk : Int) < (xs.length : Int) := by omega
      have hd1 : decide ((kk : Int) < (xs.length : Int)) = false := decide_eq_false hltz
      have hd2 : decide (kk < xs.length) = false := decide_eq_false hlt
      have A2 := Aside0.mk (show res = -1 by rw [← A1.out, List.drop_eq_nil_of_le (by omega)]; rfl)
      clear A1
      go_wp2
      go_ret
      exact ⟨by rw [A2.out]; try rfl, BW.out⟩
set_option maxHeartbeats 2000000 in
set_option maxRecDepth 100000 in
theorem cfLease (g : Nat) (lb : Array Value) (eg : ∀ args w, (callFunc g args).run Try.prog w = .ok (.enter g args) w) (p : S120 → Bool) (A : Option Addr) (c : Nat) (xs : List S120) (w : World)
    (hp : ∀ (W : World) (x : S120), x ∈ xs → Below w.heap.size w W → Calls Try.prog g (#[.agg #[.string x.f0, .int .i64 x.f1, .int .i64 x.f2]] ++ lb) W fun e w' => e = .returned (.bool (p x)) ∧ Below w.heap.size w w')
    (hr : Kd.C k120 w A xs.length xs) :
    Calls Try.prog 84 #[.slice A xs.length c, .func (.func g) #[] lb] w fun e w' => e = .returned (.bool (xs.any p)) ∧ Below w.heap.size w w' := by
  rw [← idxF_any p xs 0]
  generalize hq : idxF p xs 0 = q
  have HQ := Aside0.mk hq
  have HI := Aside0.mk (ixLease g lb eg p A c xs w hp hr)
  clear hp hr hq
  go_enter Try.func84, Try.ntmps84
  go_wp2_with fail
  refine HI.out.mono ?_
  rintro e w' ⟨rfl, hb⟩
  rw [HQ.out]
  go_wp2
  go_ret
  exact ⟨rfl, hb⟩
end Go.Proofs.Ytfgnaneajonapaa.Pr

/- Printed out of the translation by this session's pr.py over the kit's print. Lean checks it. -/
namespace Go.Proofs.Ytfgnaneajonapaa.Pr
open Go.RowKit Go.Proofs.YtfgnaneajonapaaW.PrintWords Go.Proofs.YtfgnaneajonapaaW.PrintLast Go.Proofs.YtfgnaneajonapaaW.PrintMore
attribute [local go_sem] max2_int min2_int max_two min_two max_three min_three max_four min_four
set_option linter.unusedVariables false
set_option linter.unusedSimpArgs false

/-! ### stringslite_HasPrefix: function 162 -/
def stringslite_HasPrefix.f (a0 : ByteArray) (a1 : ByteArray) : Option (Bool) := if (a0.size : Int) ≥ (a1.size : Int) then (if 0 ≤ (a1.size : Int) then (if (a1.size : Int) ≤ (a0.size : Int) then (some ((a0.extract 0 ((a1.size : Int) : Int).toNat).toList == a1.toList)) else (none)) else (none)) else (some false)
set_option maxHeartbeats 8000000 in
set_option maxRecDepth 100000 in
theorem stringslite_HasPrefix.calls (a0 : ByteArray) (a1 : ByteArray) (r : Bool) (w : World) (h : stringslite_HasPrefix.f a0 a1 = some r) :
    Calls Try.prog 162 #[.string a0, .string a1] w fun e w' => e = .returned (.bool r) ∧ Drawn0 w w' := by
  have H : (if (a0.size : Int) ≥ (a1.size : Int) then (if 0 ≤ (a1.size : Int) then (if (a1.size : Int) ≤ (a0.size : Int) then (some ((a0.extract 0 ((a1.size : Int) : Int).toNat).toList == a1.toList)) else (none)) else (none)) else (some false)) = some r := h
  clear h
  by_cases c3 : (a0.size : Int) ≥ (a1.size : Int)
  · rw [if_pos c3] at H
    have c3b0 : decide ((a1.size : Int) ≤ (a0.size : Int)) = true := decide_eq_true c3
    have c3b1 : decide (a1.size ≤ a0.size) = true := decide_eq_true (Int.ofNat_le.mp c3)
    clear c3
    by_cases c4 : 0 ≤ (a1.size : Int)
    · rw [if_pos c4] at H
      have c4b0 := eq_true c4
      have c4b1 : decide (0 ≤ (a1.size : Int)) = true := decide_eq_true c4
      clear c4
      by_cases c5 : (a1.size : Int) ≤ (a0.size : Int)
      · rw [if_pos c5] at H
        have c5b0 := eq_true c5
        have c5b1 : decide ((a1.size : Int) ≤ (a0.size : Int)) = true := decide_eq_true c5
        clear c5
        obtain rfl := Option.some.inj H
        go_enter Try.func162, Try.ntmps162
        go_wp2
        go_ret
        exact ⟨FR, by repeat (first | exact Drawn0.refl _ | apply Drawn0.step)⟩
      · rw [if_neg c5] at H
        exact absurd H (by simp)
    · rw [if_neg c4] at H
      exact absurd H (by simp)
  · rw [if_neg c3] at H
    have c3b0 : decide ((a1.size : Int) ≤ (a0.size : Int)) = false := decide_eq_false c3
    have c3b1 : decide (a1.size ≤ a0.size) = false := decide_eq_false (fun h => c3 (Int.ofNat_le.mpr h))
    clear c3
    obtain rfl := Option.some.inj H
    go_enter Try.func162, Try.ntmps162
    go_wp2
    go_ret
    exact ⟨FR, by repeat (first | exact Drawn0.refl _ | apply Drawn0.step)⟩

end Go.Proofs.Ytfgnaneajonapaa.Pr

/- Printed out of the translation by this session's pr.py over the kit's print. Lean checks it. -/
namespace Go.Proofs.Ytfgnaneajonapaa.Pr
open Go.RowKit Go.Proofs.YtfgnaneajonapaaW.PrintWords Go.Proofs.YtfgnaneajonapaaW.PrintLast Go.Proofs.YtfgnaneajonapaaW.PrintMore
attribute [local go_sem] max2_int min2_int max_two min_two max_three min_three max_four min_four
set_option linter.unusedVariables false
set_option linter.unusedSimpArgs false

/-! ### strings_HasPrefix: function 128 -/
def strings_HasPrefix.f (a0 : ByteArray) (a1 : ByteArray) : Option (Bool) := (stringslite_HasPrefix.f a0 a1).bind fun t1214 => (some t1214)
set_option maxHeartbeats 8000000 in
set_option maxRecDepth 100000 in
theorem strings_HasPrefix.calls (a0 : ByteArray) (a1 : ByteArray) (r : Bool) (w : World) (h : strings_HasPrefix.f a0 a1 = some r) :
    Calls Try.prog 128 #[.string a0, .string a1] w fun e w' => e = .returned (.bool r) ∧ Drawn0 w w' := by
  have H : ((stringslite_HasPrefix.f a0 a1).bind fun t1214 => (some t1214)) = some r := h
  clear h
  replace H := Option.bind_eq_some_iff.mp H
  obtain ⟨t1214, A30, H⟩ := H
  replace H : (some t1214) = some r := H
  have A3 := Aside0.mk A30
  clear A30
  obtain rfl := Option.some.inj H
  go_enter Try.func128, Try.ntmps128
  go_wp2_with (first | ((with_reducible refine gate_callee (f := 162) rfl ?_); refine GL (some 7) rfl rfl Try.func162 #[.string a0, .string a1] rfl ?_; (with_reducible refine (stringslite_HasPrefix.calls a0 a1 t1214 _ A3.out).mono ?_); rintro e w' ⟨rfl, ⟨nd, rfl⟩⟩; refine ⟨_, rfl, ?_⟩))
  go_ret
  exact ⟨FR, by repeat (first | exact Drawn0.refl _ | apply Drawn0.step)⟩

end Go.Proofs.Ytfgnaneajonapaa.Pr

/- Printed out of the translation by this session's pr.py over the kit's print. Lean checks it. -/
namespace Go.Proofs.Ytfgnaneajonapaa.Pr
open Go.RowKit Go.Proofs.YtfgnaneajonapaaW.PrintWords Go.Proofs.YtfgnaneajonapaaW.PrintLast Go.Proofs.YtfgnaneajonapaaW.PrintMore
attribute [local go_sem] max2_int min2_int max_two min_two max_three min_three max_four min_four
set_option linter.unusedVariables false
set_option linter.unusedSimpArgs false

/-! ### impl_underPath: function 86 -/
def impl_underPath.f (a0 : ByteArray) (a1 : ByteArray) : Option (Bool) := if a0.toList = a1.toList then (some true) else (if a1.size + 1 ≤ 9223372036854775807 then ((strings_HasPrefix.f a0 (a1 ++ (⟨#[47]⟩ : ByteArray))).bind fun t1215 => (some t1215)) else (none))
set_option maxHeartbeats 8000000 in
set_option maxRecDepth 100000 in
theorem impl_underPath.calls (a0 : ByteArray) (a1 : ByteArray) (r : Bool) (w : World) (h : impl_underPath.f a0 a1 = some r) :
    Calls Try.prog 86 #[.string a0, .string a1] w fun e w' => e = .returned (.bool r) ∧ Drawn0 w w' := by
  have H : (if a0.toList = a1.toList then (some true) else (if a1.size + 1 ≤ 9223372036854775807 then ((strings_HasPrefix.f a0 (a1 ++ (⟨#[47]⟩ : ByteArray))).bind fun t1215 => (some t1215)) else (none))) = some r := h
  clear h
  by_cases c3 : a0.toList = a1.toList
  · rw [if_pos c3] at H
    have c3b0 : (a0.toList == a1.toList) = true := beq_iff_eq.mpr c3
    have c3b1 : (a0.toList != a1.toList) = false := bne_eq_false_iff_eq.mpr c3
    clear c3
    obtain rfl := Option.some.inj H
    go_enter Try.func86, Try.ntmps86
    go_wp2
    go_ret
    exact ⟨FR, by repeat (first | exact Drawn0.refl _ | apply Drawn0.step)⟩
  · rw [if_neg c3] at H
    have c3b0 : (a0.toList == a1.toList) = false := beq_eq_false_iff_ne.mpr c3
    have c3b1 : (a0.toList != a1.toList) = true := bne_iff_ne.mpr c3
    by_cases c4 : a1.size + 1 ≤ 9223372036854775807
    · rw [if_pos c4] at H
      have c4b0 := eq_true c4
      have c4b1 : decide (a1.size + 1 ≤ 9223372036854775807) = true := decide_eq_true c4
      try have c4b2 : (9223372036854775807 < a1.size + 1) = False := eq_false (Nat.not_lt.2 c4)
      replace H := Option.bind_eq_some_iff.mp H
      obtain ⟨t1215, A50, H⟩ := H
      replace H : (some t1215) = some r := H
      have A5 := Aside0.mk A50
      clear A50
      obtain rfl := Option.some.inj H
      go_enter Try.func86, Try.ntmps86
      go_wp2_with (first | (go_at_call 128; (with_reducible refine (strings_HasPrefix.calls a0 (a1 ++ (⟨#[47]⟩ : ByteArray)) t1215 _ A5.out).mono ?_); rintro e w' ⟨rfl, ⟨nd, rfl⟩⟩))
      go_ret
      exact ⟨FR, by repeat (first | exact Drawn0.refl _ | apply Drawn0.step)⟩
    · rw [if_neg c4] at H
      exact absurd H (by simp)

end Go.Proofs.Ytfgnaneajonapaa.Pr

/- Printed out of the translation by this session's pr.py over the kit's print. Lean checks it. -/
namespace Go.Proofs.Ytfgnaneajonapaa.Pr
open Go.RowKit Go.Proofs.YtfgnaneajonapaaW.PrintWords Go.Proofs.YtfgnaneajonapaaW.PrintLast Go.Proofs.YtfgnaneajonapaaW.PrintMore
attribute [local go_sem] max2_int min2_int max_two min_two max_three min_three max_four min_four
set_option linter.unusedVariables false
set_option linter.unusedSimpArgs false

/-! ### impl_HolderOf: function 83 -/
def impl_HolderOf.l0 : Nat → ByteArray → List (S120) → Int → Int → Option (Int)
  | 0, _, _, _, _ => none
  | k + 1, x1, x7, x8, x9 => if x9 < x8 then (if 0 ≤ x9 then (if x9 < (x7.length : Int) then (if ((rd_T120 x7 x9).f0).toList = x1.toList then (some ((rd_T120 x7 x9).f1)) else (impl_HolderOf.l0 k x1 x7 x8 (wrap64 (x9 + 1)))) else (none)) else (none)) else (some 0)
def impl_HolderOf.f (k : Nat) (l0 : List (S120)) (a1 : ByteArray) : Option (Int) := impl_HolderOf.l0 k a1 l0 (l0.length : Int) 0
set_option maxHeartbeats 8000000 in
set_option maxRecDepth 100000 in
theorem impl_HolderOf.calls (k : Nat) (A0 : Option Addr) (c0 : Nat) (l0 : List (S120)) (a1 : ByteArray) (r : Int) (w : World) (hr0 : Kd.C k120 w A0 l0.length l0) (hc0 : l0.length ≤ c0) (h : impl_HolderOf.f k l0 a1 = some r) :
    Calls Try.prog 83 #[.slice A0 l0.length c0, .string a1] w fun e w' => e = .returned (.int .i64 r) ∧ Below w.heap.size w w' := by
  have hu120 := Try.underlying120
  have HR0 := Aside0.mk hr0
  have HC0 := Aside0.mk hc0
  clear hr0 hc0
  have HB := Aside0.mk (Below.refl w.heap.size w)
  have H : (impl_HolderOf.l0 k a1 l0 (l0.length : Int) 0) = some r := h
  clear h
  have H' := Aside0.mk H
  clear H
  go_enter Try.func83, Try.ntmps83
  go_wp2
  go_loopg [9] k (fun kq v9 w' => ∃ (x9_1 : Int), v9 = .int .i64 x9_1 ∧ Aside0 (impl_HolderOf.l0 kq a1 l0 (l0.length : Int) x9_1 = some r) ∧ Aside0 (kq ≤ k) ∧ Aside0 (Below w.heap.size w w'))
  case atStart => exact ⟨(0), FR, H', ⟨Nat.le_refl _⟩, ⟨(BB HB.out)⟩⟩
  case round =>
    clear H'
    try clear p2
    obtain ⟨x9_1, rfl, HA, HK1, HB⟩ := hrel
    cases gk with
    | zero => exact absurd HA.out (by simp [impl_HolderOf.l0])
    | succ k1 =>
      have H := HA.out
      clear HA
      simp only [impl_HolderOf.l0] at H
      by_cases c3 : x9_1 < (l0.length : Int)
      · rw [if_pos c3] at H
        have c3b0 : decide (x9_1 < (l0.length : Int)) = true := decide_eq_true c3
        clear c3
        by_cases c4 : 0 ≤ x9_1
        · rw [if_pos c4] at H
          have c4b0 : decide (0 ≤ x9_1) = true := decide_eq_true c4
          clear c4
          by_cases c5 : x9_1 < (l0.length : Int)
          · rw [if_pos c5] at H
            have c5b0 : decide (x9_1 < (l0.length : Int)) = true := decide_eq_true c5
            clear c5
            by_cases c6 : ((rd_T120 l0 x9_1).f0).toList = a1.toList
            · rw [if_pos c6] at H
              have c6b0 : (((rd_T120 l0 x9_1).f0).toList == a1.toList) = true := beq_iff_eq.mpr c6
              have c6b1 : (((rd_T120 l0 x9_1).f0).toList != a1.toList) = false := bne_eq_false_iff_eq.mpr c6
              clear c6
              obtain rfl := Option.some.inj H
              have p556 : 0 ≤ (x9_1 : Int) := DT
              have q556 : x9_1 < (l0.length : Int) := DT
              obtain ⟨ad556, e556, hx556_0, hx556_1, hx556_2⟩ := at_T120 HR0.out x9_1 p556 q556
              cases e556
              replace hx556_0 := (HB.out.cell (World.block_lt_of_cell? w _ hx556_0)).trans hx556_0
              replace hx556_1 := (HB.out.cell (World.block_lt_of_cell? w _ hx556_1)).trans hx556_1
              replace hx556_2 := (HB.out.cell (World.block_lt_of_cell? w _ hx556_2)).trans hx556_2
              replace p556 := eq_true p556
              replace q556 := eq_true q556
              go_wp2_with (first | ((with_reducible refine gate_dst (N := 6) rfl ?_); refine BX 6 #[.string (⟨#[]⟩ : ByteArray), .int .i64 0, .int .i64 0] 120 ?_; intro gb557 hg w7 hbox hb; have BK557 := Aside0.mk (hbox); have GW557 : Aside0 (w.heap.size ≤ gb557) := WG hg (BB HB.out); have GE557 := GW557; replace HB := Aside0.mk (below_step (BB HB.out) hb); clear hb hbox hg; have hcz8 := blk_cell BK557.out; have hfz8 := blk_frozen BK557.out))
              go_ret
              exact ⟨ER, (BB1 HB.out GE557.out)⟩
            · rw [if_neg c6] at H
              have c6b0 : (((rd_T120 l0 x9_1).f0).toList == a1.toList) = false := beq_eq_false_iff_ne.mpr c6
              have c6b1 : (((rd_T120 l0 x9_1).f0).toList != a1.toList) = true := bne_iff_ne.mpr c6
              have H' := Aside0.mk H
              clear H
              have p556 : 0 ≤ (x9_1 : Int) := DT
              have q556 : x9_1 < (l0.length : Int) := DT
              obtain ⟨ad556, e556, hx556_0, hx556_1, hx556_2⟩ := at_T120 HR0.out x9_1 p556 q556
              cases e556
              replace hx556_0 := (HB.out.cell (World.block_lt_of_cell? w _ hx556_0)).trans hx556_0
              replace hx556_1 := (HB.out.cell (World.block_lt_of_cell? w _ hx556_1)).trans hx556_1
              replace hx556_2 := (HB.out.cell (World.block_lt_of_cell? w _ hx556_2)).trans hx556_2
              replace p556 := eq_true p556
              replace q556 := eq_true q556
              go_wp2_with (first | ((with_reducible refine gate_dst (N := 6) rfl ?_); refine BX 6 #[.string (⟨#[]⟩ : ByteArray), .int .i64 0, .int .i64 0] 120 ?_; intro gb557 hg w9 hbox hb; have BK557 := Aside0.mk (hbox); have GW557 : Aside0 (w.heap.size ≤ gb557) := WG hg (BB HB.out); have GE557 := GW557; replace HB := Aside0.mk (below_step (BB HB.out) hb); clear hb hbox hg; have hcz10 := blk_cell BK557.out; have hfz10 := blk_frozen BK557.out))
              go_roundg k1
              case measure => have := HK1.out; omega
              case rel => exact ⟨(wrap64 (x9_1 + 1)), FR, H', ⟨by have := HK1.out; omega⟩, ⟨(BB1 HB.out GE557.out)⟩⟩
          · rw [if_neg c5] at H
            exact absurd H (by simp)
        · rw [if_neg c4] at H
          exact absurd H (by simp)
      · rw [if_neg c3] at H
        have c3b0 : decide (x9_1 < (l0.length : Int)) = false := decide_eq_false c3
        clear c3
        obtain rfl := Option.some.inj H
        go_wp2
        go_ret
        exact ⟨ER, (BB HB.out)⟩

end Go.Proofs.Ytfgnaneajonapaa.Pr

/- A contract of my own: MayWrite. -/
namespace Go.Proofs.Ytfgnaneajonapaa.Pr
open Go.RowKit Go.Proofs.YtfgnaneajonapaaW.PrintWords Go.Proofs.YtfgnaneajonapaaW.PrintLast Go.Proofs.YtfgnaneajonapaaW.PrintMore
set_option linter.unusedVariables false
set_option linter.unusedSimpArgs false
/-- Is a path another one, or below it? -/
def underB (p top : ByteArray) : Bool := (impl_underPath.f p top).getD false
theorem underB_eq (p top : ByteArray) (h : top.size ≤ 1048576) : impl_underPath.f p top = some (underB p top) := by
  unfold underB
  have : ∃ b, impl_underPath.f p top = some b := by
    unfold impl_underPath.f strings_HasPrefix.f stringslite_HasPrefix.f
    by_cases c : p.toList = top.toList
    · exact ⟨_, if_pos c⟩
    · rw [if_neg c, if_pos (by omega)]
      by_cases c2 : (p.size : Int) ≥ ((top ++ (⟨#[47]⟩ : ByteArray)).size : Int)
      · rw [if_pos c2, if_pos (by omega), if_pos (by omega)]; exact ⟨_, rfl⟩
      · rw [if_neg c2]; exact ⟨_, rfl⟩
  obtain ⟨b, hb⟩ := this
  rw [hb]
  rfl
/-- Another one's lease at a path or below it. -/
def otherU (who : Int) (path : ByteArray) (l : S120) : Bool := if l.f1 = who then false else underB l.f0 path
set_option maxHeartbeats 2000000 in
set_option maxRecDepth 100000 in
theorem cl_MayWrite (x : S120) (who : Int) (path : ByteArray) (B : Nat) (w : World) (hs : path.size ≤ 1048576) (h1 : w.cell? ⟨B, 1, none⟩ = some (.int .i64 who)) (h2 : w.cell? ⟨B, 2, none⟩ = some (.string path)) :
    Calls Try.prog 85 #[.agg #[.string x.f0, .int .i64 x.f1, .int .i64 x.f2], .pointer (some ⟨B, 0, none⟩)] w fun e w' => e = .returned (.bool (otherU who path x)) ∧ Below w.heap.size w w' := by
  have l1 := World.block_lt_of_cell? w _ h1
  simp only at l1
  have hu := Try.underlying72
  have hu2 := Try.underlying120
  by_cases c : x.f1 = who
  · have e : otherU who path x = false := if_pos c
    rw [e]
    have hd : (x.f1 != who) = false := bne_eq_false_iff_eq.mpr c
    have hd2 : (x.f1 == who) = true := beq_iff_eq.mpr c
    clear c e
    go_enter Try.func85, Try.ntmps85
    go_wp2
    go_ret
    exact ⟨rfl, (Below.refl _ _).alloc (Nat.le_refl _) _⟩
  · have e : otherU who path x = underB x.f0 path := if_neg c
    have hcall := fun W => impl_underPath.calls x.f0 path _ W (underB_eq x.f0 path hs)
    rw [e]
    generalize underB x.f0 path = q at hcall
    have HC := Aside0.mk hcall
    have hd : (x.f1 != who) = true := bne_iff_ne.mpr c
    have hd2 : (x.f1 == who) = false := beq_eq_false_iff_ne.mpr c
    clear c e hs hcall
    go_enter Try.func85, Try.ntmps85
    go_wp2_with (go_at_call 86; refine (HC.out _).mono ?_; rintro e w' ⟨rfl, ⟨n, rfl⟩⟩)
    go_ret
    exact ⟨rfl, by (repeat (first | with_reducible exact Below.refl _ _ | apply below_alloc | apply pw_below_drewN | apply below_drew1))⟩
def impl_MayWrite.f (k : Nat) (a0_0 : Bool) (l0_1 : List (S135)) (a0_2 : Int) (a0_3 : Int) (l0_4 : List (S192)) (l0_5 : List (S120)) (a0_6 : Int) (a1_0 : Int) (a1_1 : Int) (a1_2 : ByteArray) (a1_3 : ByteArray) (a1_4 : ByteArray) (a1_5 : Int) : Option (Int) :=
  (impl_HolderOf.f k l0_5 a1_2).bind fun t => if a1_2.size ≤ 1048576 then (if a1_0 = 3 then (if t = a1_1 then some 0 else some 6) else if a1_0 = 4 then (if t = a1_1 then some 0 else if t = 0 then some 0 else some 6) else if a1_0 = 10 then (if t = a1_1 then some 0 else if t = 0 then some 0 else some 6) else if a1_0 = 5 then (if l0_5.any (otherU a1_1 a1_2) = true then some 6 else some 0) else if a1_0 = 6 then (if l0_5.any (otherU a1_1 a1_2) = true then some 6 else some 0) else some 0) else none
section
variable (k : Nat) (a0_0 : Bool) (A0_1 : Option Addr) (c0_1 : Nat) (l0_1 : List (S135)) (a0_2 : Int) (a0_3 : Int) (A0_4 : Option Addr) (c0_4 : Nat) (l0_4 : List (S192)) (A0_5 : Option Addr) (c0_5 : Nat) (l0_5 : List (S120)) (a0_6 : Int) (a1_0 : Int) (a1_1 : Int) (a1_2 : ByteArray) (a1_3 : ByteArray) (a1_4 : ByteArray) (a1_5 : Int) (t : Int) (w : World)
  (hr0_5 : Aside0 (Kd.C k120 w A0_5 l0_5.length l0_5)) (hc0_5 : Aside0 (l0_5.length ≤ c0_5)) (ht : Aside0 (impl_HolderOf.f k l0_5 a1_2 = some t))
include hr0_5 hc0_5 ht
set_option maxHeartbeats 4000000 in
set_option maxRecDepth 100000 in
/-- Kinds that ask the holder alone. -/
theorem mayWrite_plain (r : Int) (d3 d4 d10 d5 d6 z : Bool) (q : Bool) (h3 : (a1_0 == 3) = d3) (h4 : (a1_0 == 4) = d4) (h10 : (a1_0 == 10) = d10) (h5 : (a1_0 == 5) = d5) (h6 : (a1_0 == 6) = d6) (hq : (t != a1_1) = q) (hz : (t != 0) = z)
    (hd : (d3 = true ∧ r = if q then 6 else 0) ∨ (d3 = false ∧ (d4 = true ∨ (d4 = false ∧ d10 = true)) ∧ r = if q && z then 6 else 0) ∨ (d3 = false ∧ d4 = false ∧ d10 = false ∧ d5 = false ∧ d6 = false ∧ r = 0)) :
    Calls Try.prog 40 #[.agg #[.bool a0_0, .slice A0_1 l0_1.length c0_1, .int .i64 a0_2, .int .i64 a0_3, .slice A0_4 l0_4.length c0_4, .slice A0_5 l0_5.length c0_5, .int .i64 a0_6], .agg #[.int .i64 a1_0, .int .i64 a1_1, .string a1_2, .string a1_3, .string a1_4, .int .i64 a1_5]] w fun e w' => e = .returned (.int .i64 r) ∧ Below w.heap.size w w' := by
  have hu := Try.underlying72
  have hu2 := Try.underlying46
  rcases hd with ⟨rfl, rfl⟩ | ⟨rfl, hd, rfl⟩ | ⟨rfl, rfl, rfl, rfl, rfl, rfl⟩
  · cases q
    all_goals
      clear h4 h10 h5 h6 hz
      go_enter Try.func40, Try.ntmps40
      go_wp2_with fail
      refine (impl_HolderOf.calls k A0_5 c0_5 l0_5 a1_2 t _ (Kd.C_alloc (Kd.C_alloc hr0_5.out _) _) hc0_5.out ht.out).mono ?_
      rintro e w1 ⟨rfl, hb⟩
      have hb' := Aside0.mk hb
      have f0 := (hb.cell (p := ⟨w.heap.size + 1, 0, none⟩) (by simp)).trans (show _ = some (.int .i64 a1_0) by go_simp)
      have f1 := (hb.cell (p := ⟨w.heap.size + 1, 1, none⟩) (by simp)).trans (show _ = some (.int .i64 a1_1) by go_simp)
      clear hb
      go_wp2
      go_ret
      exact ⟨rfl, (((Below.refl _ _).alloc (Nat.le_refl _) _).alloc (by simp) _).trans (hb'.out.mono (by simp; omega))⟩
  · rcases hd with rfl | ⟨rfl, rfl⟩
    all_goals
      cases q <;> cases z
    all_goals
      clear h5 h6
      go_enter Try.func40, Try.ntmps40
      go_wp2_with fail
      refine (impl_HolderOf.calls k A0_5 c0_5 l0_5 a1_2 t _ (Kd.C_alloc (Kd.C_alloc hr0_5.out _) _) hc0_5.out ht.out).mono ?_
      rintro e w1 ⟨rfl, hb⟩
      have hb' := Aside0.mk hb
      have f0 := (hb.cell (p := ⟨w.heap.size + 1, 0, none⟩) (by simp)).trans (show _ = some (.int .i64 a1_0) by go_simp)
      have f1 := (hb.cell (p := ⟨w.heap.size + 1, 1, none⟩) (by simp)).trans (show _ = some (.int .i64 a1_1) by go_simp)
      clear hb
      go_wp2
      go_ret
      exact ⟨rfl, (((Below.refl _ _).alloc (Nat.le_refl _) _).alloc (by simp) _).trans (hb'.out.mono (by simp; omega))⟩
  · clear hz
    go_enter Try.func40, Try.ntmps40
    go_wp2_with fail
    refine (impl_HolderOf.calls k A0_5 c0_5 l0_5 a1_2 t _ (Kd.C_alloc (Kd.C_alloc hr0_5.out _) _) hc0_5.out ht.out).mono ?_
    rintro e w1 ⟨rfl, hb⟩
    have hb' := Aside0.mk hb
    have f0 := (hb.cell (p := ⟨w.heap.size + 1, 0, none⟩) (by simp)).trans (show _ = some (.int .i64 a1_0) by go_simp)
    have f1 := (hb.cell (p := ⟨w.heap.size + 1, 1, none⟩) (by simp)).trans (show _ = some (.int .i64 a1_1) by go_simp)
    clear hb
    go_wp2
    go_ret
    exact ⟨rfl, (((Below.refl _ _).alloc (Nat.le_refl _) _).alloc (by simp) _).trans (hb'.out.mono (by simp; omega))⟩
set_option maxHeartbeats 4000000 in
set_option maxRecDepth 100000 in
/-- Kinds that ask all leases. -/
theorem mayWrite_all (d5 : Bool) (q : Bool) (hs : Aside0 (a1_2.size ≤ 1048576)) (h3 : (a1_0 == 3) = false) (h4 : (a1_0 == 4) = false) (h10 : (a1_0 == 10) = false) (h5 : (a1_0 == 5) = d5) (h6 : d5 = true ∨ (a1_0 == 6) = true) (hq : Aside0 (l0_5.any (otherU a1_1 a1_2) = q)) :
    Calls Try.prog 40 #[.agg #[.bool a0_0, .slice A0_1 l0_1.length c0_1, .int .i64 a0_2, .int .i64 a0_3, .slice A0_4 l0_4.length c0_4, .slice A0_5 l0_5.length c0_5, .int .i64 a0_6], .agg #[.int .i64 a1_0, .int .i64 a1_1, .string a1_2, .string a1_3, .string a1_4, .int .i64 a1_5]] w fun e w' => e = .returned (.int .i64 (if q then 6 else 0)) ∧ Below w.heap.size w w' := by
  have hu := Try.underlying72
  have hu2 := Try.underlying46
  have h56 : d5 = true ∨ (d5 = false ∧ (a1_0 == 6) = true) := by cases d5 <;> simp_all
  clear h6
  rcases h56 with rfl | ⟨rfl, h6⟩
  all_goals
    cases q
  all_goals
    go_enter Try.func40, Try.ntmps40
    go_wp2_with fail
    refine (impl_HolderOf.calls k A0_5 c0_5 l0_5 a1_2 t _ (Kd.C_alloc (Kd.C_alloc hr0_5.out _) _) hc0_5.out ht.out).mono ?_
    rintro e w1 ⟨rfl, hb⟩
    have hb' := Aside0.mk hb
    have f0 := (hb.cell (p := ⟨w.heap.size + 1, 0, none⟩) (by simp)).trans (show _ = some (.int .i64 a1_0) by go_simp)
    have f1 := (hb.cell (p := ⟨w.heap.size + 1, 1, none⟩) (by simp)).trans (show _ = some (.int .i64 a1_1) by go_simp)
    have f2 := (hb.cell (p := ⟨w.heap.size + 1, 2, none⟩) (by simp)).trans (show _ = some (.string a1_2) by go_simp)
    have f4 := (hb.cell (p := ⟨w.heap.size, 4, none⟩) (by simp; omega)).trans (show _ = some (.slice A0_4 l0_4.length c0_4) by go_simp)
    have f5 := (hb.cell (p := ⟨w.heap.size, 5, none⟩) (by simp; omega)).trans (show _ = some (.slice A0_5 l0_5.length c0_5) by go_simp)
    have g0 : w.heap.size + 1 + 1 ≤ w1.heap.size := by have := hb.size; simp at this; omega
    have HR := Aside0.mk (Kd.C_below (Kd.C_alloc (Kd.C_alloc hr0_5.out _) _) hb)
    clear hb
    go_wp2_with fail
    refine (cfLease 85 _ (enters_of Try.func85 (by kernel_rfl) rfl) (otherU a1_1 a1_2) A0_5 c0_5 l0_5 _ ?hp ?hr).mono ?_
    case hp =>
      intro W x hm hB
      exact (cl_MayWrite x a1_1 a1_2 _ W hs.out ((hB.cell (p := ⟨w.heap.size + 1, 1, none⟩) (by simp; omega)).trans (by go_simp)) ((hB.cell (p := ⟨w.heap.size + 1, 2, none⟩) (by simp; omega)).trans (by go_simp))).mono fun e w' ⟨he, hb2⟩ => ⟨he, hB.trans (hb2.mono hB.size)⟩
    case hr => exact HR.out
    rintro e w' ⟨rfl, hb⟩
    rw [hq.out]
    have HB := Aside0.mk hb
    clear hb
    go_wp2
    go_ret
    exact ⟨rfl, (((Below.refl _ _).alloc (Nat.le_refl _) _).alloc (by simp) _).trans ((hb'.out.mono (by simp; omega)).trans (HB.out.mono (by omega)))⟩
end
theorem impl_MayWrite.calls (k : Nat) (a0_0 : Bool) (A0_1 : Option Addr) (c0_1 : Nat) (l0_1 : List (S135)) (a0_2 : Int) (a0_3 : Int) (A0_4 : Option Addr) (c0_4 : Nat) (l0_4 : List (S192)) (A0_5 : Option Addr) (c0_5 : Nat) (l0_5 : List (S120)) (a0_6 : Int) (a1_0 : Int) (a1_1 : Int) (a1_2 : ByteArray) (a1_3 : ByteArray) (a1_4 : ByteArray) (a1_5 : Int) (r : Int) (w : World) (hr0_1 : Kd.C k135 w A0_1 l0_1.length l0_1) (hc0_1 : l0_1.length ≤ c0_1) (hr0_4 : Kd.C k192 w A0_4 l0_4.length l0_4) (hc0_4 : l0_4.length ≤ c0_4) (hr0_5 : Kd.C k120 w A0_5 l0_5.length l0_5) (hc0_5 : l0_5.length ≤ c0_5) (h : impl_MayWrite.f k a0_0 l0_1 a0_2 a0_3 l0_4 l0_5 a0_6 a1_0 a1_1 a1_2 a1_3 a1_4 a1_5 = some r) :
    Calls Try.prog 40 #[.agg #[.bool a0_0, .slice A0_1 l0_1.length c0_1, .int .i64 a0_2, .int .i64 a0_3, .slice A0_4 l0_4.length c0_4, .slice A0_5 l0_5.length c0_5, .int .i64 a0_6], .agg #[.int .i64 a1_0, .int .i64 a1_1, .string a1_2, .string a1_3, .string a1_4, .int .i64 a1_5]] w fun e w' => e = .returned (.int .i64 r) ∧ Below w.heap.size w w' := by
  unfold impl_MayWrite.f at h
  cases ht : impl_HolderOf.f k l0_5 a1_2 with
  | none => rw [ht] at h; exact absurd h (by simp)
  | some t =>
    rw [ht] at h
    simp only [Option.bind_some] at h
    by_cases hs : a1_2.size ≤ 1048576
    case neg => rw [if_neg hs] at h; exact absurd h (by simp)
    rw [if_pos hs] at h
    have P := mayWrite_plain k a0_0 A0_1 c0_1 l0_1 a0_2 a0_3 A0_4 c0_4 l0_4 A0_5 c0_5 l0_5 a0_6 a1_0 a1_1 a1_2 a1_3 a1_4 a1_5 t w ⟨hr0_5⟩ ⟨hc0_5⟩ ⟨ht⟩ r _ _ _ _ _ _ _ rfl rfl rfl rfl rfl rfl rfl
    have Q := mayWrite_all k a0_0 A0_1 c0_1 l0_1 a0_2 a0_3 A0_4 c0_4 l0_4 A0_5 c0_5 l0_5 a0_6 a1_0 a1_1 a1_2 a1_3 a1_4 a1_5 t w ⟨hr0_5⟩ ⟨hc0_5⟩ ⟨ht⟩ (a1_0 == 5) (l0_5.any (otherU a1_1 a1_2)) ⟨hs⟩
    by_cases c3 : a1_0 = 3
    · rw [if_pos c3] at h
      refine P (.inl ⟨by simp [c3], ?_⟩)
      by_cases ct : t = a1_1 <;> simp [ct] at h ⊢ <;> exact h.symm
    rw [if_neg c3] at h
    by_cases c4 : a1_0 = 4
    · rw [if_pos c4] at h
      refine P (.inr (.inl ⟨by simp [c3], .inl (by simp [c4]), ?_⟩))
      by_cases ct : t = a1_1
      · simp [ct] at h ⊢; exact h.symm
      · by_cases c0 : t = 0
        · rw [if_neg ct, if_pos c0] at h; simp [c0]; exact (Option.some.inj h).symm
        · rw [if_neg ct, if_neg c0] at h; simp [c0, ct]; exact (Option.some.inj h).symm
    rw [if_neg c4] at h
    by_cases c10 : a1_0 = 10
    · rw [if_pos c10] at h
      refine P (.inr (.inl ⟨by simp [c3], .inr ⟨by simp [c4], by simp [c10]⟩, ?_⟩))
      by_cases ct : t = a1_1
      · simp [ct] at h ⊢; exact h.symm
      · by_cases c0 : t = 0
        · rw [if_neg ct, if_pos c0] at h; simp [c0]; exact (Option.some.inj h).symm
        · rw [if_neg ct, if_neg c0] at h; simp [c0, ct]; exact (Option.some.inj h).symm
    rw [if_neg c10] at h
    by_cases c5 : a1_0 = 5
    · rw [if_pos c5] at h
      have hr : r = if l0_5.any (otherU a1_1 a1_2) = true then 6 else 0 := by
        by_cases cc : l0_5.any (otherU a1_1 a1_2) = true
        · rw [if_pos cc] at h ⊢; exact (Option.some.inj h).symm
        · rw [if_neg cc] at h ⊢; exact (Option.some.inj h).symm
      rw [hr]
      exact Q (by simp [c3]) (by simp [c4]) (by simp [c10]) rfl (.inl (by simp [c5])) ⟨rfl⟩
    rw [if_neg c5] at h
    by_cases c6 : a1_0 = 6
    · rw [if_pos c6] at h
      have hr : r = if l0_5.any (otherU a1_1 a1_2) = true then 6 else 0 := by
        by_cases cc : l0_5.any (otherU a1_1 a1_2) = true
        · rw [if_pos cc] at h ⊢; exact (Option.some.inj h).symm
        · rw [if_neg cc] at h ⊢; exact (Option.some.inj h).symm
      rw [hr]
      exact Q (by simp [c3]) (by simp [c4]) (by simp [c10]) rfl (.inr (by simp [c6])) ⟨rfl⟩
    rw [if_neg c6] at h
    exact P (.inr (.inr ⟨by simp [c3], by simp [c4], by simp [c10], by simp [c5], by simp [c6], (Option.some.inj h).symm⟩))
end Go.Proofs.Ytfgnaneajonapaa.Pr

/- Printed out of the translation by this session's pr.py over the kit's print. Lean checks it. -/
namespace Go.Proofs.Ytfgnaneajonapaa.Pr
open Go.RowKit Go.Proofs.YtfgnaneajonapaaW.PrintWords Go.Proofs.YtfgnaneajonapaaW.PrintLast Go.Proofs.YtfgnaneajonapaaW.PrintMore
attribute [local go_sem] max2_int min2_int max_two min_two max_three min_three max_four min_four
set_option linter.unusedVariables false
set_option linter.unusedSimpArgs false

/-! ### spec_HolderOf: function 78 -/
def spec_HolderOf.l0 : Nat → List (S120) → ByteArray → Int → Option (Int)
  | 0, _, _, _ => none
  | k + 1, x0, x1, x5 => if x5 < (x0.length : Int) then (if 0 ≤ x5 then (if ((rd_T120 x0 x5).f0).toList = x1.toList then (some ((rd_T120 x0 x5).f1)) else (spec_HolderOf.l0 k x0 x1 (wrap64 (x5 + 1)))) else (none)) else (some 0)
def spec_HolderOf.f (k : Nat) (l0 : List (S120)) (a1 : ByteArray) : Option (Int) := spec_HolderOf.l0 k l0 a1 0
set_option maxHeartbeats 8000000 in
set_option maxRecDepth 100000 in
theorem spec_HolderOf.calls (k : Nat) (A0 : Option Addr) (c0 : Nat) (l0 : List (S120)) (a1 : ByteArray) (r : Int) (w : World) (hr0 : Kd.C k120 w A0 l0.length l0) (hc0 : l0.length ≤ c0) (h : spec_HolderOf.f k l0 a1 = some r) :
    Calls Try.prog 78 #[.slice A0 l0.length c0, .string a1] w fun e w' => e = .returned (.int .i64 r) ∧ Drawn0 w w' := by
  have HR0 := Aside0.mk hr0
  have HC0 := Aside0.mk hc0
  clear hr0 hc0
  have H : (spec_HolderOf.l0 k l0 a1 0) = some r := h
  clear h
  have H' := Aside0.mk H
  clear H
  go_enter Try.func78, Try.ntmps78
  go_wp2
  go_loopg [5] k (fun kq v5 w' => ∃ (x5_1 : Int), v5 = .int .i64 x5_1 ∧ Aside0 (spec_HolderOf.l0 kq l0 a1 x5_1 = some r) ∧ Aside0 (kq ≤ k) ∧ Drawn0 w w')
  case atStart => exact ⟨(0), FR, H', ⟨Nat.le_refl _⟩, by repeat (first | exact Drawn0.refl _ | apply Drawn0.step)⟩
  case round =>
    clear H'
    try clear p2
    obtain ⟨x5_1, rfl, HA, HK1, ⟨m1, rfl⟩⟩ := hrel
    cases gk with
    | zero => exact absurd HA.out (by simp [spec_HolderOf.l0])
    | succ k1 =>
      have H := HA.out
      clear HA
      simp only [spec_HolderOf.l0] at H
      by_cases c3 : x5_1 < (l0.length : Int)
      · rw [if_pos c3] at H
        have c3b0 : decide (x5_1 < (l0.length : Int)) = true := decide_eq_true c3
        clear c3
        by_cases c4 : 0 ≤ x5_1
        · rw [if_pos c4] at H
          have c4b0 : decide (0 ≤ x5_1) = true := decide_eq_true c4
          clear c4
          by_cases c5 : ((rd_T120 l0 x5_1).f0).toList = a1.toList
          · rw [if_pos c5] at H
            have c5b0 : (((rd_T120 l0 x5_1).f0).toList == a1.toList) = true := beq_iff_eq.mpr c5
            have c5b1 : (((rd_T120 l0 x5_1).f0).toList != a1.toList) = false := bne_eq_false_iff_eq.mpr c5
            clear c5
            obtain rfl := Option.some.inj H
            have p466 : 0 ≤ (x5_1 : Int) := DT
            have q466 : x5_1 < (l0.length : Int) := DT
            obtain ⟨ad466, e466, hx466_0, hx466_1, hx466_2⟩ := at_T120 HR0.out x5_1 p466 q466
            cases e466
            replace p466 := eq_true p466
            replace q466 := eq_true q466
            have p467 : 0 ≤ (x5_1 : Int) := DT
            have q467 : x5_1 < (l0.length : Int) := DT
            obtain ⟨ad467, e467, hx467_0, hx467_1, hx467_2⟩ := at_T120 HR0.out x5_1 p467 q467
            obtain rfl : ad466 = ad467 := (by injection e467)
            replace p467 := eq_true p467
            replace q467 := eq_true q467
            go_wp2
            go_ret
            exact ⟨FR, by repeat (first | exact Drawn0.refl _ | apply Drawn0.step)⟩
          · rw [if_neg c5] at H
            have c5b0 : (((rd_T120 l0 x5_1).f0).toList == a1.toList) = false := beq_eq_false_iff_ne.mpr c5
            have c5b1 : (((rd_T120 l0 x5_1).f0).toList != a1.toList) = true := bne_iff_ne.mpr c5
            have H' := Aside0.mk H
            clear H
            have p466 : 0 ≤ (x5_1 : Int) := DT
            have q466 : x5_1 < (l0.length : Int) := DT
            obtain ⟨ad466, e466, hx466_0, hx466_1, hx466_2⟩ := at_T120 HR0.out x5_1 p466 q466
            cases e466
            replace p466 := eq_true p466
            replace q466 := eq_true q466
            go_wp2
            go_roundg k1
            case measure => have := HK1.out; omega
            case rel => exact ⟨(wrap64 (x5_1 + 1)), FR, H', ⟨by have := HK1.out; omega⟩, by repeat (first | exact Drawn0.refl _ | apply Drawn0.step)⟩
        · rw [if_neg c4] at H
          exact absurd H (by simp)
      · rw [if_neg c3] at H
        have c3b0 : decide (x5_1 < (l0.length : Int)) = false := decide_eq_false c3
        clear c3
        obtain rfl := Option.some.inj H
        go_wp2
        go_ret
        exact ⟨FR, by repeat (first | exact Drawn0.refl _ | apply Drawn0.step)⟩

end Go.Proofs.Ytfgnaneajonapaa.Pr

/- Printed out of the translation by this session's pr.py over the kit's print. Lean checks it. -/
namespace Go.Proofs.Ytfgnaneajonapaa.Pr
open Go.RowKit Go.Proofs.YtfgnaneajonapaaW.PrintWords Go.Proofs.YtfgnaneajonapaaW.PrintLast Go.Proofs.YtfgnaneajonapaaW.PrintMore
attribute [local go_sem] max2_int min2_int max_two min_two max_three min_three max_four min_four
set_option linter.unusedVariables false
set_option linter.unusedSimpArgs false

/-! ### spec_l17Under: function 79 -/
def spec_l17Under.f (a0 : ByteArray) (a1 : ByteArray) : Option (Bool) := if a0.toList = a1.toList then (some true) else (if (a0.size : Int) > (a1.size : Int) then (if 0 ≤ (wrap64 ((a1.size : Int) + 1)) then (if (wrap64 ((a1.size : Int) + 1)) ≤ (a0.size : Int) then (if a1.size + 1 ≤ 9223372036854775807 then (some ((a0.extract 0 ((wrap64 ((a1.size : Int) + 1)) : Int).toNat).toList == (a1 ++ (⟨#[47]⟩ : ByteArray)).toList)) else (none)) else (none)) else (none)) else (some false))
set_option maxHeartbeats 8000000 in
set_option maxRecDepth 100000 in
theorem spec_l17Under.calls (a0 : ByteArray) (a1 : ByteArray) (r : Bool) (w : World) (h : spec_l17Under.f a0 a1 = some r) :
    Calls Try.prog 79 #[.string a0, .string a1] w fun e w' => e = .returned (.bool r) ∧ Drawn0 w w' := by
  have H : (if a0.toList = a1.toList then (some true) else (if (a0.size : Int) > (a1.size : Int) then (if 0 ≤ (wrap64 ((a1.size : Int) + 1)) then (if (wrap64 ((a1.size : Int) + 1)) ≤ (a0.size : Int) then (if a1.size + 1 ≤ 9223372036854775807 then (some ((a0.extract 0 ((wrap64 ((a1.size : Int) + 1)) : Int).toNat).toList == (a1 ++ (⟨#[47]⟩ : ByteArray)).toList)) else (none)) else (none)) else (none)) else (some false))) = some r := h
  clear h
  by_cases c3 : a0.toList = a1.toList
  · rw [if_pos c3] at H
    have c3b0 : (a0.toList == a1.toList) = true := beq_iff_eq.mpr c3
    have c3b1 : (a0.toList != a1.toList) = false := bne_eq_false_iff_eq.mpr c3
    clear c3
    obtain rfl := Option.some.inj H
    go_enter Try.func79, Try.ntmps79
    go_wp2
    go_ret
    exact ⟨FR, by repeat (first | exact Drawn0.refl _ | apply Drawn0.step)⟩
  · rw [if_neg c3] at H
    have c3b0 : (a0.toList == a1.toList) = false := beq_eq_false_iff_ne.mpr c3
    have c3b1 : (a0.toList != a1.toList) = true := bne_iff_ne.mpr c3
    by_cases c4 : (a0.size : Int) > (a1.size : Int)
    · rw [if_pos c4] at H
      have c4b0 : decide ((a1.size : Int) < (a0.size : Int)) = true := decide_eq_true c4
      have c4b1 : decide (a1.size < a0.size) = true := decide_eq_true (Int.ofNat_lt.mp c4)
      clear c4
      obtain ⟨ji5, hji5⟩ : ∃ j_ : Int, (wrap64 ((a1.size : Int) + 1)) = j_ := ⟨_, rfl⟩
      replace H : (if 0 ≤ (ji5) then (if (ji5) ≤ (a0.size : Int) then (if a1.size + 1 ≤ 9223372036854775807 then (some ((a0.extract 0 ((ji5) : Int).toNat).toList == (a1 ++ (⟨#[47]⟩ : ByteArray)).toList)) else (none)) else (none)) else (none)) = some r := by first | (rw [hji5] at H; exact H) | (simp only [hji5] at H ⊢; exact H)
      have hji5w : (IntKind.i64.wrap ((a1.size : Int) + 1)) = ji5 := (i64_w _).trans hji5
      by_cases c6 : 0 ≤ (ji5)
      · rw [if_pos c6] at H
        have c6b0 := eq_true c6
        have c6b1 : decide (0 ≤ (ji5)) = true := decide_eq_true c6
        clear c6
        by_cases c7 : (ji5) ≤ (a0.size : Int)
        · rw [if_pos c7] at H
          have c7b0 := eq_true c7
          have c7b1 : decide ((ji5) ≤ (a0.size : Int)) = true := decide_eq_true c7
          clear c7
          by_cases c8 : a1.size + 1 ≤ 9223372036854775807
          · rw [if_pos c8] at H
            have c8b0 := eq_true c8
            have c8b1 : decide (a1.size + 1 ≤ 9223372036854775807) = true := decide_eq_true c8
            try have c8b2 : (9223372036854775807 < a1.size + 1) = False := eq_false (Nat.not_lt.2 c8)
            obtain rfl := Option.some.inj H
            go_enter Try.func79, Try.ntmps79
            go_wp2
            go_ret
            exact ⟨by first | rfl | (simp; done) | (simp only [← hji5] <;> (first | rfl | simp)) | (simp [*]; done), by repeat (first | exact Drawn0.refl _ | apply Drawn0.step)⟩
          · rw [if_neg c8] at H
            exact absurd H (by simp)
        · rw [if_neg c7] at H
          exact absurd H (by simp)
      · rw [if_neg c6] at H
        exact absurd H (by simp)
    · rw [if_neg c4] at H
      have c4b0 : decide ((a1.size : Int) < (a0.size : Int)) = false := decide_eq_false c4
      have c4b1 : decide (a1.size < a0.size) = false := decide_eq_false (fun h => c4 (Int.ofNat_lt.mpr h))
      clear c4
      obtain rfl := Option.some.inj H
      go_enter Try.func79, Try.ntmps79
      go_wp2
      go_ret
      exact ⟨FR, by repeat (first | exact Drawn0.refl _ | apply Drawn0.step)⟩

end Go.Proofs.Ytfgnaneajonapaa.Pr

/- Printed out of the translation by this session's pr.py over the kit's print. Lean checks it. -/
namespace Go.Proofs.Ytfgnaneajonapaa.Pr
open Go.RowKit Go.Proofs.YtfgnaneajonapaaW.PrintWords Go.Proofs.YtfgnaneajonapaaW.PrintLast Go.Proofs.YtfgnaneajonapaaW.PrintMore
attribute [local go_sem] max2_int min2_int max_two min_two max_three min_three max_four min_four
set_option linter.unusedVariables false
set_option linter.unusedSimpArgs false

/-! ### spec_MayWrite: function 37 -/
mutual
def spec_MayWrite.j0 : Nat → Int → Int → Bool → Bool → List (S135) → Int → Int → List (S192) → List (S120) → Int → Int → Int → ByteArray → ByteArray → ByteArray → Int → Option (Int)
  | 0, _, _, _, _, _, _, _, _, _, _, _, _, _, _, _, _ => none
  | k + 1, x5, x13, x20, x469000, x469001, x469002, x469003, x469004, x469005, x469006, x470000, x470001, x470002, x470003, x470004, x470005 => if x20 = true then (if x5 = 0 then (some 0) else (if x5 = x470001 then (some 0) else (some 6))) else (if x13 = 5 then (spec_MayWrite.j1 k (x13 == 5) x469000 x469001 x469002 x469003 x469004 x469005 x469006 x470000 x470001 x470002 x470003 x470004 x470005) else (spec_MayWrite.j1 k (x13 == 6) x469000 x469001 x469002 x469003 x469004 x469005 x469006 x470000 x470001 x470002 x470003 x470004 x470005))
def spec_MayWrite.j1 : Nat → Bool → Bool → List (S135) → Int → Int → List (S192) → List (S120) → Int → Int → Int → ByteArray → ByteArray → ByteArray → Int → Option (Int)
  | 0, _, _, _, _, _, _, _, _, _, _, _, _, _, _ => none
  | k + 1, x31, x469000, x469001, x469002, x469003, x469004, x469005, x469006, x470000, x470001, x470002, x470003, x470004, x470005 => if x31 = true then (spec_MayWrite.l0 k 0 x469000 x469001 x469002 x469003 x469004 x469005 x469006 x470000 x470001 x470002 x470003 x470004 x470005) else (some 0)
def spec_MayWrite.l0 : Nat → Int → Bool → List (S135) → Int → Int → List (S192) → List (S120) → Int → Int → Int → ByteArray → ByteArray → ByteArray → Int → Option (Int)
  | 0, _, _, _, _, _, _, _, _, _, _, _, _, _, _ => none
  | k + 1, x6, x469000, x469001, x469002, x469003, x469004, x469005, x469006, x470000, x470001, x470002, x470003, x470004, x470005 => if x6 < (x469005.length : Int) then (if 0 ≤ x6 then (if ((rd_T120 x469005 x6).f1) = x470001 then (spec_MayWrite.l0 k (wrap64 (x6 + 1)) x469000 x469001 x469002 x469003 x469004 x469005 x469006 x470000 x470001 x470002 x470003 x470004 x470005) else ((spec_l17Under.f ((rd_T120 x469005 x6).f0) x470002).bind fun t473 => (if t473 = true then (some 6) else (spec_MayWrite.l0 k (wrap64 (x6 + 1)) x469000 x469001 x469002 x469003 x469004 x469005 x469006 x470000 x470001 x470002 x470003 x470004 x470005)))) else (none)) else (some 0)
end
def spec_MayWrite.f (k : Nat) (a0_0 : Bool) (l0_1 : List (S135)) (a0_2 : Int) (a0_3 : Int) (l0_4 : List (S192)) (l0_5 : List (S120)) (a0_6 : Int) (a1_0 : Int) (a1_1 : Int) (a1_2 : ByteArray) (a1_3 : ByteArray) (a1_4 : ByteArray) (a1_5 : Int) : Option (Int) := (spec_HolderOf.f k l0_5 a1_2).bind fun t470 => (if a1_0 = 3 then (if t470 = a1_1 then (some 0) else (some 6)) else (if a1_0 = 4 then (spec_MayWrite.j0 k t470 a1_0 (a1_0 == 4) a0_0 l0_1 a0_2 a0_3 l0_4 l0_5 a0_6 a1_0 a1_1 a1_2 a1_3 a1_4 a1_5) else (spec_MayWrite.j0 k t470 a1_0 (a1_0 == 10) a0_0 l0_1 a0_2 a0_3 l0_4 l0_5 a0_6 a1_0 a1_1 a1_2 a1_3 a1_4 a1_5)))
set_option maxHeartbeats 8000000 in
set_option maxRecDepth 100000 in
theorem spec_MayWrite.calls (k : Nat) (a0_0 : Bool) (A0_1 : Option Addr) (c0_1 : Nat) (l0_1 : List (S135)) (a0_2 : Int) (a0_3 : Int) (A0_4 : Option Addr) (c0_4 : Nat) (l0_4 : List (S192)) (A0_5 : Option Addr) (c0_5 : Nat) (l0_5 : List (S120)) (a0_6 : Int) (a1_0 : Int) (a1_1 : Int) (a1_2 : ByteArray) (a1_3 : ByteArray) (a1_4 : ByteArray) (a1_5 : Int) (r : Int) (w : World) (hr0_1 : Kd.C k135 w A0_1 l0_1.length l0_1) (hc0_1 : l0_1.length ≤ c0_1) (hr0_4 : Kd.C k192 w A0_4 l0_4.length l0_4) (hc0_4 : l0_4.length ≤ c0_4) (hr0_5 : Kd.C k120 w A0_5 l0_5.length l0_5) (hc0_5 : l0_5.length ≤ c0_5) (h : spec_MayWrite.f k a0_0 l0_1 a0_2 a0_3 l0_4 l0_5 a0_6 a1_0 a1_1 a1_2 a1_3 a1_4 a1_5 = some r) :
    Calls Try.prog 37 #[.agg #[.bool a0_0, .slice A0_1 l0_1.length c0_1, .int .i64 a0_2, .int .i64 a0_3, .slice A0_4 l0_4.length c0_4, .slice A0_5 l0_5.length c0_5, .int .i64 a0_6], .agg #[.int .i64 a1_0, .int .i64 a1_1, .string a1_2, .string a1_3, .string a1_4, .int .i64 a1_5]] w fun e w' => e = .returned (.int .i64 r) ∧ Below w.heap.size w w' := by
  have hu46 := Try.underlying46
  have hu72 := Try.underlying72
  have HR0_1 := Aside0.mk hr0_1
  have HC0_1 := Aside0.mk hc0_1
  clear hr0_1 hc0_1
  have HR0_4 := Aside0.mk hr0_4
  have HC0_4 := Aside0.mk hc0_4
  clear hr0_4 hc0_4
  have HR0_5 := Aside0.mk hr0_5
  have HC0_5 := Aside0.mk hc0_5
  clear hr0_5 hc0_5
  have HB := Aside0.mk (Below.refl w.heap.size w)
  have H : ((spec_HolderOf.f k l0_5 a1_2).bind fun t470 => (if a1_0 = 3 then (if t470 = a1_1 then (some 0) else (some 6)) else (if a1_0 = 4 then (spec_MayWrite.j0 k t470 a1_0 (a1_0 == 4) a0_0 l0_1 a0_2 a0_3 l0_4 l0_5 a0_6 a1_0 a1_1 a1_2 a1_3 a1_4 a1_5) else (spec_MayWrite.j0 k t470 a1_0 (a1_0 == 10) a0_0 l0_1 a0_2 a0_3 l0_4 l0_5 a0_6 a1_0 a1_1 a1_2 a1_3 a1_4 a1_5)))) = some r := h
  clear h
  replace H := Option.bind_eq_some_iff.mp H
  obtain ⟨t470, A30, H⟩ := H
  replace H : (if a1_0 = 3 then (if t470 = a1_1 then (some 0) else (some 6)) else (if a1_0 = 4 then (spec_MayWrite.j0 k t470 a1_0 (a1_0 == 4) a0_0 l0_1 a0_2 a0_3 l0_4 l0_5 a0_6 a1_0 a1_1 a1_2 a1_3 a1_4 a1_5) else (spec_MayWrite.j0 k t470 a1_0 (a1_0 == 10) a0_0 l0_1 a0_2 a0_3 l0_4 l0_5 a0_6 a1_0 a1_1 a1_2 a1_3 a1_4 a1_5))) = some r := H
  have A3 := Aside0.mk A30
  clear A30
  by_cases c4 : a1_0 = 3
  · rw [if_pos c4] at H
    have c4b0 : (a1_0 == 3) = true := beq_iff_eq.mpr c4
    have c4b1 : (a1_0 != 3) = false := bne_eq_false_iff_eq.mpr c4
    clear c4
    by_cases c5 : t470 = a1_1
    · rw [if_pos c5] at H
      have c5b0 : (t470 == a1_1) = true := beq_iff_eq.mpr c5
      have c5b1 : (t470 != a1_1) = false := bne_eq_false_iff_eq.mpr c5
      clear c5
      obtain rfl := Option.some.inj H
      go_enter Try.func37, Try.ntmps37
      go_wp2_with (first | ((with_reducible refine gate_dst (N := 2) rfl ?_); refine BX 2 #[.bool a0_0, .slice A0_1 l0_1.length c0_1, .int .i64 a0_2, .int .i64 a0_3, .slice A0_4 l0_4.length c0_4, .slice A0_5 l0_5.length c0_5, .int .i64 a0_6] 46 ?_; intro gb468 hg w6 hbox hb; have BK468 := Aside0.mk (hbox); have GW468 : Aside0 (w.heap.size ≤ gb468) := WG hg (BB HB.out); have GE468 := GW468; replace HB := Aside0.mk (below_step (BB HB.out) hb); clear hb hbox hg) | ((with_reducible refine gate_dst (N := 3) rfl ?_); refine BX 3 #[.int .i64 a1_0, .int .i64 a1_1, .string a1_2, .string a1_3, .string a1_4, .int .i64 a1_5] 72 ?_; intro gb469 hg w7 hbox hb; have BK469 := Aside0.mk (hbox); have GW469 : Aside0 (w.heap.size ≤ gb469) := WG hg (BB1 HB.out GE468.out); have GE469 := GW469; have NB468_469 := NL BK468.out hg; have NB469_468 := NG BK468.out hg; replace BK468 := Aside0.mk (KB BK468.out hb); replace HB := Aside0.mk (below_step (BB1 HB.out GE468.out) hb); clear hb hbox hg; have hnb8 := NB468_469.out; have hnc8 := NB469_468.out; have hcz9_0 : w7.cell? ⟨gb468, 0, none⟩ = some (.bool a0_0) := (blk_cell BK468.out 0).trans rfl; have hcz9_1 : w7.cell? ⟨gb468, 1, none⟩ = some (.slice A0_1 l0_1.length c0_1) := (blk_cell BK468.out 1).trans rfl; have hcz9_2 : w7.cell? ⟨gb468, 2, none⟩ = some (.int .i64 a0_2) := (blk_cell BK468.out 2).trans rfl; have hcz9_3 : w7.cell? ⟨gb468, 3, none⟩ = some (.int .i64 a0_3) := (blk_cell BK468.out 3).trans rfl; have hcz9_4 : w7.cell? ⟨gb468, 4, none⟩ = some (.slice A0_4 l0_4.length c0_4) := (blk_cell BK468.out 4).trans rfl; have hcz9_5 : w7.cell? ⟨gb468, 5, none⟩ = some (.slice A0_5 l0_5.length c0_5) := (blk_cell BK468.out 5).trans rfl; have hcz9_6 : w7.cell? ⟨gb468, 6, none⟩ = some (.int .i64 a0_6) := (blk_cell BK468.out 6).trans rfl; have hfz9_0 := blk_frozen BK468.out 0; have hfz9_1 := blk_frozen BK468.out 1; have hfz9_2 := blk_frozen BK468.out 2; have hfz9_3 := blk_frozen BK468.out 3; have hfz9_4 := blk_frozen BK468.out 4; have hfz9_5 := blk_frozen BK468.out 5; have hfz9_6 := blk_frozen BK468.out 6; have hcz10_0 : w7.cell? ⟨gb469, 0, none⟩ = some (.int .i64 a1_0) := (blk_cell BK469.out 0).trans rfl; have hcz10_1 : w7.cell? ⟨gb469, 1, none⟩ = some (.int .i64 a1_1) := (blk_cell BK469.out 1).trans rfl; have hcz10_2 : w7.cell? ⟨gb469, 2, none⟩ = some (.string a1_2) := (blk_cell BK469.out 2).trans rfl; have hcz10_3 : w7.cell? ⟨gb469, 3, none⟩ = some (.string a1_3) := (blk_cell BK469.out 3).trans rfl; have hcz10_4 : w7.cell? ⟨gb469, 4, none⟩ = some (.string a1_4) := (blk_cell BK469.out 4).trans rfl; have hcz10_5 : w7.cell? ⟨gb469, 5, none⟩ = some (.int .i64 a1_5) := (blk_cell BK469.out 5).trans rfl; have hfz10_0 := blk_frozen BK469.out 0; have hfz10_1 := blk_frozen BK469.out 1; have hfz10_2 := blk_frozen BK469.out 2; have hfz10_3 := blk_frozen BK469.out 3; have hfz10_4 := blk_frozen BK469.out 4; have hfz10_5 := blk_frozen BK469.out 5) | (go_at_call 78; (with_reducible refine (spec_HolderOf.calls k _ _ l0_5 a1_2 t470 _ ?side1 ?side2 A3.out).mono ?_); (case side1 => exact CC (Kd.C_below HR0_5.out HB.out)); (case side2 => exact HC0_5.out); rintro e w' ⟨rfl, ⟨nd, rfl⟩⟩; (try first | exact ⟨rfl, _, World.drewN_drewN _ _ _⟩ | exact ⟨rfl, _, Eq.trans (World.drewN_drewN _ _ _) (congrArg (World.drewN _) (Nat.add_assoc _ _ _))⟩)))
      repeat (go_quiet (first | ((with_reducible refine gate_dst (N := 2) rfl ?_); refine BX 2 #[.bool a0_0, .slice A0_1 l0_1.length c0_1, .int .i64 a0_2, .int .i64 a0_3, .slice A0_4 l0_4.length c0_4, .slice A0_5 l0_5.length c0_5, .int .i64 a0_6] 46 ?_; intro gb468 hg w6 hbox hb; have BK468 := Aside0.mk (hbox); have GW468 : Aside0 (w.heap.size ≤ gb468) := WG hg (BB HB.out); have GE468 := GW468; replace HB := Aside0.mk (below_step (BB HB.out) hb); clear hb hbox hg) | ((with_reducible refine gate_dst (N := 3) rfl ?_); refine BX 3 #[.int .i64 a1_0, .int .i64 a1_1, .string a1_2, .string a1_3, .string a1_4, .int .i64 a1_5] 72 ?_; intro gb469 hg w7 hbox hb; have BK469 := Aside0.mk (hbox); have GW469 : Aside0 (w.heap.size ≤ gb469) := WG hg (BB1 HB.out GE468.out); have GE469 := GW469; have NB468_469 := NL BK468.out hg; have NB469_468 := NG BK468.out hg; replace BK468 := Aside0.mk (KB BK468.out hb); replace HB := Aside0.mk (below_step (BB1 HB.out GE468.out) hb); clear hb hbox hg; have hnb8 := NB468_469.out; have hnc8 := NB469_468.out; have hcz9_0 : w7.cell? ⟨gb468, 0, none⟩ = some (.bool a0_0) := (blk_cell BK468.out 0).trans rfl; have hcz9_1 : w7.cell? ⟨gb468, 1, none⟩ = some (.slice A0_1 l0_1.length c0_1) := (blk_cell BK468.out 1).trans rfl; have hcz9_2 : w7.cell? ⟨gb468, 2, none⟩ = some (.int .i64 a0_2) := (blk_cell BK468.out 2).trans rfl; have hcz9_3 : w7.cell? ⟨gb468, 3, none⟩ = some (.int .i64 a0_3) := (blk_cell BK468.out 3).trans rfl; have hcz9_4 : w7.cell? ⟨gb468, 4, none⟩ = some (.slice A0_4 l0_4.length c0_4) := (blk_cell BK468.out 4).trans rfl; have hcz9_5 : w7.cell? ⟨gb468, 5, none⟩ = some (.slice A0_5 l0_5.length c0_5) := (blk_cell BK468.out 5).trans rfl; have hcz9_6 : w7.cell? ⟨gb468, 6, none⟩ = some (.int .i64 a0_6) := (blk_cell BK468.out 6).trans rfl; have hfz9_0 := blk_frozen BK468.out 0; have hfz9_1 := blk_frozen BK468.out 1; have hfz9_2 := blk_frozen BK468.out 2; have hfz9_3 := blk_frozen BK468.out 3; have hfz9_4 := blk_frozen BK468.out 4; have hfz9_5 := blk_frozen BK468.out 5; have hfz9_6 := blk_frozen BK468.out 6; have hcz10_0 : w7.cell? ⟨gb469, 0, none⟩ = some (.int .i64 a1_0) := (blk_cell BK469.out 0).trans rfl; have hcz10_1 : w7.cell? ⟨gb469, 1, none⟩ = some (.int .i64 a1_1) := (blk_cell BK469.out 1).trans rfl; have hcz10_2 : w7.cell? ⟨gb469, 2, none⟩ = some (.string a1_2) := (blk_cell BK469.out 2).trans rfl; have hcz10_3 : w7.cell? ⟨gb469, 3, none⟩ = some (.string a1_3) := (blk_cell BK469.out 3).trans rfl; have hcz10_4 : w7.cell? ⟨gb469, 4, none⟩ = some (.string a1_4) := (blk_cell BK469.out 4).trans rfl; have hcz10_5 : w7.cell? ⟨gb469, 5, none⟩ = some (.int .i64 a1_5) := (blk_cell BK469.out 5).trans rfl; have hfz10_0 := blk_frozen BK469.out 0; have hfz10_1 := blk_frozen BK469.out 1; have hfz10_2 := blk_frozen BK469.out 2; have hfz10_3 := blk_frozen BK469.out 3; have hfz10_4 := blk_frozen BK469.out 4; have hfz10_5 := blk_frozen BK469.out 5) | (go_at_call 78; (with_reducible refine (spec_HolderOf.calls k _ _ l0_5 a1_2 t470 _ ?side1 ?side2 A3.out).mono ?_); (case side1 => exact CC (Kd.C_below HR0_5.out HB.out)); (case side2 => exact HC0_5.out); rintro e w' ⟨rfl, ⟨nd, rfl⟩⟩; (try first | exact ⟨rfl, _, World.drewN_drewN _ _ _⟩ | exact ⟨rfl, _, Eq.trans (World.drewN_drewN _ _ _) (congrArg (World.drewN _) (Nat.add_assoc _ _ _))⟩))); try go_wp2_with (first | ((with_reducible refine gate_dst (N := 2) rfl ?_); refine BX 2 #[.bool a0_0, .slice A0_1 l0_1.length c0_1, .int .i64 a0_2, .int .i64 a0_3, .slice A0_4 l0_4.length c0_4, .slice A0_5 l0_5.length c0_5, .int .i64 a0_6] 46 ?_; intro gb468 hg w6 hbox hb; have BK468 := Aside0.mk (hbox); have GW468 : Aside0 (w.heap.size ≤ gb468) := WG hg (BB HB.out); have GE468 := GW468; replace HB := Aside0.mk (below_step (BB HB.out) hb); clear hb hbox hg) | ((with_reducible refine gate_dst (N := 3) rfl ?_); refine BX 3 #[.int .i64 a1_0, .int .i64 a1_1, .string a1_2, .string a1_3, .string a1_4, .int .i64 a1_5] 72 ?_; intro gb469 hg w7 hbox hb; have BK469 := Aside0.mk (hbox); have GW469 : Aside0 (w.heap.size ≤ gb469) := WG hg (BB1 HB.out GE468.out); have GE469 := GW469; have NB468_469 := NL BK468.out hg; have NB469_468 := NG BK468.out hg; replace BK468 := Aside0.mk (KB BK468.out hb); replace HB := Aside0.mk (below_step (BB1 HB.out GE468.out) hb); clear hb hbox hg; have hnb8 := NB468_469.out; have hnc8 := NB469_468.out; have hcz9_0 : w7.cell? ⟨gb468, 0, none⟩ = some (.bool a0_0) := (blk_cell BK468.out 0).trans rfl; have hcz9_1 : w7.cell? ⟨gb468, 1, none⟩ = some (.slice A0_1 l0_1.length c0_1) := (blk_cell BK468.out 1).trans rfl; have hcz9_2 : w7.cell? ⟨gb468, 2, none⟩ = some (.int .i64 a0_2) := (blk_cell BK468.out 2).trans rfl; have hcz9_3 : w7.cell? ⟨gb468, 3, none⟩ = some (.int .i64 a0_3) := (blk_cell BK468.out 3).trans rfl; have hcz9_4 : w7.cell? ⟨gb468, 4, none⟩ = some (.slice A0_4 l0_4.length c0_4) := (blk_cell BK468.out 4).trans rfl; have hcz9_5 : w7.cell? ⟨gb468, 5, none⟩ = some (.slice A0_5 l0_5.length c0_5) := (blk_cell BK468.out 5).trans rfl; have hcz9_6 : w7.cell? ⟨gb468, 6, none⟩ = some (.int .i64 a0_6) := (blk_cell BK468.out 6).trans rfl; have hfz9_0 := blk_frozen BK468.out 0; have hfz9_1 := blk_frozen BK468.out 1; have hfz9_2 := blk_frozen BK468.out 2; have hfz9_3 := blk_frozen BK468.out 3; have hfz9_4 := blk_frozen BK468.out 4; have hfz9_5 := blk_frozen BK468.out 5; have hfz9_6 := blk_frozen BK468.out 6; have hcz10_0 : w7.cell? ⟨gb469, 0, none⟩ = some (.int .i64 a1_0) := (blk_cell BK469.out 0).trans rfl; have hcz10_1 : w7.cell? ⟨gb469, 1, none⟩ = some (.int .i64 a1_1) := (blk_cell BK469.out 1).trans rfl; have hcz10_2 : w7.cell? ⟨gb469, 2, none⟩ = some (.string a1_2) := (blk_cell BK469.out 2).trans rfl; have hcz10_3 : w7.cell? ⟨gb469, 3, none⟩ = some (.string a1_3) := (blk_cell BK469.out 3).trans rfl; have hcz10_4 : w7.cell? ⟨gb469, 4, none⟩ = some (.string a1_4) := (blk_cell BK469.out 4).trans rfl; have hcz10_5 : w7.cell? ⟨gb469, 5, none⟩ = some (.int .i64 a1_5) := (blk_cell BK469.out 5).trans rfl; have hfz10_0 := blk_frozen BK469.out 0; have hfz10_1 := blk_frozen BK469.out 1; have hfz10_2 := blk_frozen BK469.out 2; have hfz10_3 := blk_frozen BK469.out 3; have hfz10_4 := blk_frozen BK469.out 4; have hfz10_5 := blk_frozen BK469.out 5) | (go_at_call 78; (with_reducible refine (spec_HolderOf.calls k _ _ l0_5 a1_2 t470 _ ?side1 ?side2 A3.out).mono ?_); (case side1 => exact CC (Kd.C_below HR0_5.out HB.out)); (case side2 => exact HC0_5.out); rintro e w' ⟨rfl, ⟨nd, rfl⟩⟩; (try first | exact ⟨rfl, _, World.drewN_drewN _ _ _⟩ | exact ⟨rfl, _, Eq.trans (World.drewN_drewN _ _ _) (congrArg (World.drewN _) (Nat.add_assoc _ _ _))⟩))))
      go_ret
      exact ⟨ER, (BB2 HB.out GE468.out GE469.out)⟩
    · rw [if_neg c5] at H
      have c5b0 : (t470 == a1_1) = false := beq_eq_false_iff_ne.mpr c5
      have c5b1 : (t470 != a1_1) = true := bne_iff_ne.mpr c5
      obtain rfl := Option.some.inj H
      go_enter Try.func37, Try.ntmps37
      go_wp2_with (first | ((with_reducible refine gate_dst (N := 2) rfl ?_); refine BX 2 #[.bool a0_0, .slice A0_1 l0_1.length c0_1, .int .i64 a0_2, .int .i64 a0_3, .slice A0_4 l0_4.length c0_4, .slice A0_5 l0_5.length c0_5, .int .i64 a0_6] 46 ?_; intro gb468 hg w11 hbox hb; have BK468 := Aside0.mk (hbox); have GW468 : Aside0 (w.heap.size ≤ gb468) := WG hg (BB HB.out); have GE468 := GW468; replace HB := Aside0.mk (below_step (BB HB.out) hb); clear hb hbox hg) | ((with_reducible refine gate_dst (N := 3) rfl ?_); refine BX 3 #[.int .i64 a1_0, .int .i64 a1_1, .string a1_2, .string a1_3, .string a1_4, .int .i64 a1_5] 72 ?_; intro gb469 hg w12 hbox hb; have BK469 := Aside0.mk (hbox); have GW469 : Aside0 (w.heap.size ≤ gb469) := WG hg (BB1 HB.out GE468.out); have GE469 := GW469; have NB468_469 := NL BK468.out hg; have NB469_468 := NG BK468.out hg; replace BK468 := Aside0.mk (KB BK468.out hb); replace HB := Aside0.mk (below_step (BB1 HB.out GE468.out) hb); clear hb hbox hg; have hnb13 := NB468_469.out; have hnc13 := NB469_468.out; have hcz14_0 : w12.cell? ⟨gb468, 0, none⟩ = some (.bool a0_0) := (blk_cell BK468.out 0).trans rfl; have hcz14_1 : w12.cell? ⟨gb468, 1, none⟩ = some (.slice A0_1 l0_1.length c0_1) := (blk_cell BK468.out 1).trans rfl; have hcz14_2 : w12.cell? ⟨gb468, 2, none⟩ = some (.int .i64 a0_2) := (blk_cell BK468.out 2).trans rfl; have hcz14_3 : w12.cell? ⟨gb468, 3, none⟩ = some (.int .i64 a0_3) := (blk_cell BK468.out 3).trans rfl; have hcz14_4 : w12.cell? ⟨gb468, 4, none⟩ = some (.slice A0_4 l0_4.length c0_4) := (blk_cell BK468.out 4).trans rfl; have hcz14_5 : w12.cell? ⟨gb468, 5, none⟩ = some (.slice A0_5 l0_5.length c0_5) := (blk_cell BK468.out 5).trans rfl; have hcz14_6 : w12.cell? ⟨gb468, 6, none⟩ = some (.int .i64 a0_6) := (blk_cell BK468.out 6).trans rfl; have hfz14_0 := blk_frozen BK468.out 0; have hfz14_1 := blk_frozen BK468.out 1; have hfz14_2 := blk_frozen BK468.out 2; have hfz14_3 := blk_frozen BK468.out 3; have hfz14_4 := blk_frozen BK468.out 4; have hfz14_5 := blk_frozen BK468.out 5; have hfz14_6 := blk_frozen BK468.out 6; have hcz15_0 : w12.cell? ⟨gb469, 0, none⟩ = some (.int .i64 a1_0) := (blk_cell BK469.out 0).trans rfl; have hcz15_1 : w12.cell? ⟨gb469, 1, none⟩ = some (.int .i64 a1_1) := (blk_cell BK469.out 1).trans rfl; have hcz15_2 : w12.cell? ⟨gb469, 2, none⟩ = some (.string a1_2) := (blk_cell BK469.out 2).trans rfl; have hcz15_3 : w12.cell? ⟨gb469, 3, none⟩ = some (.string a1_3) := (blk_cell BK469.out 3).trans rfl; have hcz15_4 : w12.cell? ⟨gb469, 4, none⟩ = some (.string a1_4) := (blk_cell BK469.out 4).trans rfl; have hcz15_5 : w12.cell? ⟨gb469, 5, none⟩ = some (.int .i64 a1_5) := (blk_cell BK469.out 5).trans rfl; have hfz15_0 := blk_frozen BK469.out 0; have hfz15_1 := blk_frozen BK469.out 1; have hfz15_2 := blk_frozen BK469.out 2; have hfz15_3 := blk_frozen BK469.out 3; have hfz15_4 := blk_frozen BK469.out 4; have hfz15_5 := blk_frozen BK469.out 5) | (go_at_call 78; (with_reducible refine (spec_HolderOf.calls k _ _ l0_5 a1_2 t470 _ ?side1 ?side2 A3.out).mono ?_); (case side1 => exact CC (Kd.C_below HR0_5.out HB.out)); (case side2 => exact HC0_5.out); rintro e w' ⟨rfl, ⟨nd, rfl⟩⟩; (try first | exact ⟨rfl, _, World.drewN_drewN _ _ _⟩ | exact ⟨rfl, _, Eq.trans (World.drewN_drewN _ _ _) (congrArg (World.drewN _) (Nat.add_assoc _ _ _))⟩)))
      repeat (go_quiet (first | ((with_reducible refine gate_dst (N := 2) rfl ?_); refine BX 2 #[.bool a0_0, .slice A0_1 l0_1.length c0_1, .int .i64 a0_2, .int .i64 a0_3, .slice A0_4 l0_4.length c0_4, .slice A0_5 l0_5.length c0_5, .int .i64 a0_6] 46 ?_; intro gb468 hg w11 hbox hb; have BK468 := Aside0.mk (hbox); have GW468 : Aside0 (w.heap.size ≤ gb468) := WG hg (BB HB.out); have GE468 := GW468; replace HB := Aside0.mk (below_step (BB HB.out) hb); clear hb hbox hg) | ((with_reducible refine gate_dst (N := 3) rfl ?_); refine BX 3 #[.int .i64 a1_0, .int .i64 a1_1, .string a1_2, .string a1_3, .string a1_4, .int .i64 a1_5] 72 ?_; intro gb469 hg w12 hbox hb; have BK469 := Aside0.mk (hbox); have GW469 : Aside0 (w.heap.size ≤ gb469) := WG hg (BB1 HB.out GE468.out); have GE469 := GW469; have NB468_469 := NL BK468.out hg; have NB469_468 := NG BK468.out hg; replace BK468 := Aside0.mk (KB BK468.out hb); replace HB := Aside0.mk (below_step (BB1 HB.out GE468.out) hb); clear hb hbox hg; have hnb13 := NB468_469.out; have hnc13 := NB469_468.out; have hcz14_0 : w12.cell? ⟨gb468, 0, none⟩ = some (.bool a0_0) := (blk_cell BK468.out 0).trans rfl; have hcz14_1 : w12.cell? ⟨gb468, 1, none⟩ = some (.slice A0_1 l0_1.length c0_1) := (blk_cell BK468.out 1).trans rfl; have hcz14_2 : w12.cell? ⟨gb468, 2, none⟩ = some (.int .i64 a0_2) := (blk_cell BK468.out 2).trans rfl; have hcz14_3 : w12.cell? ⟨gb468, 3, none⟩ = some (.int .i64 a0_3) := (blk_cell BK468.out 3).trans rfl; have hcz14_4 : w12.cell? ⟨gb468, 4, none⟩ = some (.slice A0_4 l0_4.length c0_4) := (blk_cell BK468.out 4).trans rfl; have hcz14_5 : w12.cell? ⟨gb468, 5, none⟩ = some (.slice A0_5 l0_5.length c0_5) := (blk_cell BK468.out 5).trans rfl; have hcz14_6 : w12.cell? ⟨gb468, 6, none⟩ = some (.int .i64 a0_6) := (blk_cell BK468.out 6).trans rfl; have hfz14_0 := blk_frozen BK468.out 0; have hfz14_1 := blk_frozen BK468.out 1; have hfz14_2 := blk_frozen BK468.out 2; have hfz14_3 := blk_frozen BK468.out 3; have hfz14_4 := blk_frozen BK468.out 4; have hfz14_5 := blk_frozen BK468.out 5; have hfz14_6 := blk_frozen BK468.out 6; have hcz15_0 : w12.cell? ⟨gb469, 0, none⟩ = some (.int .i64 a1_0) := (blk_cell BK469.out 0).trans rfl; have hcz15_1 : w12.cell? ⟨gb469, 1, none⟩ = some (.int .i64 a1_1) := (blk_cell BK469.out 1).trans rfl; have hcz15_2 : w12.cell? ⟨gb469, 2, none⟩ = some (.string a1_2) := (blk_cell BK469.out 2).trans rfl; have hcz15_3 : w12.cell? ⟨gb469, 3, none⟩ = some (.string a1_3) := (blk_cell BK469.out 3).trans rfl; have hcz15_4 : w12.cell? ⟨gb469, 4, none⟩ = some (.string a1_4) := (blk_cell BK469.out 4).trans rfl; have hcz15_5 : w12.cell? ⟨gb469, 5, none⟩ = some (.int .i64 a1_5) := (blk_cell BK469.out 5).trans rfl; have hfz15_0 := blk_frozen BK469.out 0; have hfz15_1 := blk_frozen BK469.out 1; have hfz15_2 := blk_frozen BK469.out 2; have hfz15_3 := blk_frozen BK469.out 3; have hfz15_4 := blk_frozen BK469.out 4; have hfz15_5 := blk_frozen BK469.out 5) | (go_at_call 78; (with_reducible refine (spec_HolderOf.calls k _ _ l0_5 a1_2 t470 _ ?side1 ?side2 A3.out).mono ?_); (case side1 => exact CC (Kd.C_below HR0_5.out HB.out)); (case side2 => exact HC0_5.out); rintro e w' ⟨rfl, ⟨nd, rfl⟩⟩; (try first | exact ⟨rfl, _, World.drewN_drewN _ _ _⟩ | exact ⟨rfl, _, Eq.trans (World.drewN_drewN _ _ _) (congrArg (World.drewN _) (Nat.add_assoc _ _ _))⟩))); try go_wp2_with (first | ((with_reducible refine gate_dst (N := 2) rfl ?_); refine BX 2 #[.bool a0_0, .slice A0_1 l0_1.length c0_1, .int .i64 a0_2, .int .i64 a0_3, .slice A0_4 l0_4.length c0_4, .slice A0_5 l0_5.length c0_5, .int .i64 a0_6] 46 ?_; intro gb468 hg w11 hbox hb; have BK468 := Aside0.mk (hbox); have GW468 : Aside0 (w.heap.size ≤ gb468) := WG hg (BB HB.out); have GE468 := GW468; replace HB := Aside0.mk (below_step (BB HB.out) hb); clear hb hbox hg) | ((with_reducible refine gate_dst (N := 3) rfl ?_); refine BX 3 #[.int .i64 a1_0, .int .i64 a1_1, .string a1_2, .string a1_3, .string a1_4, .int .i64 a1_5] 72 ?_; intro gb469 hg w12 hbox hb; have BK469 := Aside0.mk (hbox); have GW469 : Aside0 (w.heap.size ≤ gb469) := WG hg (BB1 HB.out GE468.out); have GE469 := GW469; have NB468_469 := NL BK468.out hg; have NB469_468 := NG BK468.out hg; replace BK468 := Aside0.mk (KB BK468.out hb); replace HB := Aside0.mk (below_step (BB1 HB.out GE468.out) hb); clear hb hbox hg; have hnb13 := NB468_469.out; have hnc13 := NB469_468.out; have hcz14_0 : w12.cell? ⟨gb468, 0, none⟩ = some (.bool a0_0) := (blk_cell BK468.out 0).trans rfl; have hcz14_1 : w12.cell? ⟨gb468, 1, none⟩ = some (.slice A0_1 l0_1.length c0_1) := (blk_cell BK468.out 1).trans rfl; have hcz14_2 : w12.cell? ⟨gb468, 2, none⟩ = some (.int .i64 a0_2) := (blk_cell BK468.out 2).trans rfl; have hcz14_3 : w12.cell? ⟨gb468, 3, none⟩ = some (.int .i64 a0_3) := (blk_cell BK468.out 3).trans rfl; have hcz14_4 : w12.cell? ⟨gb468, 4, none⟩ = some (.slice A0_4 l0_4.length c0_4) := (blk_cell BK468.out 4).trans rfl; have hcz14_5 : w12.cell? ⟨gb468, 5, none⟩ = some (.slice A0_5 l0_5.length c0_5) := (blk_cell BK468.out 5).trans rfl; have hcz14_6 : w12.cell? ⟨gb468, 6, none⟩ = some (.int .i64 a0_6) := (blk_cell BK468.out 6).trans rfl; have hfz14_0 := blk_frozen BK468.out 0; have hfz14_1 := blk_frozen BK468.out 1; have hfz14_2 := blk_frozen BK468.out 2; have hfz14_3 := blk_frozen BK468.out 3; have hfz14_4 := blk_frozen BK468.out 4; have hfz14_5 := blk_frozen BK468.out 5; have hfz14_6 := blk_frozen BK468.out 6; have hcz15_0 : w12.cell? ⟨gb469, 0, none⟩ = some (.int .i64 a1_0) := (blk_cell BK469.out 0).trans rfl; have hcz15_1 : w12.cell? ⟨gb469, 1, none⟩ = some (.int .i64 a1_1) := (blk_cell BK469.out 1).trans rfl; have hcz15_2 : w12.cell? ⟨gb469, 2, none⟩ = some (.string a1_2) := (blk_cell BK469.out 2).trans rfl; have hcz15_3 : w12.cell? ⟨gb469, 3, none⟩ = some (.string a1_3) := (blk_cell BK469.out 3).trans rfl; have hcz15_4 : w12.cell? ⟨gb469, 4, none⟩ = some (.string a1_4) := (blk_cell BK469.out 4).trans rfl; have hcz15_5 : w12.cell? ⟨gb469, 5, none⟩ = some (.int .i64 a1_5) := (blk_cell BK469.out 5).trans rfl; have hfz15_0 := blk_frozen BK469.out 0; have hfz15_1 := blk_frozen BK469.out 1; have hfz15_2 := blk_frozen BK469.out 2; have hfz15_3 := blk_frozen BK469.out 3; have hfz15_4 := blk_frozen BK469.out 4; have hfz15_5 := blk_frozen BK469.out 5) | (go_at_call 78; (with_reducible refine (spec_HolderOf.calls k _ _ l0_5 a1_2 t470 _ ?side1 ?side2 A3.out).mono ?_); (case side1 => exact CC (Kd.C_below HR0_5.out HB.out)); (case side2 => exact HC0_5.out); rintro e w' ⟨rfl, ⟨nd, rfl⟩⟩; (try first | exact ⟨rfl, _, World.drewN_drewN _ _ _⟩ | exact ⟨rfl, _, Eq.trans (World.drewN_drewN _ _ _) (congrArg (World.drewN _) (Nat.add_assoc _ _ _))⟩))))
      go_ret
      exact ⟨ER, (BB2 HB.out GE468.out GE469.out)⟩
  · rw [if_neg c4] at H
    have c4b0 : (a1_0 == 3) = false := beq_eq_false_iff_ne.mpr c4
    have c4b1 : (a1_0 != 3) = true := bne_iff_ne.mpr c4
    have HC16 := Aside0.mk H
    clear H
    go_enter Try.func37, Try.ntmps37
    go_upto_if 20 with (first | ((with_reducible refine gate_dst (N := 2) rfl ?_); refine BX 2 #[.bool a0_0, .slice A0_1 l0_1.length c0_1, .int .i64 a0_2, .int .i64 a0_3, .slice A0_4 l0_4.length c0_4, .slice A0_5 l0_5.length c0_5, .int .i64 a0_6] 46 ?_; intro gb468 hg w17 hbox hb; have BK468 := Aside0.mk (hbox); have GW468 : Aside0 (w.heap.size ≤ gb468) := WG hg (BB HB.out); have GE468 := GW468; replace HB := Aside0.mk (below_step (BB HB.out) hb); clear hb hbox hg) | ((with_reducible refine gate_dst (N := 3) rfl ?_); refine BX 3 #[.int .i64 a1_0, .int .i64 a1_1, .string a1_2, .string a1_3, .string a1_4, .int .i64 a1_5] 72 ?_; intro gb469 hg w18 hbox hb; have BK469 := Aside0.mk (hbox); have GW469 : Aside0 (w.heap.size ≤ gb469) := WG hg (BB1 HB.out GE468.out); have GE469 := GW469; have NB468_469 := NL BK468.out hg; have NB469_468 := NG BK468.out hg; replace BK468 := Aside0.mk (KB BK468.out hb); replace HB := Aside0.mk (below_step (BB1 HB.out GE468.out) hb); clear hb hbox hg; have hnb19 := NB468_469.out; have hnc19 := NB469_468.out; have hcz20_0 : w18.cell? ⟨gb468, 0, none⟩ = some (.bool a0_0) := (blk_cell BK468.out 0).trans rfl; have hcz20_1 : w18.cell? ⟨gb468, 1, none⟩ = some (.slice A0_1 l0_1.length c0_1) := (blk_cell BK468.out 1).trans rfl; have hcz20_2 : w18.cell? ⟨gb468, 2, none⟩ = some (.int .i64 a0_2) := (blk_cell BK468.out 2).trans rfl; have hcz20_3 : w18.cell? ⟨gb468, 3, none⟩ = some (.int .i64 a0_3) := (blk_cell BK468.out 3).trans rfl; have hcz20_4 : w18.cell? ⟨gb468, 4, none⟩ = some (.slice A0_4 l0_4.length c0_4) := (blk_cell BK468.out 4).trans rfl; have hcz20_5 : w18.cell? ⟨gb468, 5, none⟩ = some (.slice A0_5 l0_5.length c0_5) := (blk_cell BK468.out 5).trans rfl; have hcz20_6 : w18.cell? ⟨gb468, 6, none⟩ = some (.int .i64 a0_6) := (blk_cell BK468.out 6).trans rfl; have hfz20_0 := blk_frozen BK468.out 0; have hfz20_1 := blk_frozen BK468.out 1; have hfz20_2 := blk_frozen BK468.out 2; have hfz20_3 := blk_frozen BK468.out 3; have hfz20_4 := blk_frozen BK468.out 4; have hfz20_5 := blk_frozen BK468.out 5; have hfz20_6 := blk_frozen BK468.out 6; have hcz21_0 : w18.cell? ⟨gb469, 0, none⟩ = some (.int .i64 a1_0) := (blk_cell BK469.out 0).trans rfl; have hcz21_1 : w18.cell? ⟨gb469, 1, none⟩ = some (.int .i64 a1_1) := (blk_cell BK469.out 1).trans rfl; have hcz21_2 : w18.cell? ⟨gb469, 2, none⟩ = some (.string a1_2) := (blk_cell BK469.out 2).trans rfl; have hcz21_3 : w18.cell? ⟨gb469, 3, none⟩ = some (.string a1_3) := (blk_cell BK469.out 3).trans rfl; have hcz21_4 : w18.cell? ⟨gb469, 4, none⟩ = some (.string a1_4) := (blk_cell BK469.out 4).trans rfl; have hcz21_5 : w18.cell? ⟨gb469, 5, none⟩ = some (.int .i64 a1_5) := (blk_cell BK469.out 5).trans rfl; have hfz21_0 := blk_frozen BK469.out 0; have hfz21_1 := blk_frozen BK469.out 1; have hfz21_2 := blk_frozen BK469.out 2; have hfz21_3 := blk_frozen BK469.out 3; have hfz21_4 := blk_frozen BK469.out 4; have hfz21_5 := blk_frozen BK469.out 5) | (go_at_call 78; (with_reducible refine (spec_HolderOf.calls k _ _ l0_5 a1_2 t470 _ ?side1 ?side2 A3.out).mono ?_); (case side1 => exact CC (Kd.C_below HR0_5.out HB.out)); (case side2 => exact HC0_5.out); rintro e w' ⟨rfl, ⟨nd, rfl⟩⟩; (try first | exact ⟨rfl, _, World.drewN_drewN _ _ _⟩ | exact ⟨rfl, _, Eq.trans (World.drewN_drewN _ _ _) (congrArg (World.drewN _) (Nat.add_assoc _ _ _))⟩)))
    repeat (go_quiet (first | ((with_reducible refine gate_dst (N := 2) rfl ?_); refine BX 2 #[.bool a0_0, .slice A0_1 l0_1.length c0_1, .int .i64 a0_2, .int .i64 a0_3, .slice A0_4 l0_4.length c0_4, .slice A0_5 l0_5.length c0_5, .int .i64 a0_6] 46 ?_; intro gb468 hg w17 hbox hb; have BK468 := Aside0.mk (hbox); have GW468 : Aside0 (w.heap.size ≤ gb468) := WG hg (BB HB.out); have GE468 := GW468; replace HB := Aside0.mk (below_step (BB HB.out) hb); clear hb hbox hg) | ((with_reducible refine gate_dst (N := 3) rfl ?_); refine BX 3 #[.int .i64 a1_0, .int .i64 a1_1, .string a1_2, .string a1_3, .string a1_4, .int .i64 a1_5] 72 ?_; intro gb469 hg w18 hbox hb; have BK469 := Aside0.mk (hbox); have GW469 : Aside0 (w.heap.size ≤ gb469) := WG hg (BB1 HB.out GE468.out); have GE469 := GW469; have NB468_469 := NL BK468.out hg; have NB469_468 := NG BK468.out hg; replace BK468 := Aside0.mk (KB BK468.out hb); replace HB := Aside0.mk (below_step (BB1 HB.out GE468.out) hb); clear hb hbox hg; have hnb19 := NB468_469.out; have hnc19 := NB469_468.out; have hcz20_0 : w18.cell? ⟨gb468, 0, none⟩ = some (.bool a0_0) := (blk_cell BK468.out 0).trans rfl; have hcz20_1 : w18.cell? ⟨gb468, 1, none⟩ = some (.slice A0_1 l0_1.length c0_1) := (blk_cell BK468.out 1).trans rfl; have hcz20_2 : w18.cell? ⟨gb468, 2, none⟩ = some (.int .i64 a0_2) := (blk_cell BK468.out 2).trans rfl; have hcz20_3 : w18.cell? ⟨gb468, 3, none⟩ = some (.int .i64 a0_3) := (blk_cell BK468.out 3).trans rfl; have hcz20_4 : w18.cell? ⟨gb468, 4, none⟩ = some (.slice A0_4 l0_4.length c0_4) := (blk_cell BK468.out 4).trans rfl; have hcz20_5 : w18.cell? ⟨gb468, 5, none⟩ = some (.slice A0_5 l0_5.length c0_5) := (blk_cell BK468.out 5).trans rfl; have hcz20_6 : w18.cell? ⟨gb468, 6, none⟩ = some (.int .i64 a0_6) := (blk_cell BK468.out 6).trans rfl; have hfz20_0 := blk_frozen BK468.out 0; have hfz20_1 := blk_frozen BK468.out 1; have hfz20_2 := blk_frozen BK468.out 2; have hfz20_3 := blk_frozen BK468.out 3; have hfz20_4 := blk_frozen BK468.out 4; have hfz20_5 := blk_frozen BK468.out 5; have hfz20_6 := blk_frozen BK468.out 6; have hcz21_0 : w18.cell? ⟨gb469, 0, none⟩ = some (.int .i64 a1_0) := (blk_cell BK469.out 0).trans rfl; have hcz21_1 : w18.cell? ⟨gb469, 1, none⟩ = some (.int .i64 a1_1) := (blk_cell BK469.out 1).trans rfl; have hcz21_2 : w18.cell? ⟨gb469, 2, none⟩ = some (.string a1_2) := (blk_cell BK469.out 2).trans rfl; have hcz21_3 : w18.cell? ⟨gb469, 3, none⟩ = some (.string a1_3) := (blk_cell BK469.out 3).trans rfl; have hcz21_4 : w18.cell? ⟨gb469, 4, none⟩ = some (.string a1_4) := (blk_cell BK469.out 4).trans rfl; have hcz21_5 : w18.cell? ⟨gb469, 5, none⟩ = some (.int .i64 a1_5) := (blk_cell BK469.out 5).trans rfl; have hfz21_0 := blk_frozen BK469.out 0; have hfz21_1 := blk_frozen BK469.out 1; have hfz21_2 := blk_frozen BK469.out 2; have hfz21_3 := blk_frozen BK469.out 3; have hfz21_4 := blk_frozen BK469.out 4; have hfz21_5 := blk_frozen BK469.out 5) | (go_at_call 78; (with_reducible refine (spec_HolderOf.calls k _ _ l0_5 a1_2 t470 _ ?side1 ?side2 A3.out).mono ?_); (case side1 => exact CC (Kd.C_below HR0_5.out HB.out)); (case side2 => exact HC0_5.out); rintro e w' ⟨rfl, ⟨nd, rfl⟩⟩; (try first | exact ⟨rfl, _, World.drewN_drewN _ _ _⟩ | exact ⟨rfl, _, Eq.trans (World.drewN_drewN _ _ _) (congrArg (World.drewN _) (Nat.add_assoc _ _ _))⟩))); go_upto_if 20 with (first | ((with_reducible refine gate_dst (N := 2) rfl ?_); refine BX 2 #[.bool a0_0, .slice A0_1 l0_1.length c0_1, .int .i64 a0_2, .int .i64 a0_3, .slice A0_4 l0_4.length c0_4, .slice A0_5 l0_5.length c0_5, .int .i64 a0_6] 46 ?_; intro gb468 hg w17 hbox hb; have BK468 := Aside0.mk (hbox); have GW468 : Aside0 (w.heap.size ≤ gb468) := WG hg (BB HB.out); have GE468 := GW468; replace HB := Aside0.mk (below_step (BB HB.out) hb); clear hb hbox hg) | ((with_reducible refine gate_dst (N := 3) rfl ?_); refine BX 3 #[.int .i64 a1_0, .int .i64 a1_1, .string a1_2, .string a1_3, .string a1_4, .int .i64 a1_5] 72 ?_; intro gb469 hg w18 hbox hb; have BK469 := Aside0.mk (hbox); have GW469 : Aside0 (w.heap.size ≤ gb469) := WG hg (BB1 HB.out GE468.out); have GE469 := GW469; have NB468_469 := NL BK468.out hg; have NB469_468 := NG BK468.out hg; replace BK468 := Aside0.mk (KB BK468.out hb); replace HB := Aside0.mk (below_step (BB1 HB.out GE468.out) hb); clear hb hbox hg; have hnb19 := NB468_469.out; have hnc19 := NB469_468.out; have hcz20_0 : w18.cell? ⟨gb468, 0, none⟩ = some (.bool a0_0) := (blk_cell BK468.out 0).trans rfl; have hcz20_1 : w18.cell? ⟨gb468, 1, none⟩ = some (.slice A0_1 l0_1.length c0_1) := (blk_cell BK468.out 1).trans rfl; have hcz20_2 : w18.cell? ⟨gb468, 2, none⟩ = some (.int .i64 a0_2) := (blk_cell BK468.out 2).trans rfl; have hcz20_3 : w18.cell? ⟨gb468, 3, none⟩ = some (.int .i64 a0_3) := (blk_cell BK468.out 3).trans rfl; have hcz20_4 : w18.cell? ⟨gb468, 4, none⟩ = some (.slice A0_4 l0_4.length c0_4) := (blk_cell BK468.out 4).trans rfl; have hcz20_5 : w18.cell? ⟨gb468, 5, none⟩ = some (.slice A0_5 l0_5.length c0_5) := (blk_cell BK468.out 5).trans rfl; have hcz20_6 : w18.cell? ⟨gb468, 6, none⟩ = some (.int .i64 a0_6) := (blk_cell BK468.out 6).trans rfl; have hfz20_0 := blk_frozen BK468.out 0; have hfz20_1 := blk_frozen BK468.out 1; have hfz20_2 := blk_frozen BK468.out 2; have hfz20_3 := blk_frozen BK468.out 3; have hfz20_4 := blk_frozen BK468.out 4; have hfz20_5 := blk_frozen BK468.out 5; have hfz20_6 := blk_frozen BK468.out 6; have hcz21_0 : w18.cell? ⟨gb469, 0, none⟩ = some (.int .i64 a1_0) := (blk_cell BK469.out 0).trans rfl; have hcz21_1 : w18.cell? ⟨gb469, 1, none⟩ = some (.int .i64 a1_1) := (blk_cell BK469.out 1).trans rfl; have hcz21_2 : w18.cell? ⟨gb469, 2, none⟩ = some (.string a1_2) := (blk_cell BK469.out 2).trans rfl; have hcz21_3 : w18.cell? ⟨gb469, 3, none⟩ = some (.string a1_3) := (blk_cell BK469.out 3).trans rfl; have hcz21_4 : w18.cell? ⟨gb469, 4, none⟩ = some (.string a1_4) := (blk_cell BK469.out 4).trans rfl; have hcz21_5 : w18.cell? ⟨gb469, 5, none⟩ = some (.int .i64 a1_5) := (blk_cell BK469.out 5).trans rfl; have hfz21_0 := blk_frozen BK469.out 0; have hfz21_1 := blk_frozen BK469.out 1; have hfz21_2 := blk_frozen BK469.out 2; have hfz21_3 := blk_frozen BK469.out 3; have hfz21_4 := blk_frozen BK469.out 4; have hfz21_5 := blk_frozen BK469.out 5) | (go_at_call 78; (with_reducible refine (spec_HolderOf.calls k _ _ l0_5 a1_2 t470 _ ?side1 ?side2 A3.out).mono ?_); (case side1 => exact CC (Kd.C_below HR0_5.out HB.out)); (case side2 => exact HC0_5.out); rintro e w' ⟨rfl, ⟨nd, rfl⟩⟩; (try first | exact ⟨rfl, _, World.drewN_drewN _ _ _⟩ | exact ⟨rfl, _, Eq.trans (World.drewN_drewN _ _ _) (congrArg (World.drewN _) (Nat.add_assoc _ _ _))⟩))))
    (try simp only [Act.put, List.setIfInBounds_toArray, List.set_cons_zero, List.set_cons_succ])
    go_cut [20] (fun v20 wc => ∃ (kq : Nat) (x20_15 : Bool), v20 = .bool x20_15 ∧ Aside0 (spec_MayWrite.j0 kq t470 a1_0 x20_15 a0_0 l0_1 a0_2 a0_3 l0_4 l0_5 a0_6 a1_0 a1_1 a1_2 a1_3 a1_4 a1_5 = some r) ∧ Aside0 (kq ≤ k) ∧ Aside0 (wc.heap[gb468]? = some (.cells #[.bool a0_0, (.slice A0_1 l0_1.length c0_1), .int .i64 a0_2, .int .i64 a0_3, (.slice A0_4 l0_4.length c0_4), (.slice A0_5 l0_5.length c0_5), .int .i64 a0_6] 46 (0, 0))) ∧ Aside0 (wc.heap[gb469]? = some (.cells #[.int .i64 a1_0, .int .i64 a1_1, .string a1_2, .string a1_3, .string a1_4, .int .i64 a1_5] 72 (0, 0))) ∧ Aside0 (Below w.heap.size w wc))
    case first =>
      have H := HC16.out
      clear HC16
      by_cases c22 : a1_0 = 4
      · rw [if_pos c22] at H
        have c22b0 : (a1_0 == 4) = true := beq_iff_eq.mpr c22
        have c22b1 : (a1_0 != 4) = false := bne_eq_false_iff_eq.mpr c22
        clear c22
        (first | rw [c22b0] | (simp only [i64_w, i32_w]; rw [c22b0]) | skip)
        have H' := Aside0.mk H
        clear H
        go_wp2
        repeat (go_quiet (fail); try go_wp2)
        go_meet
        case rel => exact ⟨_, ((a1_0 == 4)), FR, H', ⟨by first | omega | exact Nat.le_refl _⟩, ⟨by (with_reducible repeat (first | refine blk_drewN ?_ _ | refine blk_drew ?_ | refine blk_alloc ?_ _)); exact BK468.out⟩, ⟨by (with_reducible repeat (first | refine blk_drewN ?_ _ | refine blk_drew ?_ | refine blk_alloc ?_ _)); exact BK469.out⟩, ⟨(BB2 HB.out GE468.out GE469.out)⟩⟩
      · rw [if_neg c22] at H
        have c22b0 : (a1_0 == 4) = false := beq_eq_false_iff_ne.mpr c22
        have c22b1 : (a1_0 != 4) = true := bne_iff_ne.mpr c22
        (first | rw [c22b0] | (simp only [i64_w, i32_w]; rw [c22b0]) | skip)
        have H' := Aside0.mk H
        clear H
        go_wp2
        repeat (go_quiet (fail); try go_wp2)
        go_meet
        case rel => exact ⟨_, ((a1_0 == 10)), FR, H', ⟨by first | omega | exact Nat.le_refl _⟩, ⟨by (with_reducible repeat (first | refine blk_drewN ?_ _ | refine blk_drew ?_ | refine blk_alloc ?_ _)); exact BK468.out⟩, ⟨by (with_reducible repeat (first | refine blk_drewN ?_ _ | refine blk_drew ?_ | refine blk_alloc ?_ _)); exact BK469.out⟩, ⟨(BB2 HB.out GE468.out GE469.out)⟩⟩
    case rest =>
      clear HC16
      try clear c1
      try clear c2
      try clear p2
      try clear c3
      try clear c4
      try clear c4b0
      try clear c4b1
      try clear c5
      try clear c5b0
      try clear c5b1
      try clear c8
      try clear c13
      try clear c19
      try clear c22
      try clear c22b0
      try clear c22b1
      try clear hcz10_0
      try clear hcz10_1
      try clear hcz10_2
      try clear hcz10_3
      try clear hcz10_4
      try clear hcz10_5
      try clear hcz14_0
      try clear hcz14_1
      try clear hcz14_2
      try clear hcz14_3
      try clear hcz14_4
      try clear hcz14_5
      try clear hcz14_6
      try clear hcz15_0
      try clear hcz15_1
      try clear hcz15_2
      try clear hcz15_3
      try clear hcz15_4
      try clear hcz15_5
      try clear hcz20_0
      try clear hcz20_1
      try clear hcz20_2
      try clear hcz20_3
      try clear hcz20_4
      try clear hcz20_5
      try clear hcz20_6
      try clear hcz21_0
      try clear hcz21_1
      try clear hcz21_2
      try clear hcz21_3
      try clear hcz21_4
      try clear hcz21_5
      try clear hcz9_0
      try clear hcz9_1
      try clear hcz9_2
      try clear hcz9_3
      try clear hcz9_4
      try clear hcz9_5
      try clear hcz9_6
      try clear hfz10_0
      try clear hfz10_1
      try clear hfz10_2
      try clear hfz10_3
      try clear hfz10_4
      try clear hfz10_5
      try clear hfz14_0
      try clear hfz14_1
      try clear hfz14_2
      try clear hfz14_3
      try clear hfz14_4
      try clear hfz14_5
      try clear hfz14_6
      try clear hfz15_0
      try clear hfz15_1
      try clear hfz15_2
      try clear hfz15_3
      try clear hfz15_4
      try clear hfz15_5
      try clear hfz20_0
      try clear hfz20_1
      try clear hfz20_2
      try clear hfz20_3
      try clear hfz20_4
      try clear hfz20_5
      try clear hfz20_6
      try clear hfz21_0
      try clear hfz21_1
      try clear hfz21_2
      try clear hfz21_3
      try clear hfz21_4
      try clear hfz21_5
      try clear hfz9_0
      try clear hfz9_1
      try clear hfz9_2
      try clear hfz9_3
      try clear hfz9_4
      try clear hfz9_5
      try clear hfz9_6
      obtain ⟨kq, x20_15, rfl, HA, HJ15, BK468, BK469, HB⟩ := hcut
      cases kq with
      | zero => exact absurd HA.out (by simp [spec_MayWrite.j0])
      | succ kj15 =>
        have H := HA.out
        clear HA
        simp only [spec_MayWrite.j0] at H
        by_cases c23 : x20_15 = true
        · subst c23
          have H1 : (if t470 = 0 then (some 0) else (if t470 = a1_1 then (some 0) else (some 6))) = some r := by rw [if_pos rfl] at H; exact H
          clear H
          have H := H1
          clear H1
          by_cases c24 : t470 = 0
          · rw [if_pos c24] at H
            have c24b0 : (t470 == 0) = true := beq_iff_eq.mpr c24
            have c24b1 : (t470 != 0) = false := bne_eq_false_iff_eq.mpr c24
            clear c24
            obtain rfl := Option.some.inj H
            go_wp2
            repeat (go_quiet (fail); try go_wp2)
            go_ret
            exact ⟨ER, (BB2 HB.out GE468.out GE469.out)⟩
          · rw [if_neg c24] at H
            have c24b0 : (t470 == 0) = false := beq_eq_false_iff_ne.mpr c24
            have c24b1 : (t470 != 0) = true := bne_iff_ne.mpr c24
            by_cases c25 : t470 = a1_1
            · rw [if_pos c25] at H
              have c25b0 : (t470 == a1_1) = true := beq_iff_eq.mpr c25
              have c25b1 : (t470 != a1_1) = false := bne_eq_false_iff_eq.mpr c25
              clear c25
              obtain rfl := Option.some.inj H
              have hnb26 := NB469_468.out
              have hnc26 := NB468_469.out
              have hcz27_0 : wc.cell? ⟨gb469, 0, none⟩ = some (.int .i64 a1_0) := (blk_cell BK469.out 0).trans rfl
              have hcz27_1 : wc.cell? ⟨gb469, 1, none⟩ = some (.int .i64 a1_1) := (blk_cell BK469.out 1).trans rfl
              have hcz27_2 : wc.cell? ⟨gb469, 2, none⟩ = some (.string a1_2) := (blk_cell BK469.out 2).trans rfl
              have hcz27_3 : wc.cell? ⟨gb469, 3, none⟩ = some (.string a1_3) := (blk_cell BK469.out 3).trans rfl
              have hcz27_4 : wc.cell? ⟨gb469, 4, none⟩ = some (.string a1_4) := (blk_cell BK469.out 4).trans rfl
              have hcz27_5 : wc.cell? ⟨gb469, 5, none⟩ = some (.int .i64 a1_5) := (blk_cell BK469.out 5).trans rfl
              have hfz27_0 := blk_frozen BK469.out 0
              have hfz27_1 := blk_frozen BK469.out 1
              have hfz27_2 := blk_frozen BK469.out 2
              have hfz27_3 := blk_frozen BK469.out 3
              have hfz27_4 := blk_frozen BK469.out 4
              have hfz27_5 := blk_frozen BK469.out 5
              go_wp2
              repeat (go_quiet (fail); try go_wp2)
              go_ret
              exact ⟨ER, (BB2 HB.out GE468.out GE469.out)⟩
            · rw [if_neg c25] at H
              have c25b0 : (t470 == a1_1) = false := beq_eq_false_iff_ne.mpr c25
              have c25b1 : (t470 != a1_1) = true := bne_iff_ne.mpr c25
              obtain rfl := Option.some.inj H
              have hnb28 := NB469_468.out
              have hnc28 := NB468_469.out
              have hcz29_0 : wc.cell? ⟨gb469, 0, none⟩ = some (.int .i64 a1_0) := (blk_cell BK469.out 0).trans rfl
              have hcz29_1 : wc.cell? ⟨gb469, 1, none⟩ = some (.int .i64 a1_1) := (blk_cell BK469.out 1).trans rfl
              have hcz29_2 : wc.cell? ⟨gb469, 2, none⟩ = some (.string a1_2) := (blk_cell BK469.out 2).trans rfl
              have hcz29_3 : wc.cell? ⟨gb469, 3, none⟩ = some (.string a1_3) := (blk_cell BK469.out 3).trans rfl
              have hcz29_4 : wc.cell? ⟨gb469, 4, none⟩ = some (.string a1_4) := (blk_cell BK469.out 4).trans rfl
              have hcz29_5 : wc.cell? ⟨gb469, 5, none⟩ = some (.int .i64 a1_5) := (blk_cell BK469.out 5).trans rfl
              have hfz29_0 := blk_frozen BK469.out 0
              have hfz29_1 := blk_frozen BK469.out 1
              have hfz29_2 := blk_frozen BK469.out 2
              have hfz29_3 := blk_frozen BK469.out 3
              have hfz29_4 := blk_frozen BK469.out 4
              have hfz29_5 := blk_frozen BK469.out 5
              go_wp2
              repeat (go_quiet (fail); try go_wp2)
              go_ret
              exact ⟨ER, (BB2 HB.out GE468.out GE469.out)⟩
        · replace c23 := Bool.eq_false_iff.mpr c23
          subst c23
          have H1 : (if a1_0 = 5 then (spec_MayWrite.j1 kj15 (a1_0 == 5) a0_0 l0_1 a0_2 a0_3 l0_4 l0_5 a0_6 a1_0 a1_1 a1_2 a1_3 a1_4 a1_5) else (spec_MayWrite.j1 kj15 (a1_0 == 6) a0_0 l0_1 a0_2 a0_3 l0_4 l0_5 a0_6 a1_0 a1_1 a1_2 a1_3 a1_4 a1_5)) = some r := by rw [if_neg (show ¬ (false = true) by decide)] at H; exact H
          clear H
          have H := H1
          clear H1
          have HC30 := Aside0.mk H
          clear H
          go_upto_if 31 with (fail)
          repeat (go_quiet (fail); go_upto_if 31 with (fail))
          go_cut [31] (fun v31 wc => ∃ (kq : Nat) (x31_29 : Bool), v31 = .bool x31_29 ∧ Aside0 (spec_MayWrite.j1 kq x31_29 a0_0 l0_1 a0_2 a0_3 l0_4 l0_5 a0_6 a1_0 a1_1 a1_2 a1_3 a1_4 a1_5 = some r) ∧ Aside0 (kq ≤ kj15) ∧ Aside0 (wc.heap[gb468]? = some (.cells #[.bool a0_0, (.slice A0_1 l0_1.length c0_1), .int .i64 a0_2, .int .i64 a0_3, (.slice A0_4 l0_4.length c0_4), (.slice A0_5 l0_5.length c0_5), .int .i64 a0_6] 46 (0, 0))) ∧ Aside0 (wc.heap[gb469]? = some (.cells #[.int .i64 a1_0, .int .i64 a1_1, .string a1_2, .string a1_3, .string a1_4, .int .i64 a1_5] 72 (0, 0))) ∧ Aside0 (Below w.heap.size w wc))
          case first =>
            have H := HC30.out
            clear HC30
            by_cases c31 : a1_0 = 5
            · rw [if_pos c31] at H
              have c31b0 : (a1_0 == 5) = true := beq_iff_eq.mpr c31
              have c31b1 : (a1_0 != 5) = false := bne_eq_false_iff_eq.mpr c31
              clear c31
              (first | rw [c31b0] | (simp only [i64_w, i32_w]; rw [c31b0]) | skip)
              have H' := Aside0.mk H
              clear H
              go_wp2
              repeat (go_quiet (fail); try go_wp2)
              go_meet
              case rel => exact ⟨_, ((a1_0 == 5)), FR, H', ⟨by have := HJ15.out; first | omega | exact Nat.le_refl _⟩, ⟨by (with_reducible repeat (first | refine blk_drewN ?_ _ | refine blk_drew ?_ | refine blk_alloc ?_ _)); exact BK468.out⟩, ⟨by (with_reducible repeat (first | refine blk_drewN ?_ _ | refine blk_drew ?_ | refine blk_alloc ?_ _)); exact BK469.out⟩, ⟨(BB2 HB.out GE468.out GE469.out)⟩⟩
            · rw [if_neg c31] at H
              have c31b0 : (a1_0 == 5) = false := beq_eq_false_iff_ne.mpr c31
              have c31b1 : (a1_0 != 5) = true := bne_iff_ne.mpr c31
              (first | rw [c31b0] | (simp only [i64_w, i32_w]; rw [c31b0]) | skip)
              have H' := Aside0.mk H
              clear H
              go_wp2
              repeat (go_quiet (fail); try go_wp2)
              go_meet
              case rel => exact ⟨_, ((a1_0 == 6)), FR, H', ⟨by have := HJ15.out; first | omega | exact Nat.le_refl _⟩, ⟨by (with_reducible repeat (first | refine blk_drewN ?_ _ | refine blk_drew ?_ | refine blk_alloc ?_ _)); exact BK468.out⟩, ⟨by (with_reducible repeat (first | refine blk_drewN ?_ _ | refine blk_drew ?_ | refine blk_alloc ?_ _)); exact BK469.out⟩, ⟨(BB2 HB.out GE468.out GE469.out)⟩⟩
          case rest =>
            clear HC30
            try clear c1
            try clear c2
            try clear p2
            try clear c3
            try clear c4
            try clear c4b0
            try clear c4b1
            try clear c5
            try clear c5b0
            try clear c5b1
            try clear c8
            try clear c13
            try clear c19
            try clear c22
            try clear c22b0
            try clear c22b1
            try clear c23
            try clear c24
            try clear c24b0
            try clear c24b1
            try clear c25
            try clear c25b0
            try clear c25b1
            try clear c26
            try clear c28
            try clear c31
            try clear c31b0
            try clear c31b1
            try clear hcz10_0
            try clear hcz10_1
            try clear hcz10_2
            try clear hcz10_3
            try clear hcz10_4
            try clear hcz10_5
            try clear hcz14_0
            try clear hcz14_1
            try clear hcz14_2
            try clear hcz14_3
            try clear hcz14_4
            try clear hcz14_5
            try clear hcz14_6
            try clear hcz15_0
            try clear hcz15_1
            try clear hcz15_2
            try clear hcz15_3
            try clear hcz15_4
            try clear hcz15_5
            try clear hcz20_0
            try clear hcz20_1
            try clear hcz20_2
            try clear hcz20_3
            try clear hcz20_4
            try clear hcz20_5
            try clear hcz20_6
            try clear hcz21_0
            try clear hcz21_1
            try clear hcz21_2
            try clear hcz21_3
            try clear hcz21_4
            try clear hcz21_5
            try clear hcz27_0
            try clear hcz27_1
            try clear hcz27_2
            try clear hcz27_3
            try clear hcz27_4
            try clear hcz27_5
            try clear hcz29_0
            try clear hcz29_1
            try clear hcz29_2
            try clear hcz29_3
            try clear hcz29_4
            try clear hcz29_5
            try clear hcz9_0
            try clear hcz9_1
            try clear hcz9_2
            try clear hcz9_3
            try clear hcz9_4
            try clear hcz9_5
            try clear hcz9_6
            try clear hfz10_0
            try clear hfz10_1
            try clear hfz10_2
            try clear hfz10_3
            try clear hfz10_4
            try clear hfz10_5
            try clear hfz14_0
            try clear hfz14_1
            try clear hfz14_2
            try clear hfz14_3
            try clear hfz14_4
            try clear hfz14_5
            try clear hfz14_6
            try clear hfz15_0
            try clear hfz15_1
            try clear hfz15_2
            try clear hfz15_3
            try clear hfz15_4
            try clear hfz15_5
            try clear hfz20_0
            try clear hfz20_1
            try clear hfz20_2
            try clear hfz20_3
            try clear hfz20_4
            try clear hfz20_5
            try clear hfz20_6
            try clear hfz21_0
            try clear hfz21_1
            try clear hfz21_2
            try clear hfz21_3
            try clear hfz21_4
            try clear hfz21_5
            try clear hfz27_0
            try clear hfz27_1
            try clear hfz27_2
            try clear hfz27_3
            try clear hfz27_4
            try clear hfz27_5
            try clear hfz29_0
            try clear hfz29_1
            try clear hfz29_2
            try clear hfz29_3
            try clear hfz29_4
            try clear hfz29_5
            try clear hfz9_0
            try clear hfz9_1
            try clear hfz9_2
            try clear hfz9_3
            try clear hfz9_4
            try clear hfz9_5
            try clear hfz9_6
            try clear p2
            obtain ⟨kq, x31_29, rfl, HA, HJ29, BK468, BK469, HB⟩ := hcut
            cases kq with
            | zero => exact absurd HA.out (by simp [spec_MayWrite.j1])
            | succ kj29 =>
              have H := HA.out
              clear HA
              simp only [spec_MayWrite.j1] at H
              by_cases c32 : x31_29 = true
              · subst c32
                have H1 : (spec_MayWrite.l0 kj29 0 a0_0 l0_1 a0_2 a0_3 l0_4 l0_5 a0_6 a1_0 a1_1 a1_2 a1_3 a1_4 a1_5) = some r := by rw [if_pos rfl] at H; exact H
                clear H
                have H := H1
                clear H1
                have H' := Aside0.mk H
                clear H
                go_wp2
                repeat (go_quiet (fail); try go_wp2)
                go_loopg [6] kj29 (fun kq v6 w' => ∃ (x6_3 : Int), v6 = .int .i64 x6_3 ∧ Aside0 (spec_MayWrite.l0 kq x6_3 a0_0 l0_1 a0_2 a0_3 l0_4 l0_5 a0_6 a1_0 a1_1 a1_2 a1_3 a1_4 a1_5 = some r) ∧ Aside0 (kq ≤ kj29) ∧ Aside0 (w'.heap[gb468]? = some (.cells #[.bool a0_0, (.slice A0_1 l0_1.length c0_1), .int .i64 a0_2, .int .i64 a0_3, (.slice A0_4 l0_4.length c0_4), (.slice A0_5 l0_5.length c0_5), .int .i64 a0_6] 46 (0, 0))) ∧ Aside0 (w'.heap[gb469]? = some (.cells #[.int .i64 a1_0, .int .i64 a1_1, .string a1_2, .string a1_3, .string a1_4, .int .i64 a1_5] 72 (0, 0))) ∧ Aside0 (Below w.heap.size w w'))
                case atStart => exact ⟨(0), FR, H', ⟨Nat.le_refl _⟩, ⟨by (with_reducible repeat (first | refine blk_drewN ?_ _ | refine blk_drew ?_ | refine blk_alloc ?_ _)); exact BK468.out⟩, ⟨by (with_reducible repeat (first | refine blk_drewN ?_ _ | refine blk_drew ?_ | refine blk_alloc ?_ _)); exact BK469.out⟩, ⟨(BB2 HB.out GE468.out GE469.out)⟩⟩
                case round =>
                  clear H'
                  try clear c1
                  try clear c2
                  try clear p2
                  try clear c3
                  try clear c4
                  try clear c4b0
                  try clear c4b1
                  try clear c5
                  try clear c5b0
                  try clear c5b1
                  try clear c8
                  try clear c13
                  try clear c19
                  try clear c22
                  try clear c22b0
                  try clear c22b1
                  try clear c23
                  try clear c24
                  try clear c24b0
                  try clear c24b1
                  try clear c25
                  try clear c25b0
                  try clear c25b1
                  try clear c26
                  try clear c28
                  try clear c31
                  try clear c31b0
                  try clear c31b1
                  try clear c32
                  try clear hcz10_0
                  try clear hcz10_1
                  try clear hcz10_2
                  try clear hcz10_3
                  try clear hcz10_4
                  try clear hcz10_5
                  try clear hcz14_0
                  try clear hcz14_1
                  try clear hcz14_2
                  try clear hcz14_3
                  try clear hcz14_4
                  try clear hcz14_5
                  try clear hcz14_6
                  try clear hcz15_0
                  try clear hcz15_1
                  try clear hcz15_2
                  try clear hcz15_3
                  try clear hcz15_4
                  try clear hcz15_5
                  try clear hcz20_0
                  try clear hcz20_1
                  try clear hcz20_2
                  try clear hcz20_3
                  try clear hcz20_4
                  try clear hcz20_5
                  try clear hcz20_6
                  try clear hcz21_0
                  try clear hcz21_1
                  try clear hcz21_2
                  try clear hcz21_3
                  try clear hcz21_4
                  try clear hcz21_5
                  try clear hcz27_0
                  try clear hcz27_1
                  try clear hcz27_2
                  try clear hcz27_3
                  try clear hcz27_4
                  try clear hcz27_5
                  try clear hcz29_0
                  try clear hcz29_1
                  try clear hcz29_2
                  try clear hcz29_3
                  try clear hcz29_4
                  try clear hcz29_5
                  try clear hcz9_0
                  try clear hcz9_1
                  try clear hcz9_2
                  try clear hcz9_3
                  try clear hcz9_4
                  try clear hcz9_5
                  try clear hcz9_6
                  try clear hfz10_0
                  try clear hfz10_1
                  try clear hfz10_2
                  try clear hfz10_3
                  try clear hfz10_4
                  try clear hfz10_5
                  try clear hfz14_0
                  try clear hfz14_1
                  try clear hfz14_2
                  try clear hfz14_3
                  try clear hfz14_4
                  try clear hfz14_5
                  try clear hfz14_6
                  try clear hfz15_0
                  try clear hfz15_1
                  try clear hfz15_2
                  try clear hfz15_3
                  try clear hfz15_4
                  try clear hfz15_5
                  try clear hfz20_0
                  try clear hfz20_1
                  try clear hfz20_2
                  try clear hfz20_3
                  try clear hfz20_4
                  try clear hfz20_5
                  try clear hfz20_6
                  try clear hfz21_0
                  try clear hfz21_1
                  try clear hfz21_2
                  try clear hfz21_3
                  try clear hfz21_4
                  try clear hfz21_5
                  try clear hfz27_0
                  try clear hfz27_1
                  try clear hfz27_2
                  try clear hfz27_3
                  try clear hfz27_4
                  try clear hfz27_5
                  try clear hfz29_0
                  try clear hfz29_1
                  try clear hfz29_2
                  try clear hfz29_3
                  try clear hfz29_4
                  try clear hfz29_5
                  try clear hfz9_0
                  try clear hfz9_1
                  try clear hfz9_2
                  try clear hfz9_3
                  try clear hfz9_4
                  try clear hfz9_5
                  try clear hfz9_6
                  try clear p2
                  obtain ⟨x6_3, rfl, HA, HK3, BK468, BK469, HB⟩ := hrel
                  cases gk with
                  | zero => exact absurd HA.out (by simp [spec_MayWrite.l0])
                  | succ k3 =>
                    have H := HA.out
                    clear HA
                    simp only [spec_MayWrite.l0] at H
                    by_cases c33 : x6_3 < (l0_5.length : Int)
                    · rw [if_pos c33] at H
                      have c33b0 : decide (x6_3 < (l0_5.length : Int)) = true := decide_eq_true c33
                      clear c33
                      by_cases c34 : 0 ≤ x6_3
                      · rw [if_pos c34] at H
                        have c34b0 : decide (0 ≤ x6_3) = true := decide_eq_true c34
                        clear c34
                        by_cases c35 : ((rd_T120 l0_5 x6_3).f1) = a1_1
                        · rw [if_pos c35] at H
                          have c35b0 : (((rd_T120 l0_5 x6_3).f1) == a1_1) = true := beq_iff_eq.mpr c35
                          have c35b1 : (((rd_T120 l0_5 x6_3).f1) != a1_1) = false := bne_eq_false_iff_eq.mpr c35
                          clear c35
                          have H' := Aside0.mk H
                          clear H
                          have hnb36 := NB468_469.out
                          have hnc36 := NB469_468.out
                          have hcz37_0 : wr.cell? ⟨gb468, 0, none⟩ = some (.bool a0_0) := (blk_cell BK468.out 0).trans rfl
                          have hcz37_1 : wr.cell? ⟨gb468, 1, none⟩ = some (.slice A0_1 l0_1.length c0_1) := (blk_cell BK468.out 1).trans rfl
                          have hcz37_2 : wr.cell? ⟨gb468, 2, none⟩ = some (.int .i64 a0_2) := (blk_cell BK468.out 2).trans rfl
                          have hcz37_3 : wr.cell? ⟨gb468, 3, none⟩ = some (.int .i64 a0_3) := (blk_cell BK468.out 3).trans rfl
                          have hcz37_4 : wr.cell? ⟨gb468, 4, none⟩ = some (.slice A0_4 l0_4.length c0_4) := (blk_cell BK468.out 4).trans rfl
                          have hcz37_5 : wr.cell? ⟨gb468, 5, none⟩ = some (.slice A0_5 l0_5.length c0_5) := (blk_cell BK468.out 5).trans rfl
                          have hcz37_6 : wr.cell? ⟨gb468, 6, none⟩ = some (.int .i64 a0_6) := (blk_cell BK468.out 6).trans rfl
                          have hfz37_0 := blk_frozen BK468.out 0
                          have hfz37_1 := blk_frozen BK468.out 1
                          have hfz37_2 := blk_frozen BK468.out 2
                          have hfz37_3 := blk_frozen BK468.out 3
                          have hfz37_4 := blk_frozen BK468.out 4
                          have hfz37_5 := blk_frozen BK468.out 5
                          have hfz37_6 := blk_frozen BK468.out 6
                          have p471 : 0 ≤ (x6_3 : Int) := DT
                          have q471 : x6_3 < (l0_5.length : Int) := DT
                          obtain ⟨ad471, e471, hx471_0, hx471_1, hx471_2⟩ := at_T120 HR0_5.out x6_3 p471 q471
                          cases e471
                          replace hx471_0 := (HB.out.cell (World.block_lt_of_cell? w _ hx471_0)).trans hx471_0
                          replace hx471_1 := (HB.out.cell (World.block_lt_of_cell? w _ hx471_1)).trans hx471_1
                          replace hx471_2 := (HB.out.cell (World.block_lt_of_cell? w _ hx471_2)).trans hx471_2
                          replace p471 := eq_true p471
                          replace q471 := eq_true q471
                          have hcz38_0 : wr.cell? ⟨gb469, 0, none⟩ = some (.int .i64 a1_0) := (blk_cell BK469.out 0).trans rfl
                          have hcz38_1 : wr.cell? ⟨gb469, 1, none⟩ = some (.int .i64 a1_1) := (blk_cell BK469.out 1).trans rfl
                          have hcz38_2 : wr.cell? ⟨gb469, 2, none⟩ = some (.string a1_2) := (blk_cell BK469.out 2).trans rfl
                          have hcz38_3 : wr.cell? ⟨gb469, 3, none⟩ = some (.string a1_3) := (blk_cell BK469.out 3).trans rfl
                          have hcz38_4 : wr.cell? ⟨gb469, 4, none⟩ = some (.string a1_4) := (blk_cell BK469.out 4).trans rfl
                          have hcz38_5 : wr.cell? ⟨gb469, 5, none⟩ = some (.int .i64 a1_5) := (blk_cell BK469.out 5).trans rfl
                          have hfz38_0 := blk_frozen BK469.out 0
                          have hfz38_1 := blk_frozen BK469.out 1
                          have hfz38_2 := blk_frozen BK469.out 2
                          have hfz38_3 := blk_frozen BK469.out 3
                          have hfz38_4 := blk_frozen BK469.out 4
                          have hfz38_5 := blk_frozen BK469.out 5
                          go_wp2
                          repeat (go_quiet (fail); try go_wp2)
                          go_roundg k3
                          case measure => have := HJ15.out; have := HJ29.out; have := HK3.out; omega
                          case rel => exact ⟨(wrap64 (x6_3 + 1)), FR, H', ⟨by have := HJ15.out; have := HJ29.out; have := HK3.out; omega⟩, ⟨by (with_reducible repeat (first | refine blk_drewN ?_ _ | refine blk_drew ?_ | refine blk_alloc ?_ _)); exact BK468.out⟩, ⟨by (with_reducible repeat (first | refine blk_drewN ?_ _ | refine blk_drew ?_ | refine blk_alloc ?_ _)); exact BK469.out⟩, ⟨(BB2 HB.out GE468.out GE469.out)⟩⟩
                        · rw [if_neg c35] at H
                          have c35b0 : (((rd_T120 l0_5 x6_3).f1) == a1_1) = false := beq_eq_false_iff_ne.mpr c35
                          have c35b1 : (((rd_T120 l0_5 x6_3).f1) != a1_1) = true := bne_iff_ne.mpr c35
                          replace H := Option.bind_eq_some_iff.mp H
                          obtain ⟨t473, A390, H⟩ := H
                          replace H : (if t473 = true then (some 6) else (spec_MayWrite.l0 k3 (wrap64 (x6_3 + 1)) a0_0 l0_1 a0_2 a0_3 l0_4 l0_5 a0_6 a1_0 a1_1 a1_2 a1_3 a1_4 a1_5)) = some r := H
                          have A39 := Aside0.mk A390
                          clear A390
                          by_cases c40 : t473 = true
                          · subst c40
                            have H1 : (some 6) = some r := by rw [if_pos rfl] at H; exact H
                            clear H
                            have H := H1
                            clear H1
                            obtain rfl := Option.some.inj H
                            have hnb41 := NB468_469.out
                            have hnc41 := NB469_468.out
                            have hcz42_0 : wr.cell? ⟨gb468, 0, none⟩ = some (.bool a0_0) := (blk_cell BK468.out 0).trans rfl
                            have hcz42_1 : wr.cell? ⟨gb468, 1, none⟩ = some (.slice A0_1 l0_1.length c0_1) := (blk_cell BK468.out 1).trans rfl
                            have hcz42_2 : wr.cell? ⟨gb468, 2, none⟩ = some (.int .i64 a0_2) := (blk_cell BK468.out 2).trans rfl
                            have hcz42_3 : wr.cell? ⟨gb468, 3, none⟩ = some (.int .i64 a0_3) := (blk_cell BK468.out 3).trans rfl
                            have hcz42_4 : wr.cell? ⟨gb468, 4, none⟩ = some (.slice A0_4 l0_4.length c0_4) := (blk_cell BK468.out 4).trans rfl
                            have hcz42_5 : wr.cell? ⟨gb468, 5, none⟩ = some (.slice A0_5 l0_5.length c0_5) := (blk_cell BK468.out 5).trans rfl
                            have hcz42_6 : wr.cell? ⟨gb468, 6, none⟩ = some (.int .i64 a0_6) := (blk_cell BK468.out 6).trans rfl
                            have hfz42_0 := blk_frozen BK468.out 0
                            have hfz42_1 := blk_frozen BK468.out 1
                            have hfz42_2 := blk_frozen BK468.out 2
                            have hfz42_3 := blk_frozen BK468.out 3
                            have hfz42_4 := blk_frozen BK468.out 4
                            have hfz42_5 := blk_frozen BK468.out 5
                            have hfz42_6 := blk_frozen BK468.out 6
                            have p471 : 0 ≤ (x6_3 : Int) := DT
                            have q471 : x6_3 < (l0_5.length : Int) := DT
                            obtain ⟨ad471, e471, hx471_0, hx471_1, hx471_2⟩ := at_T120 HR0_5.out x6_3 p471 q471
                            cases e471
                            replace hx471_0 := (HB.out.cell (World.block_lt_of_cell? w _ hx471_0)).trans hx471_0
                            replace hx471_1 := (HB.out.cell (World.block_lt_of_cell? w _ hx471_1)).trans hx471_1
                            replace hx471_2 := (HB.out.cell (World.block_lt_of_cell? w _ hx471_2)).trans hx471_2
                            replace p471 := eq_true p471
                            replace q471 := eq_true q471
                            have hcz43_0 : wr.cell? ⟨gb469, 0, none⟩ = some (.int .i64 a1_0) := (blk_cell BK469.out 0).trans rfl
                            have hcz43_1 : wr.cell? ⟨gb469, 1, none⟩ = some (.int .i64 a1_1) := (blk_cell BK469.out 1).trans rfl
                            have hcz43_2 : wr.cell? ⟨gb469, 2, none⟩ = some (.string a1_2) := (blk_cell BK469.out 2).trans rfl
                            have hcz43_3 : wr.cell? ⟨gb469, 3, none⟩ = some (.string a1_3) := (blk_cell BK469.out 3).trans rfl
                            have hcz43_4 : wr.cell? ⟨gb469, 4, none⟩ = some (.string a1_4) := (blk_cell BK469.out 4).trans rfl
                            have hcz43_5 : wr.cell? ⟨gb469, 5, none⟩ = some (.int .i64 a1_5) := (blk_cell BK469.out 5).trans rfl
                            have hfz43_0 := blk_frozen BK469.out 0
                            have hfz43_1 := blk_frozen BK469.out 1
                            have hfz43_2 := blk_frozen BK469.out 2
                            have hfz43_3 := blk_frozen BK469.out 3
                            have hfz43_4 := blk_frozen BK469.out 4
                            have hfz43_5 := blk_frozen BK469.out 5
                            have p472 : 0 ≤ (x6_3 : Int) := DT
                            have q472 : x6_3 < (l0_5.length : Int) := DT
                            obtain ⟨ad472, e472, hx472_0, hx472_1, hx472_2⟩ := at_T120 HR0_5.out x6_3 p472 q472
                            obtain rfl : ad471 = ad472 := (by injection e472)
                            replace hx472_0 := (HB.out.cell (World.block_lt_of_cell? w _ hx472_0)).trans hx472_0
                            replace hx472_1 := (HB.out.cell (World.block_lt_of_cell? w _ hx472_1)).trans hx472_1
                            replace hx472_2 := (HB.out.cell (World.block_lt_of_cell? w _ hx472_2)).trans hx472_2
                            replace p472 := eq_true p472
                            replace q472 := eq_true q472
                            go_wp2_with (first | (go_at_call 79; (with_reducible refine (spec_l17Under.calls ((rd_T120 l0_5 x6_3).f0) a1_2 true _ A39.out).mono ?_); rintro e w' ⟨rfl, ⟨nd, rfl⟩⟩; (try first | exact ⟨rfl, _, World.drewN_drewN _ _ _⟩ | exact ⟨rfl, _, Eq.trans (World.drewN_drewN _ _ _) (congrArg (World.drewN _) (Nat.add_assoc _ _ _))⟩)))
                            repeat (go_quiet (first | (go_at_call 79; (with_reducible refine (spec_l17Under.calls ((rd_T120 l0_5 x6_3).f0) a1_2 true _ A39.out).mono ?_); rintro e w' ⟨rfl, ⟨nd, rfl⟩⟩; (try first | exact ⟨rfl, _, World.drewN_drewN _ _ _⟩ | exact ⟨rfl, _, Eq.trans (World.drewN_drewN _ _ _) (congrArg (World.drewN _) (Nat.add_assoc _ _ _))⟩))); try go_wp2_with (first | (go_at_call 79; (with_reducible refine (spec_l17Under.calls ((rd_T120 l0_5 x6_3).f0) a1_2 true _ A39.out).mono ?_); rintro e w' ⟨rfl, ⟨nd, rfl⟩⟩; (try first | exact ⟨rfl, _, World.drewN_drewN _ _ _⟩ | exact ⟨rfl, _, Eq.trans (World.drewN_drewN _ _ _) (congrArg (World.drewN _) (Nat.add_assoc _ _ _))⟩))))
                            go_ret
                            exact ⟨ER, (BB2 HB.out GE468.out GE469.out)⟩
                          · replace c40 := Bool.eq_false_iff.mpr c40
                            subst c40
                            have H1 : (spec_MayWrite.l0 k3 (wrap64 (x6_3 + 1)) a0_0 l0_1 a0_2 a0_3 l0_4 l0_5 a0_6 a1_0 a1_1 a1_2 a1_3 a1_4 a1_5) = some r := by rw [if_neg (show ¬ (false = true) by decide)] at H; exact H
                            clear H
                            have H := H1
                            clear H1
                            have H' := Aside0.mk H
                            clear H
                            have hnb44 := NB468_469.out
                            have hnc44 := NB469_468.out
                            have hcz45_0 : wr.cell? ⟨gb468, 0, none⟩ = some (.bool a0_0) := (blk_cell BK468.out 0).trans rfl
                            have hcz45_1 : wr.cell? ⟨gb468, 1, none⟩ = some (.slice A0_1 l0_1.length c0_1) := (blk_cell BK468.out 1).trans rfl
                            have hcz45_2 : wr.cell? ⟨gb468, 2, none⟩ = some (.int .i64 a0_2) := (blk_cell BK468.out 2).trans rfl
                            have hcz45_3 : wr.cell? ⟨gb468, 3, none⟩ = some (.int .i64 a0_3) := (blk_cell BK468.out 3).trans rfl
                            have hcz45_4 : wr.cell? ⟨gb468, 4, none⟩ = some (.slice A0_4 l0_4.length c0_4) := (blk_cell BK468.out 4).trans rfl
                            have hcz45_5 : wr.cell? ⟨gb468, 5, none⟩ = some (.slice A0_5 l0_5.length c0_5) := (blk_cell BK468.out 5).trans rfl
                            have hcz45_6 : wr.cell? ⟨gb468, 6, none⟩ = some (.int .i64 a0_6) := (blk_cell BK468.out 6).trans rfl
                            have hfz45_0 := blk_frozen BK468.out 0
                            have hfz45_1 := blk_frozen BK468.out 1
                            have hfz45_2 := blk_frozen BK468.out 2
                            have hfz45_3 := blk_frozen BK468.out 3
                            have hfz45_4 := blk_frozen BK468.out 4
                            have hfz45_5 := blk_frozen BK468.out 5
                            have hfz45_6 := blk_frozen BK468.out 6
                            have p471 : 0 ≤ (x6_3 : Int) := DT
                            have q471 : x6_3 < (l0_5.length : Int) := DT
                            obtain ⟨ad471, e471, hx471_0, hx471_1, hx471_2⟩ := at_T120 HR0_5.out x6_3 p471 q471
                            cases e471
                            replace hx471_0 := (HB.out.cell (World.block_lt_of_cell? w _ hx471_0)).trans hx471_0
                            replace hx471_1 := (HB.out.cell (World.block_lt_of_cell? w _ hx471_1)).trans hx471_1
                            replace hx471_2 := (HB.out.cell (World.block_lt_of_cell? w _ hx471_2)).trans hx471_2
                            replace p471 := eq_true p471
                            replace q471 := eq_true q471
                            have hcz46_0 : wr.cell? ⟨gb469, 0, none⟩ = some (.int .i64 a1_0) := (blk_cell BK469.out 0).trans rfl
                            have hcz46_1 : wr.cell? ⟨gb469, 1, none⟩ = some (.int .i64 a1_1) := (blk_cell BK469.out 1).trans rfl
                            have hcz46_2 : wr.cell? ⟨gb469, 2, none⟩ = some (.string a1_2) := (blk_cell BK469.out 2).trans rfl
                            have hcz46_3 : wr.cell? ⟨gb469, 3, none⟩ = some (.string a1_3) := (blk_cell BK469.out 3).trans rfl
                            have hcz46_4 : wr.cell? ⟨gb469, 4, none⟩ = some (.string a1_4) := (blk_cell BK469.out 4).trans rfl
                            have hcz46_5 : wr.cell? ⟨gb469, 5, none⟩ = some (.int .i64 a1_5) := (blk_cell BK469.out 5).trans rfl
                            have hfz46_0 := blk_frozen BK469.out 0
                            have hfz46_1 := blk_frozen BK469.out 1
                            have hfz46_2 := blk_frozen BK469.out 2
                            have hfz46_3 := blk_frozen BK469.out 3
                            have hfz46_4 := blk_frozen BK469.out 4
                            have hfz46_5 := blk_frozen BK469.out 5
                            have p472 : 0 ≤ (x6_3 : Int) := DT
                            have q472 : x6_3 < (l0_5.length : Int) := DT
                            obtain ⟨ad472, e472, hx472_0, hx472_1, hx472_2⟩ := at_T120 HR0_5.out x6_3 p472 q472
                            obtain rfl : ad471 = ad472 := (by injection e472)
                            replace hx472_0 := (HB.out.cell (World.block_lt_of_cell? w _ hx472_0)).trans hx472_0
                            replace hx472_1 := (HB.out.cell (World.block_lt_of_cell? w _ hx472_1)).trans hx472_1
                            replace hx472_2 := (HB.out.cell (World.block_lt_of_cell? w _ hx472_2)).trans hx472_2
                            replace p472 := eq_true p472
                            replace q472 := eq_true q472
                            go_wp2_with (first | (go_at_call 79; (with_reducible refine (spec_l17Under.calls ((rd_T120 l0_5 x6_3).f0) a1_2 false _ A39.out).mono ?_); rintro e w' ⟨rfl, ⟨nd, rfl⟩⟩; (try first | exact ⟨rfl, _, World.drewN_drewN _ _ _⟩ | exact ⟨rfl, _, Eq.trans (World.drewN_drewN _ _ _) (congrArg (World.drewN _) (Nat.add_assoc _ _ _))⟩)))
                            repeat (go_quiet (first | (go_at_call 79; (with_reducible refine (spec_l17Under.calls ((rd_T120 l0_5 x6_3).f0) a1_2 false _ A39.out).mono ?_); rintro e w' ⟨rfl, ⟨nd, rfl⟩⟩; (try first | exact ⟨rfl, _, World.drewN_drewN _ _ _⟩ | exact ⟨rfl, _, Eq.trans (World.drewN_drewN _ _ _) (congrArg (World.drewN _) (Nat.add_assoc _ _ _))⟩))); try go_wp2_with (first | (go_at_call 79; (with_reducible refine (spec_l17Under.calls ((rd_T120 l0_5 x6_3).f0) a1_2 false _ A39.out).mono ?_); rintro e w' ⟨rfl, ⟨nd, rfl⟩⟩; (try first | exact ⟨rfl, _, World.drewN_drewN _ _ _⟩ | exact ⟨rfl, _, Eq.trans (World.drewN_drewN _ _ _) (congrArg (World.drewN _) (Nat.add_assoc _ _ _))⟩))))
                            go_roundg k3
                            case measure => have := HJ15.out; have := HJ29.out; have := HK3.out; omega
                            case rel => exact ⟨(wrap64 (x6_3 + 1)), FR, H', ⟨by have := HJ15.out; have := HJ29.out; have := HK3.out; omega⟩, ⟨by (with_reducible repeat (first | refine blk_drewN ?_ _ | refine blk_drew ?_ | refine blk_alloc ?_ _)); exact BK468.out⟩, ⟨by (with_reducible repeat (first | refine blk_drewN ?_ _ | refine blk_drew ?_ | refine blk_alloc ?_ _)); exact BK469.out⟩, ⟨(BB2 HB.out GE468.out GE469.out)⟩⟩
                      · rw [if_neg c34] at H
                        exact absurd H (by simp)
                    · rw [if_neg c33] at H
                      have c33b0 : decide (x6_3 < (l0_5.length : Int)) = false := decide_eq_false c33
                      clear c33
                      obtain rfl := Option.some.inj H
                      have hnb47 := NB468_469.out
                      have hnc47 := NB469_468.out
                      have hcz48_0 : wr.cell? ⟨gb468, 0, none⟩ = some (.bool a0_0) := (blk_cell BK468.out 0).trans rfl
                      have hcz48_1 : wr.cell? ⟨gb468, 1, none⟩ = some (.slice A0_1 l0_1.length c0_1) := (blk_cell BK468.out 1).trans rfl
                      have hcz48_2 : wr.cell? ⟨gb468, 2, none⟩ = some (.int .i64 a0_2) := (blk_cell BK468.out 2).trans rfl
                      have hcz48_3 : wr.cell? ⟨gb468, 3, none⟩ = some (.int .i64 a0_3) := (blk_cell BK468.out 3).trans rfl
                      have hcz48_4 : wr.cell? ⟨gb468, 4, none⟩ = some (.slice A0_4 l0_4.length c0_4) := (blk_cell BK468.out 4).trans rfl
                      have hcz48_5 : wr.cell? ⟨gb468, 5, none⟩ = some (.slice A0_5 l0_5.length c0_5) := (blk_cell BK468.out 5).trans rfl
                      have hcz48_6 : wr.cell? ⟨gb468, 6, none⟩ = some (.int .i64 a0_6) := (blk_cell BK468.out 6).trans rfl
                      have hfz48_0 := blk_frozen BK468.out 0
                      have hfz48_1 := blk_frozen BK468.out 1
                      have hfz48_2 := blk_frozen BK468.out 2
                      have hfz48_3 := blk_frozen BK468.out 3
                      have hfz48_4 := blk_frozen BK468.out 4
                      have hfz48_5 := blk_frozen BK468.out 5
                      have hfz48_6 := blk_frozen BK468.out 6
                      go_wp2
                      repeat (go_quiet (fail); try go_wp2)
                      go_ret
                      exact ⟨ER, (BB2 HB.out GE468.out GE469.out)⟩
              · replace c32 := Bool.eq_false_iff.mpr c32
                subst c32
                have H1 : (some 0) = some r := by rw [if_neg (show ¬ (false = true) by decide)] at H; exact H
                clear H
                have H := H1
                clear H1
                obtain rfl := Option.some.inj H
                go_wp2
                repeat (go_quiet (fail); try go_wp2)
                go_ret
                exact ⟨ER, (BB2 HB.out GE468.out GE469.out)⟩

end Go.Proofs.Ytfgnaneajonapaa.Pr
