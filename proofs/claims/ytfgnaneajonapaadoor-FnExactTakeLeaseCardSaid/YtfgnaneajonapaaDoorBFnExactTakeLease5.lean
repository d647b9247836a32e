/- A part of the proof of the law FnExactTakeLease: its texts, one behind the other. -/
import Derived.ChangeArms
import Derived.Deep.Slices
import Derived.Laws.Cover1
import Derived.WideShapes
import Derived.Test.YtfgnaneajonapaaDoorBFnExactTakeLease1
import Derived.Test.YtfgnaneajonapaaDoorBFnExactTakeLease2
import Derived.Test.YtfgnaneajonapaaDoorBFnExactTakeLease3
import Derived.Test.YtfgnaneajonapaaDoorBFnExactTakeLease4
namespace Go.Proofs.YtfgnaneajonapaaDoor.Pr
open Go.RowKit Go.Proofs.YtfgnaneajonapaaDoorW.PrintWords Go.Proofs.YtfgnaneajonapaaDoorW.PrintLast Go.Proofs.YtfgnaneajonapaaDoorW.PrintMore
attribute [local go_sem] max2_int min2_int max_two min_two max_three min_three max_four min_four
set_option linter.unusedVariables false
set_option linter.unusedSimpArgs false
open Go.Op in
theorem gtr_blPr21 : ∀ x y : List UInt8, (!(Op.bytesLess x y || x == y)) = Op.bytesLess y x
  | [], [] => rfl
  | [], _ :: _ => rfl
  | _ :: _, [] => rfl
  | a :: x, b :: y => by
    have h := gtr_blPr21 x y
    simp only [Op.bytesLess]
    rcases Nat.lt_trichotomy a.toNat b.toNat with c | c | c
    · have c1 : a < b := c
      have c2 : ¬ b < a := fun d => Nat.lt_asymm c d
      have c3 : ¬ b = a := fun d => UInt8.lt_irrefl a (d ▸ c1)
      simp [c1, c2, c3]
    · have c1 : a = b := UInt8.toNat_inj.1 c
      subst c1
      have c2 : ¬ a < a := UInt8.lt_irrefl a
      simp only [c2, decide_false, Bool.false_or, BEq.rfl, Bool.true_and, List.cons_beq_cons]
      exact h
    · have c1 : b < a := c
      have c2 : ¬ a < b := fun d => Nat.lt_asymm c d
      have c3 : ¬ a = b := fun d => UInt8.lt_irrefl b (d ▸ c1)
      simp [c1, c2, c3]
theorem gtr_strPr21 (t : TypeId) (a b : ByteArray) : binOp .gtr t (.string a) (.string b) = pure (.bool (Op.bytesLess b.toList a.toList)) := by rw [binOp_string_gtr, gtr_blPr21]
attribute [local go_sem high] gtr_strPr21
mutual
def spec_TakeLease.j0 : Nat → List (S54) → ByteArray → Int → Int → List (S54) → Bool → Option ((List (S54)) × Bool)
  | 0, _, _, _, _, _, _ => none
  | k + 1, x0, x1, x2, x3, x10, x34 => if x34 = true then (some (x10, false)) else (spec_TakeLease.l0 k x0 x1 x2 x3 x10 0)
def spec_TakeLease.l0 : Nat → List (S54) → ByteArray → Int → Int → List (S54) → Int → Option ((List (S54)) × Bool)
  | 0, _, _, _, _, _, _ => none
  | k + 1, x0, x1, x2, x3, x10, x11 => if x11 < (x10.length : Int) then (if 0 ≤ x11 then (if ((rd_T54 x10 x11).f0).toList = x1.toList then (if ((rd_T54 x10 x11).f1) = x2 then ((some (x10.set (x11 : Int).toNat (⟨(rd_T54 x10 x11).f0, x2, (rd_T54 x10 x11).f2⟩ : S54) : List (S54))).bind fun y355 => (some ((y355.set (x11 : Int).toNat (⟨(rd_T54 y355 x11).f0, (rd_T54 y355 x11).f1, x3⟩ : S54)), true))) else (if (wrap64 (x3 - ((rd_T54 x10 x11).f2))) < 5 then (some (x10, false)) else ((some (x10.set (x11 : Int).toNat (⟨(rd_T54 x10 x11).f0, x2, (rd_T54 x10 x11).f2⟩ : S54) : List (S54))).bind fun y358 => (some ((y358.set (x11 : Int).toNat (⟨(rd_T54 y358 x11).f0, (rd_T54 y358 x11).f1, x3⟩ : S54)), true))))) else (spec_TakeLease.l0 k x0 x1 x2 x3 x10 (wrap64 (x11 + 1)))) else (none)) else (if (x0.length : Int) = 8 then (some (x10, false)) else (spec_TakeLease.l1 k x0 x1 x2 x3 (([] : List (S54))) 0))
def spec_TakeLease.l1 : Nat → List (S54) → ByteArray → Int → Int → List (S54) → Int → Option ((List (S54)) × Bool)
  | 0, _, _, _, _, _, _ => none
  | k + 1, x0, x1, x2, x3, x12, x13 => if x13 < (x0.length : Int) then (if 0 ≤ x13 then (if (Op.bytesLess (((rd_T54 x0 x13).f0).toList) x1.toList) = true then (if x12.length < 4398046511104 then (spec_TakeLease.l1 k x0 x1 x2 x3 (x12 ++ [(⟨(rd_T54 x0 x13).f0, (rd_T54 x0 x13).f1, (rd_T54 x0 x13).f2⟩ : S54)]) (wrap64 (x13 + 1))) else (none)) else (spec_TakeLease.l1 k x0 x1 x2 x3 x12 (wrap64 (x13 + 1)))) else (none)) else (if x12.length < 4398046511104 then (spec_TakeLease.l2 k x0 x1 (x12 ++ [(⟨x1, x2, x3⟩ : S54)]) 0) else (none))
def spec_TakeLease.l2 : Nat → List (S54) → ByteArray → List (S54) → Int → Option ((List (S54)) × Bool)
  | 0, _, _, _, _ => none
  | k + 1, x0, x1, x12, x14 => if x14 < (x0.length : Int) then (if 0 ≤ x14 then (if (Op.bytesLess x1.toList (((rd_T54 x0 x14).f0).toList)) = true then (if x12.length < 4398046511104 then (spec_TakeLease.l2 k x0 x1 (x12 ++ [(⟨(rd_T54 x0 x14).f0, (rd_T54 x0 x14).f1, (rd_T54 x0 x14).f2⟩ : S54)]) (wrap64 (x14 + 1))) else (none)) else (spec_TakeLease.l2 k x0 x1 x12 (wrap64 (x14 + 1)))) else (none)) else (some (x12, true))
end
def spec_TakeLease.f (k : Nat) (l0 : List (S54)) (a1 : ByteArray) (a2 : Int) (a3 : Int) : Option ((List (S54)) × Bool) := (spec_l16Copy.f l0).bind fun t346 => ((spec_LeasesOk.f k l0).bind fun t349 => (if t349 = true then ((spec_l11Named.f k a1).bind fun t350 => (if t350 = true then ((spec_l01In.f a2 1 9).bind fun t351 => (if t351 = true then ((spec_l01In.f a3 0 1000000000).bind fun t352 => (spec_TakeLease.j0 k l0 a1 a2 a3 t346 (!t352))) else (spec_TakeLease.j0 k l0 a1 a2 a3 t346 true))) else (spec_TakeLease.j0 k l0 a1 a2 a3 t346 true))) else (spec_TakeLease.j0 k l0 a1 a2 a3 t346 true)))
set_option maxHeartbeats 8000000 in
set_option maxRecDepth 100000 in
theorem spec_TakeLease.calls (k : Nat) (A0 : Option Addr) (c0 : Nat) (l0 : List (S54)) (a1 : ByteArray) (a2 : Int) (a3 : Int) (r1 : List (S54)) (r2 : Bool) (w : World) (hr0 : Kd.C k54 w A0 l0.length l0) (hc0 : l0.length ≤ c0) (h : spec_TakeLease.f k l0 a1 a2 a3 = some (r1, r2)) :
    Calls Tryd.prog 21 #[.slice A0 l0.length c0, .string a1, .int .i64 a2, .int .i64 a3] w fun e w' => ∃ v0_ : Value, e = .returned (.tuple #[v0_, .bool r2]) ∧ Kd.R k54 54 w' w.heap.size (fun _ => True) v0_ r1 ∧ Below w.heap.size w w' := by
  have hu54 := Tryd.underlying54
  have HR0 := Aside0.mk hr0
  have HC0 := Aside0.mk hc0
  clear hr0 hc0
  have HB := Aside0.mk (Below.refl w.heap.size w)
  have H : ((spec_l16Copy.f l0).bind fun t346 => ((spec_LeasesOk.f k l0).bind fun t349 => (if t349 = true then ((spec_l11Named.f k a1).bind fun t350 => (if t350 = true then ((spec_l01In.f a2 1 9).bind fun t351 => (if t351 = true then ((spec_l01In.f a3 0 1000000000).bind fun t352 => (spec_TakeLease.j0 k l0 a1 a2 a3 t346 (!t352))) else (spec_TakeLease.j0 k l0 a1 a2 a3 t346 true))) else (spec_TakeLease.j0 k l0 a1 a2 a3 t346 true))) else (spec_TakeLease.j0 k l0 a1 a2 a3 t346 true)))) = some (r1, r2) := h
  clear h
  replace H := Option.bind_eq_some_iff.mp H
  obtain ⟨t346, A50, H⟩ := H
  replace H : ((spec_LeasesOk.f k l0).bind fun t349 => (if t349 = true then ((spec_l11Named.f k a1).bind fun t350 => (if t350 = true then ((spec_l01In.f a2 1 9).bind fun t351 => (if t351 = true then ((spec_l01In.f a3 0 1000000000).bind fun t352 => (spec_TakeLease.j0 k l0 a1 a2 a3 t346 (!t352))) else (spec_TakeLease.j0 k l0 a1 a2 a3 t346 true))) else (spec_TakeLease.j0 k l0 a1 a2 a3 t346 true))) else (spec_TakeLease.j0 k l0 a1 a2 a3 t346 true))) = some (r1, r2) := H
  have A5 := Aside0.mk A50
  clear A50
  have HC6 := Aside0.mk H
  clear H
  go_enter Tryd.func21, Tryd.ntmps21
  go_upto_region 2 with (first | ((with_reducible refine gate_callee (f := 40) rfl ?_); refine GL (some 16) rfl rfl Tryd.func40 #[.slice A0 l0.length c0] rfl ?_; (with_reducible refine (spec_l16Copy.calls _ _ l0 t346 _ ?side1 ?side2 A5.out).mono ?_); (case side1 => exact CC HR0.out); (case side2 => exact HC0.out); rintro e w7 ⟨v347, rfl, ho0, hb⟩; refine ⟨_, rfl, ?_⟩; have HO348 := Aside0.mk (Kd.R_lower ho0 (below_size (BB HB.out))); replace HB := Aside0.mk (below_step (BB HB.out) hb); (try clear hb); (try clear ho0)))
  (try simp only [Act.put, List.setIfInBounds_toArray, List.set_cons_zero, List.set_cons_succ])
  go_cut [34] (fun v34 wc => ∃ (kq : Nat) (x34_5 : Bool), v34 = .bool x34_5 ∧ Aside0 (spec_TakeLease.j0 kq l0 a1 a2 a3 t346 x34_5 = some (r1, r2)) ∧ Aside0 (kq ≤ k) ∧ Aside0 (Kd.R k54 54 wc w.heap.size (fun _ => True) v347 t346) ∧ Aside0 (Below w.heap.size w wc))
  case first =>
    have H := HC6.out
    clear HC6
    replace H := Option.bind_eq_some_iff.mp H
    obtain ⟨t349, A80, H⟩ := H
    replace H : (if t349 = true then ((spec_l11Named.f k a1).bind fun t350 => (if t350 = true then ((spec_l01In.f a2 1 9).bind fun t351 => (if t351 = true then ((spec_l01In.f a3 0 1000000000).bind fun t352 => (spec_TakeLease.j0 k l0 a1 a2 a3 t346 (!t352))) else (spec_TakeLease.j0 k l0 a1 a2 a3 t346 true))) else (spec_TakeLease.j0 k l0 a1 a2 a3 t346 true))) else (spec_TakeLease.j0 k l0 a1 a2 a3 t346 true)) = some (r1, r2) := H
    have A8 := Aside0.mk A80
    clear A80
    by_cases c9 : t349 = true
    · subst c9
      have H1 : ((spec_l11Named.f k a1).bind fun t350 => (if t350 = true then ((spec_l01In.f a2 1 9).bind fun t351 => (if t351 = true then ((spec_l01In.f a3 0 1000000000).bind fun t352 => (spec_TakeLease.j0 k l0 a1 a2 a3 t346 (!t352))) else (spec_TakeLease.j0 k l0 a1 a2 a3 t346 true))) else (spec_TakeLease.j0 k l0 a1 a2 a3 t346 true))) = some (r1, r2) := by rw [if_pos rfl] at H; exact H
      clear H
      have H := H1
      clear H1
      replace H := Option.bind_eq_some_iff.mp H
      obtain ⟨t350, A100, H⟩ := H
      replace H : (if t350 = true then ((spec_l01In.f a2 1 9).bind fun t351 => (if t351 = true then ((spec_l01In.f a3 0 1000000000).bind fun t352 => (spec_TakeLease.j0 k l0 a1 a2 a3 t346 (!t352))) else (spec_TakeLease.j0 k l0 a1 a2 a3 t346 true))) else (spec_TakeLease.j0 k l0 a1 a2 a3 t346 true)) = some (r1, r2) := H
      have A10 := Aside0.mk A100
      clear A100
      by_cases c11 : t350 = true
      · subst c11
        have H1 : ((spec_l01In.f a2 1 9).bind fun t351 => (if t351 = true then ((spec_l01In.f a3 0 1000000000).bind fun t352 => (spec_TakeLease.j0 k l0 a1 a2 a3 t346 (!t352))) else (spec_TakeLease.j0 k l0 a1 a2 a3 t346 true))) = some (r1, r2) := by rw [if_pos rfl] at H; exact H
        clear H
        have H := H1
        clear H1
        replace H := Option.bind_eq_some_iff.mp H
        obtain ⟨t351, A120, H⟩ := H
        replace H : (if t351 = true then ((spec_l01In.f a3 0 1000000000).bind fun t352 => (spec_TakeLease.j0 k l0 a1 a2 a3 t346 (!t352))) else (spec_TakeLease.j0 k l0 a1 a2 a3 t346 true)) = some (r1, r2) := H
        have A12 := Aside0.mk A120
        clear A120
        by_cases c13 : t351 = true
        · subst c13
          have H1 : ((spec_l01In.f a3 0 1000000000).bind fun t352 => (spec_TakeLease.j0 k l0 a1 a2 a3 t346 (!t352))) = some (r1, r2) := by rw [if_pos rfl] at H; exact H
          clear H
          have H := H1
          clear H1
          replace H := Option.bind_eq_some_iff.mp H
          obtain ⟨t352, A140, H⟩ := H
          replace H : (spec_TakeLease.j0 k l0 a1 a2 a3 t346 (!t352)) = some (r1, r2) := H
          have A14 := Aside0.mk A140
          clear A140
          have H' := Aside0.mk H
          clear H
          go_wp2_with (first | ((with_reducible refine gate_callee (f := 8) rfl ?_); refine GL (some 18) rfl rfl Tryd.func8 #[.slice A0 l0.length c0] rfl ?_; (with_reducible refine (spec_LeasesOk.calls k _ _ l0 true _ ?side1 ?side2 A8.out).mono ?_); (case side1 => exact CC (Kd.C_below HR0.out HB.out)); (case side2 => exact HC0.out); rintro e w15 ⟨rfl, hb⟩; refine ⟨_, rfl, ?_⟩; replace HO348 := Aside0.mk (Kd.R_below (RR HO348.out) hb); replace HB := Aside0.mk (below_step (BB HB.out) hb); (try clear hb)) | (go_at_call 26; (with_reducible refine (spec_l11Named.calls k a1 true _ A10.out).mono ?_); rintro e w16 ⟨rfl, hb⟩; replace HO348 := Aside0.mk (Kd.R_below (RR HO348.out) hb); replace HB := Aside0.mk (below_step (BB HB.out) hb); (try clear hb); (try clear hb2); (try clear hk); (try clear hi)) | (go_at_call 27; (with_reducible refine (spec_l01In.calls a2 1 9 true _ A12.out).mono ?_); rintro e w' ⟨rfl, ⟨nd, rfl⟩⟩) | (go_at_call 27; (with_reducible refine (spec_l01In.calls a3 0 1000000000 t352 _ A14.out).mono ?_); rintro e w' ⟨rfl, ⟨nd, rfl⟩⟩))
          go_meet
          case rel => exact ⟨_, (!t352), FR, H', ⟨by first | omega | exact Nat.le_refl _⟩, ⟨(RR HO348.out)⟩, ⟨(BB HB.out)⟩⟩
        · replace c13 := Bool.eq_false_iff.mpr c13
          subst c13
          have H1 : (spec_TakeLease.j0 k l0 a1 a2 a3 t346 true) = some (r1, r2) := by rw [if_neg (show ¬ (false = true) by decide)] at H; exact H
          clear H
          have H := H1
          clear H1
          have H' := Aside0.mk H
          clear H
          go_wp2_with (first | ((with_reducible refine gate_callee (f := 8) rfl ?_); refine GL (some 18) rfl rfl Tryd.func8 #[.slice A0 l0.length c0] rfl ?_; (with_reducible refine (spec_LeasesOk.calls k _ _ l0 true _ ?side1 ?side2 A8.out).mono ?_); (case side1 => exact CC (Kd.C_below HR0.out HB.out)); (case side2 => exact HC0.out); rintro e w17 ⟨rfl, hb⟩; refine ⟨_, rfl, ?_⟩; replace HO348 := Aside0.mk (Kd.R_below (RR HO348.out) hb); replace HB := Aside0.mk (below_step (BB HB.out) hb); (try clear hb)) | (go_at_call 26; (with_reducible refine (spec_l11Named.calls k a1 true _ A10.out).mono ?_); rintro e w18 ⟨rfl, hb⟩; replace HO348 := Aside0.mk (Kd.R_below (RR HO348.out) hb); replace HB := Aside0.mk (below_step (BB HB.out) hb); (try clear hb); (try clear hb2); (try clear hk); (try clear hi)) | (go_at_call 27; (with_reducible refine (spec_l01In.calls a2 1 9 false _ A12.out).mono ?_); rintro e w' ⟨rfl, ⟨nd, rfl⟩⟩))
          go_meet
          case rel => exact ⟨_, (true), FR, H', ⟨by first | omega | exact Nat.le_refl _⟩, ⟨(RR HO348.out)⟩, ⟨(BB HB.out)⟩⟩
      · replace c11 := Bool.eq_false_iff.mpr c11
        subst c11
        have H1 : (spec_TakeLease.j0 k l0 a1 a2 a3 t346 true) = some (r1, r2) := by rw [if_neg (show ¬ (false = true) by decide)] at H; exact H
        clear H
        have H := H1
        clear H1
        have H' := Aside0.mk H
        clear H
        go_wp2_with (first | ((with_reducible refine gate_callee (f := 8) rfl ?_); refine GL (some 18) rfl rfl Tryd.func8 #[.slice A0 l0.length c0] rfl ?_; (with_reducible refine (spec_LeasesOk.calls k _ _ l0 true _ ?side1 ?side2 A8.out).mono ?_); (case side1 => exact CC (Kd.C_below HR0.out HB.out)); (case side2 => exact HC0.out); rintro e w19 ⟨rfl, hb⟩; refine ⟨_, rfl, ?_⟩; replace HO348 := Aside0.mk (Kd.R_below (RR HO348.out) hb); replace HB := Aside0.mk (below_step (BB HB.out) hb); (try clear hb)) | (go_at_call 26; (with_reducible refine (spec_l11Named.calls k a1 false _ A10.out).mono ?_); rintro e w20 ⟨rfl, hb⟩; replace HO348 := Aside0.mk (Kd.R_below (RR HO348.out) hb); replace HB := Aside0.mk (below_step (BB HB.out) hb); (try clear hb); (try clear hb2); (try clear hk); (try clear hi)))
        go_meet
        case rel => exact ⟨_, (true), FR, H', ⟨by first | omega | exact Nat.le_refl _⟩, ⟨(RR HO348.out)⟩, ⟨(BB HB.out)⟩⟩
    · replace c9 := Bool.eq_false_iff.mpr c9
      subst c9
      have H1 : (spec_TakeLease.j0 k l0 a1 a2 a3 t346 true) = some (r1, r2) := by rw [if_neg (show ¬ (false = true) by decide)] at H; exact H
      clear H
      have H := H1
      clear H1
      have H' := Aside0.mk H
      clear H
      go_wp2_with (first | ((with_reducible refine gate_callee (f := 8) rfl ?_); refine GL (some 18) rfl rfl Tryd.func8 #[.slice A0 l0.length c0] rfl ?_; (with_reducible refine (spec_LeasesOk.calls k _ _ l0 false _ ?side1 ?side2 A8.out).mono ?_); (case side1 => exact CC (Kd.C_below HR0.out HB.out)); (case side2 => exact HC0.out); rintro e w21 ⟨rfl, hb⟩; refine ⟨_, rfl, ?_⟩; replace HO348 := Aside0.mk (Kd.R_below (RR HO348.out) hb); replace HB := Aside0.mk (below_step (BB HB.out) hb); (try clear hb)))
      go_meet
      case rel => exact ⟨_, (true), FR, H', ⟨by first | omega | exact Nat.le_refl _⟩, ⟨(RR HO348.out)⟩, ⟨(BB HB.out)⟩⟩
  case rest =>
    clear HC6
    try clear c1
    try clear c2
    try clear p2
    try clear c4
    try clear c8
    try clear c9
    try clear c11
    try clear c13
    try clear c21
    obtain ⟨kq, x34_5, rfl, HA, HJ5, HO_10, HB⟩ := hcut
    cases kq with
    | zero => exact absurd HA.out (by simp [spec_TakeLease.j0])
    | succ kj5 =>
      have H := HA.out
      clear HA
      simp only [spec_TakeLease.j0] at H
      by_cases c22 : x34_5 = true
      · subst c22
        have H1 : (some (t346, false)) = some (r1, r2) := by rw [if_pos rfl] at H; exact H
        clear H
        have H := H1
        clear H1
        simp only [Option.some.injEq, Prod.mk.injEq] at H
        obtain ⟨rfl, rfl⟩ := H
        go_wp2
        go_ret2
        exact ⟨_, ER, by (with_reducible repeat (first | apply Kd.R_alloc | apply Kd.R_drewN | apply Kd.R_drew)); exact HO_10.out, (BB HB.out)⟩
      · replace c22 := Bool.eq_false_iff.mpr c22
        subst c22
        have H1 : (spec_TakeLease.l0 kj5 l0 a1 a2 a3 t346 0) = some (r1, r2) := by rw [if_neg (show ¬ (false = true) by decide)] at H; exact H
        clear H
        have H := H1
        clear H1
        have H' := Aside0.mk H
        clear H
        go_wp2
        go_loopg [11] kj5 (fun kq v11 w' => ∃ (x10_2 : List (S54)) (x11_2 : Int), v11 = .int .i64 x11_2 ∧ Aside0 (spec_TakeLease.l0 kq l0 a1 a2 a3 x10_2 x11_2 = some (r1, r2)) ∧ Aside0 (kq ≤ kj5) ∧ Aside0 (Kd.R k54 54 w' w.heap.size (fun _ => True) v347 x10_2) ∧ Aside0 (Below w.heap.size w w'))
        case atStart => exact ⟨(t346), (0), FR, H', ⟨Nat.le_refl _⟩, ⟨(RR HO_10.out)⟩, ⟨(BB HB.out)⟩⟩
        case round =>
          clear H'
          try clear c1
          try clear c2
          try clear p2
          try clear c4
          try clear c8
          try clear c9
          try clear c11
          try clear c13
          try clear c21
          try clear c22
          try clear p2
          obtain ⟨x10_2, x11_2, rfl, HA, HK2, HO_10, HB⟩ := hrel
          cases gk with
          | zero => exact absurd HA.out (by simp [spec_TakeLease.l0])
          | succ k2 =>
            have H := HA.out
            clear HA
            simp only [spec_TakeLease.l0] at H
            by_cases c23 : x11_2 < (x10_2.length : Int)
            · rw [if_pos c23] at H
              have c23b0 : decide (x11_2 < (x10_2.length : Int)) = true := decide_eq_true c23
              clear c23
              by_cases c24 : 0 ≤ x11_2
              · rw [if_pos c24] at H
                have c24b0 : decide (0 ≤ x11_2) = true := decide_eq_true c24
                clear c24
                by_cases c25 : ((rd_T54 x10_2 x11_2).f0).toList = a1.toList
                · rw [if_pos c25] at H
                  have c25b0 : (((rd_T54 x10_2 x11_2).f0).toList == a1.toList) = true := beq_iff_eq.mpr c25
                  have c25b1 : (((rd_T54 x10_2 x11_2).f0).toList != a1.toList) = false := bne_eq_false_iff_eq.mpr c25
                  clear c25
                  by_cases c26 : ((rd_T54 x10_2 x11_2).f1) = a2
                  · rw [if_pos c26] at H
                    have c26b0 : (((rd_T54 x10_2 x11_2).f1) == a2) = true := beq_iff_eq.mpr c26
                    have c26b1 : (((rd_T54 x10_2 x11_2).f1) != a2) = false := bne_eq_false_iff_eq.mpr c26
                    clear c26
                    obtain ⟨y355, hy355⟩ : ∃ y_ : List (S54), y_ = (x10_2.set (x11_2 : Int).toNat (⟨(rd_T54 x10_2 x11_2).f0, a2, (rd_T54 x10_2 x11_2).f2⟩ : S54)) := ⟨_, rfl⟩
                    replace H : (some ((y355.set (x11_2 : Int).toNat (⟨(rd_T54 y355 x11_2).f0, (rd_T54 y355 x11_2).f1, a3⟩ : S54)), true)) = some (r1, r2) := by first | (rw [hy355]; with_reducible exact H) | (have H2_ := (Option.bind_some _ _).symm.trans H; rw [hy355]; with_reducible exact H2_) | (have H2_ := (Option.bind_some _ _).symm.trans H; with_reducible exact H2_) | with_reducible exact H | (rw [hy355]; exact H) | exact H
                    have Ny355 := Aside0.mk hy355
                    clear hy355
                    obtain ⟨y356, hy356⟩ : ∃ y_ : List (S54), y_ = (y355.set (x11_2 : Int).toNat (⟨(rd_T54 y355 x11_2).f0, (rd_T54 y355 x11_2).f1, a3⟩ : S54)) := ⟨_, rfl⟩
                    replace H : (some (y356, true)) = some (r1, r2) := by first | (rw [hy356]; with_reducible exact H) | (have H2_ := (Option.bind_some _ _).symm.trans H; rw [hy356]; with_reducible exact H2_) | (have H2_ := (Option.bind_some _ _).symm.trans H; with_reducible exact H2_) | with_reducible exact H | (rw [hy356]; exact H) | exact H
                    have Ny356 := Aside0.mk hy356
                    clear hy356
                    simp only [Option.some.injEq, Prod.mk.injEq] at H
                    obtain ⟨rfl, rfl⟩ := H
                    obtain ⟨Ao29, co29, eo29⟩ := Kd.R_slice HO_10.out
                    subst eo29
                    have p353 : 0 ≤ (x11_2 : Int) := DT
                    have q353 : x11_2 < (x10_2.length : Int) := DT
                    obtain ⟨ad353, e353, hx353_0, hx353_1, hx353_2⟩ := at_T54 (Kd.R_reads' HO_10.out).2.2 x11_2 p353 q353
                    cases e353
                    replace p353 := eq_true p353
                    replace q353 := eq_true q353
                    have p354 : 0 ≤ (x11_2 : Int) := DT
                    have q354 : x11_2 < (x10_2.length : Int) := DT
                    obtain ⟨ad354, e354, hx354_0, hx354_1, hx354_2⟩ := at_T54 (Kd.R_reads' HO_10.out).2.2 x11_2 p354 q354
                    obtain rfl : ad353 = ad354 := (by injection e354)
                    replace p354 := eq_true p354
                    replace q354 := eq_true q354
                    have p27 : 0 ≤ (x11_2 : Int) := DT
                    have q27 : (x11_2 : Int) < ((x10_2.length : Int) : Int) := DT
                    obtain ⟨go27, co27, eo27, gb27, gl27, cl27, HG27⟩ := Kd.R_form HO_10.out (by omega)
                    (first | cases eo27 | (injection eo27 with ea_ en_ ec_; (first | subst ea_ | (injection ea_ with ea_; subst ea_)); subst ec_; clear en_))
                    have GB27 := Aside0.mk gb27
                    have GG27 := Aside0.mk HG27
                    clear gb27 gl27 HG27
                    (first | simp only [add_plain] at hx353_0 | skip)
                    (first | simp only [add_plain] at hx353_1 | skip)
                    (first | simp only [add_plain] at hx353_2 | skip)
                    (first | simp only [add_plain] at hx354_0 | skip)
                    (first | simp only [add_plain] at hx354_1 | skip)
                    (first | simp only [add_plain] at hx354_2 | skip)
                    obtain ⟨ce27, hcl27, hM27, hcc27, hfr27⟩ := Kd.R_elem HO_10.out z54 (x11_2 : Int) p27 q27
                    obtain rfl := k54_openM hM27
                    have hx27_0 : wr.cell? ⟨go27, (x11_2 : Int).toNat * 3, none⟩ = some (.string ((rd_T54 x10_2 x11_2).f0)) := hcc27 0 _ rfl
                    have hx27_1 : wr.cell? ⟨go27, (x11_2 : Int).toNat * 3 + 1, none⟩ = some (.int .i64 ((rd_T54 x10_2 x11_2).f1)) := hcc27 1 _ rfl
                    have hx27_2 : wr.cell? ⟨go27, (x11_2 : Int).toNat * 3 + 2, none⟩ = some (.int .i64 ((rd_T54 x10_2 x11_2).f2)) := hcc27 2 _ rfl
                    have hf27_0 : wr.frozen? ⟨go27, (x11_2 : Int).toNat * 3, none⟩ = false := hfr27 0
                    have hf27_1 : wr.frozen? ⟨go27, (x11_2 : Int).toNat * 3 + 1, none⟩ = false := hfr27 1
                    have hf27_2 : wr.frozen? ⟨go27, (x11_2 : Int).toNat * 3 + 2, none⟩ = false := hfr27 2
                    clear hcl27 hcc27 hfr27 hM27
                    replace p27 := eq_true p27
                    replace q27 := eq_true q27
                    have HX30 := Aside0.mk (show Kd.R k54 54 wr w.heap.size (fun _ => True) (.slice (some ⟨go27, 0, none⟩) x10_2.length co29) x10_2 from (RR HO_10.out))
                    obtain ⟨ce30, hcl30, hM30, hcc30, hfr30⟩ := Kd.R_elem HX30.out z54 (x11_2 : Int) DT (by have h_ : (x11_2 : Int) < ((x10_2.length : Int) : Int) := DT; first | exact h_ | (have e_ := (Kd.R_reads' HO_10.out).1; omega) | simpa using h_)
                    obtain rfl := k54_openM hM30
                    have HP30 := Kd.R_seg HX30.out (x11_2 : Int) DT (by have h_ : (x11_2 : Int) < ((x10_2.length : Int) : Int) := DT; first | exact h_ | (have e_ := (Kd.R_reads' HO_10.out).1; omega) | simpa using h_) (seg := [.int .i64 a2]) (j := 1) hcl30 hcc30 (show 2 ≤ 3 from by decide) (x' := (⟨(rd_T54 x10_2 x11_2).f0, a2, (rd_T54 x10_2 x11_2).f2⟩ : S54)) (k54_mkM _ _ _ (⟨(rd_T54 x10_2 x11_2).f0, a2, (rd_T54 x10_2 x11_2).f2⟩ : S54) ) (fun _ hk => hk)
                    have hx30_1 := hcc30 1 _ rfl
                    (try simp only [show (k54).sz = 3 from rfl, Nat.mul_one, Nat.add_zero] at hx30_1)
                    have hf30_1 := hfr30 1
                    (try simp only [show (k54).sz = 3 from rfl, Nat.mul_one, Nat.add_zero] at hf30_1)
                    clear hcl30 hcc30 hfr30 hM30
                    go_wp2_with (first | ((with_reducible refine gate_store (t := 3) (p := 71) rfl ?_); refine store_event (t := 3) (p := 71) (v := ?vo_w31) (w1 := (wr.setCell ⟨go27, (x11_2 : Int).toNat * 3 + 1, none⟩ (.int .i64 a2))) ?hg ?ho ?hn ?hr ?_; (case ho => rfl); (case hg => rfl); (case hn => rfl); (case hr => first | (go_simp; done) | (go_simp; rfl)); intro w31 hw; have hg : wr.grownBy w31 (some go27) := (by rw [hw]; exact HP30.2); have hp_ : Kd.R k54 54 w31 w.heap.size (fun _ => True) (.slice (some ⟨go27, 0, none⟩) x10_2.length co29) y355 := (by rw [hw, Ny355.out]; exact HP30.1); clear HP30; have n0_ := Aside0.mk (hp_); have n1_ := Aside0.mk ((by rw [hw]; exact below_set (HB.out) GB27.out : Below w.heap.size w w31)); clear HO_10; clear HB; have HO_10 := n0_; have HB := n1_; clear n0_ n1_; clear hg hw hp_; have p28 : 0 ≤ (x11_2 : Int) := DT; have q28 : (x11_2 : Int) < ((x10_2.length : Int) : Int) := DT; obtain ⟨ce28, hcl28, hM28, hcc28, hfr28⟩ := Kd.R_elem HO_10.out z54 (x11_2 : Int) p28 q28; obtain rfl := k54_openM hM28; have hx28_0 : w31.cell? ⟨go27, (x11_2 : Int).toNat * 3, none⟩ = some (.string ((rd_T54 y355 x11_2).f0)) := hcc28 0 _ rfl; have hx28_1 : w31.cell? ⟨go27, (x11_2 : Int).toNat * 3 + 1, none⟩ = some (.int .i64 ((rd_T54 y355 x11_2).f1)) := hcc28 1 _ rfl; have hx28_2 : w31.cell? ⟨go27, (x11_2 : Int).toNat * 3 + 2, none⟩ = some (.int .i64 ((rd_T54 y355 x11_2).f2)) := hcc28 2 _ rfl; have hf28_0 : w31.frozen? ⟨go27, (x11_2 : Int).toNat * 3, none⟩ = false := hfr28 0; have hf28_1 : w31.frozen? ⟨go27, (x11_2 : Int).toNat * 3 + 1, none⟩ = false := hfr28 1; have hf28_2 : w31.frozen? ⟨go27, (x11_2 : Int).toNat * 3 + 2, none⟩ = false := hfr28 2; clear hcl28 hcc28 hfr28 hM28; replace p28 := eq_true p28; replace q28 := eq_true q28; have HX32 := Aside0.mk (show Kd.R k54 54 w31 w.heap.size (fun _ => True) (.slice (some ⟨go27, 0, none⟩) x10_2.length co29) y355 from (RR HO_10.out)); obtain ⟨ce32, hcl32, hM32, hcc32, hfr32⟩ := Kd.R_elem HX32.out z54 (x11_2 : Int) DT (by have h_ : (x11_2 : Int) < ((x10_2.length : Int) : Int) := DT; first | exact h_ | (have e_ := (Kd.R_reads' HO_10.out).1; omega) | simpa using h_); obtain rfl := k54_openM hM32; have HP32 := Kd.R_seg HX32.out (x11_2 : Int) DT (by have h_ : (x11_2 : Int) < ((x10_2.length : Int) : Int) := DT; first | exact h_ | (have e_ := (Kd.R_reads' HO_10.out).1; omega) | simpa using h_) (seg := [.int .i64 a3]) (j := 2) hcl32 hcc32 (show 3 ≤ 3 from by decide) (x' := (⟨(rd_T54 y355 x11_2).f0, (rd_T54 y355 x11_2).f1, a3⟩ : S54)) (k54_mkM _ _ _ (⟨(rd_T54 y355 x11_2).f0, (rd_T54 y355 x11_2).f1, a3⟩ : S54) ) (fun _ hk => hk); have hx32_2 := hcc32 2 _ rfl; (try simp only [show (k54).sz = 3 from rfl, Nat.mul_one, Nat.add_zero] at hx32_2); have hf32_2 := hfr32 2; (try simp only [show (k54).sz = 3 from rfl, Nat.mul_one, Nat.add_zero] at hf32_2); clear hcl32 hcc32 hfr32 hM32) | ((with_reducible refine gate_store (t := 3) (p := 76) rfl ?_); refine store_event (t := 3) (p := 76) (v := ?vo_w33) (w1 := (w31.setCell ⟨go27, (x11_2 : Int).toNat * 3 + 2, none⟩ (.int .i64 a3))) ?hg ?ho ?hn ?hr ?_; (case ho => rfl); (case hg => rfl); (case hn => rfl); (case hr => first | (go_simp; done) | (go_simp; rfl)); intro w33 hw; have hg : w31.grownBy w33 (some go27) := (by rw [hw]; exact HP32.2); have hp_ : Kd.R k54 54 w33 w.heap.size (fun _ => True) (.slice (some ⟨go27, 0, none⟩) x10_2.length co29) y356 := (by rw [hw, Ny356.out]; exact HP32.1); clear HP32; have n0_ := Aside0.mk (hp_); have n1_ := Aside0.mk ((by rw [hw]; exact below_set (HB.out) GB27.out : Below w.heap.size w w33)); clear HO_10; clear HB; have HO_10 := n0_; have HB := n1_; clear n0_ n1_; clear hg hw hp_))
                    go_ret2
                    exact ⟨_, ER, by (with_reducible repeat (first | apply Kd.R_alloc | apply Kd.R_drewN | apply Kd.R_drew)); exact HO_10.out, (BB HB.out)⟩
                  · rw [if_neg c26] at H
                    have c26b0 : (((rd_T54 x10_2 x11_2).f1) == a2) = false := beq_eq_false_iff_ne.mpr c26
                    have c26b1 : (((rd_T54 x10_2 x11_2).f1) != a2) = true := bne_iff_ne.mpr c26
                    by_cases c34 : (wrap64 (a3 - ((rd_T54 x10_2 x11_2).f2))) < 5
                    · rw [if_pos c34] at H
                      have c34b0 : decide ((wrap64 (a3 - ((rd_T54 x10_2 x11_2).f2))) < 5) = true := decide_eq_true c34
                      clear c34
                      simp only [Option.some.injEq, Prod.mk.injEq] at H
                      obtain ⟨rfl, rfl⟩ := H
                      obtain ⟨Ao35, co35, eo35⟩ := Kd.R_slice HO_10.out
                      subst eo35
                      have p353 : 0 ≤ (x11_2 : Int) := DT
                      have q353 : x11_2 < (x10_2.length : Int) := DT
                      obtain ⟨ad353, e353, hx353_0, hx353_1, hx353_2⟩ := at_T54 (Kd.R_reads' HO_10.out).2.2 x11_2 p353 q353
                      cases e353
                      replace p353 := eq_true p353
                      replace q353 := eq_true q353
                      have p354 : 0 ≤ (x11_2 : Int) := DT
                      have q354 : x11_2 < (x10_2.length : Int) := DT
                      obtain ⟨ad354, e354, hx354_0, hx354_1, hx354_2⟩ := at_T54 (Kd.R_reads' HO_10.out).2.2 x11_2 p354 q354
                      obtain rfl : ad353 = ad354 := (by injection e354)
                      replace p354 := eq_true p354
                      replace q354 := eq_true q354
                      have p357 : 0 ≤ (x11_2 : Int) := DT
                      have q357 : x11_2 < (x10_2.length : Int) := DT
                      obtain ⟨ad357, e357, hx357_0, hx357_1, hx357_2⟩ := at_T54 (Kd.R_reads' HO_10.out).2.2 x11_2 p357 q357
                      obtain rfl : ad353 = ad357 := (by injection e357)
                      replace p357 := eq_true p357
                      replace q357 := eq_true q357
                      go_wp2
                      go_ret2
                      exact ⟨_, ER, by (with_reducible repeat (first | apply Kd.R_alloc | apply Kd.R_drewN | apply Kd.R_drew)); exact HO_10.out, (BB HB.out)⟩
                    · rw [if_neg c34] at H
                      have c34b0 : decide ((wrap64 (a3 - ((rd_T54 x10_2 x11_2).f2))) < 5) = false := decide_eq_false c34
                      clear c34
                      obtain ⟨y358, hy358⟩ : ∃ y_ : List (S54), y_ = (x10_2.set (x11_2 : Int).toNat (⟨(rd_T54 x10_2 x11_2).f0, a2, (rd_T54 x10_2 x11_2).f2⟩ : S54)) := ⟨_, rfl⟩
                      replace H : (some ((y358.set (x11_2 : Int).toNat (⟨(rd_T54 y358 x11_2).f0, (rd_T54 y358 x11_2).f1, a3⟩ : S54)), true)) = some (r1, r2) := by first | (rw [hy358]; with_reducible exact H) | (have H2_ := (Option.bind_some _ _).symm.trans H; rw [hy358]; with_reducible exact H2_) | (have H2_ := (Option.bind_some _ _).symm.trans H; with_reducible exact H2_) | with_reducible exact H | (rw [hy358]; exact H) | exact H
                      have Ny358 := Aside0.mk hy358
                      clear hy358
                      obtain ⟨y359, hy359⟩ : ∃ y_ : List (S54), y_ = (y358.set (x11_2 : Int).toNat (⟨(rd_T54 y358 x11_2).f0, (rd_T54 y358 x11_2).f1, a3⟩ : S54)) := ⟨_, rfl⟩
                      replace H : (some (y359, true)) = some (r1, r2) := by first | (rw [hy359]; with_reducible exact H) | (have H2_ := (Option.bind_some _ _).symm.trans H; rw [hy359]; with_reducible exact H2_) | (have H2_ := (Option.bind_some _ _).symm.trans H; with_reducible exact H2_) | with_reducible exact H | (rw [hy359]; exact H) | exact H
                      have Ny359 := Aside0.mk hy359
                      clear hy359
                      simp only [Option.some.injEq, Prod.mk.injEq] at H
                      obtain ⟨rfl, rfl⟩ := H
                      obtain ⟨Ao38, co38, eo38⟩ := Kd.R_slice HO_10.out
                      subst eo38
                      have p353 : 0 ≤ (x11_2 : Int) := DT
                      have q353 : x11_2 < (x10_2.length : Int) := DT
                      obtain ⟨ad353, e353, hx353_0, hx353_1, hx353_2⟩ := at_T54 (Kd.R_reads' HO_10.out).2.2 x11_2 p353 q353
                      cases e353
                      replace p353 := eq_true p353
                      replace q353 := eq_true q353
                      have p354 : 0 ≤ (x11_2 : Int) := DT
                      have q354 : x11_2 < (x10_2.length : Int) := DT
                      obtain ⟨ad354, e354, hx354_0, hx354_1, hx354_2⟩ := at_T54 (Kd.R_reads' HO_10.out).2.2 x11_2 p354 q354
                      obtain rfl : ad353 = ad354 := (by injection e354)
                      replace p354 := eq_true p354
                      replace q354 := eq_true q354
                      have p357 : 0 ≤ (x11_2 : Int) := DT
                      have q357 : x11_2 < (x10_2.length : Int) := DT
                      obtain ⟨ad357, e357, hx357_0, hx357_1, hx357_2⟩ := at_T54 (Kd.R_reads' HO_10.out).2.2 x11_2 p357 q357
                      obtain rfl : ad353 = ad357 := (by injection e357)
                      replace p357 := eq_true p357
                      replace q357 := eq_true q357
                      have p36 : 0 ≤ (x11_2 : Int) := DT
                      have q36 : (x11_2 : Int) < ((x10_2.length : Int) : Int) := DT
                      obtain ⟨go36, co36, eo36, gb36, gl36, cl36, HG36⟩ := Kd.R_form HO_10.out (by omega)
                      (first | cases eo36 | (injection eo36 with ea_ en_ ec_; (first | subst ea_ | (injection ea_ with ea_; subst ea_)); subst ec_; clear en_))
                      have GB36 := Aside0.mk gb36
                      have GG36 := Aside0.mk HG36
                      clear gb36 gl36 HG36
                      (first | simp only [add_plain] at hx353_0 | skip)
                      (first | simp only [add_plain] at hx353_1 | skip)
                      (first | simp only [add_plain] at hx353_2 | skip)
                      (first | simp only [add_plain] at hx354_0 | skip)
                      (first | simp only [add_plain] at hx354_1 | skip)
                      (first | simp only [add_plain] at hx354_2 | skip)
                      (first | simp only [add_plain] at hx357_0 | skip)
                      (first | simp only [add_plain] at hx357_1 | skip)
                      (first | simp only [add_plain] at hx357_2 | skip)
                      obtain ⟨ce36, hcl36, hM36, hcc36, hfr36⟩ := Kd.R_elem HO_10.out z54 (x11_2 : Int) p36 q36
                      obtain rfl := k54_openM hM36
                      have hx36_0 : wr.cell? ⟨go36, (x11_2 : Int).toNat * 3, none⟩ = some (.string ((rd_T54 x10_2 x11_2).f0)) := hcc36 0 _ rfl
                      have hx36_1 : wr.cell? ⟨go36, (x11_2 : Int).toNat * 3 + 1, none⟩ = some (.int .i64 ((rd_T54 x10_2 x11_2).f1)) := hcc36 1 _ rfl
                      have hx36_2 : wr.cell? ⟨go36, (x11_2 : Int).toNat * 3 + 2, none⟩ = some (.int .i64 ((rd_T54 x10_2 x11_2).f2)) := hcc36 2 _ rfl
                      have hf36_0 : wr.frozen? ⟨go36, (x11_2 : Int).toNat * 3, none⟩ = false := hfr36 0
                      have hf36_1 : wr.frozen? ⟨go36, (x11_2 : Int).toNat * 3 + 1, none⟩ = false := hfr36 1
                      have hf36_2 : wr.frozen? ⟨go36, (x11_2 : Int).toNat * 3 + 2, none⟩ = false := hfr36 2
                      clear hcl36 hcc36 hfr36 hM36
                      replace p36 := eq_true p36
                      replace q36 := eq_true q36
                      have HX39 := Aside0.mk (show Kd.R k54 54 wr w.heap.size (fun _ => True) (.slice (some ⟨go36, 0, none⟩) x10_2.length co38) x10_2 from (RR HO_10.out))
                      obtain ⟨ce39, hcl39, hM39, hcc39, hfr39⟩ := Kd.R_elem HX39.out z54 (x11_2 : Int) DT (by have h_ : (x11_2 : Int) < ((x10_2.length : Int) : Int) := DT; first | exact h_ | (have e_ := (Kd.R_reads' HO_10.out).1; omega) | simpa using h_)
                      obtain rfl := k54_openM hM39
                      have HP39 := Kd.R_seg HX39.out (x11_2 : Int) DT (by have h_ : (x11_2 : Int) < ((x10_2.length : Int) : Int) := DT; first | exact h_ | (have e_ := (Kd.R_reads' HO_10.out).1; omega) | simpa using h_) (seg := [.int .i64 a2]) (j := 1) hcl39 hcc39 (show 2 ≤ 3 from by decide) (x' := (⟨(rd_T54 x10_2 x11_2).f0, a2, (rd_T54 x10_2 x11_2).f2⟩ : S54)) (k54_mkM _ _ _ (⟨(rd_T54 x10_2 x11_2).f0, a2, (rd_T54 x10_2 x11_2).f2⟩ : S54) ) (fun _ hk => hk)
                      have hx39_1 := hcc39 1 _ rfl
                      (try simp only [show (k54).sz = 3 from rfl, Nat.mul_one, Nat.add_zero] at hx39_1)
                      have hf39_1 := hfr39 1
                      (try simp only [show (k54).sz = 3 from rfl, Nat.mul_one, Nat.add_zero] at hf39_1)
                      clear hcl39 hcc39 hfr39 hM39
                      go_wp2_with (first | ((with_reducible refine gate_store (t := 3) (p := 71) rfl ?_); refine store_event (t := 3) (p := 71) (v := ?vo_w40) (w1 := (wr.setCell ⟨go36, (x11_2 : Int).toNat * 3 + 1, none⟩ (.int .i64 a2))) ?hg ?ho ?hn ?hr ?_; (case ho => rfl); (case hg => rfl); (case hn => rfl); (case hr => first | (go_simp; done) | (go_simp; rfl)); intro w40 hw; have hg : wr.grownBy w40 (some go36) := (by rw [hw]; exact HP39.2); have hp_ : Kd.R k54 54 w40 w.heap.size (fun _ => True) (.slice (some ⟨go36, 0, none⟩) x10_2.length co38) y358 := (by rw [hw, Ny358.out]; exact HP39.1); clear HP39; have n0_ := Aside0.mk (hp_); have n1_ := Aside0.mk ((by rw [hw]; exact below_set (HB.out) GB36.out : Below w.heap.size w w40)); clear HO_10; clear HB; have HO_10 := n0_; have HB := n1_; clear n0_ n1_; clear hg hw hp_; have p37 : 0 ≤ (x11_2 : Int) := DT; have q37 : (x11_2 : Int) < ((x10_2.length : Int) : Int) := DT; obtain ⟨ce37, hcl37, hM37, hcc37, hfr37⟩ := Kd.R_elem HO_10.out z54 (x11_2 : Int) p37 q37; obtain rfl := k54_openM hM37; have hx37_0 : w40.cell? ⟨go36, (x11_2 : Int).toNat * 3, none⟩ = some (.string ((rd_T54 y358 x11_2).f0)) := hcc37 0 _ rfl; have hx37_1 : w40.cell? ⟨go36, (x11_2 : Int).toNat * 3 + 1, none⟩ = some (.int .i64 ((rd_T54 y358 x11_2).f1)) := hcc37 1 _ rfl; have hx37_2 : w40.cell? ⟨go36, (x11_2 : Int).toNat * 3 + 2, none⟩ = some (.int .i64 ((rd_T54 y358 x11_2).f2)) := hcc37 2 _ rfl; have hf37_0 : w40.frozen? ⟨go36, (x11_2 : Int).toNat * 3, none⟩ = false := hfr37 0; have hf37_1 : w40.frozen? ⟨go36, (x11_2 : Int).toNat * 3 + 1, none⟩ = false := hfr37 1; have hf37_2 : w40.frozen? ⟨go36, (x11_2 : Int).toNat * 3 + 2, none⟩ = false := hfr37 2; clear hcl37 hcc37 hfr37 hM37; replace p37 := eq_true p37; replace q37 := eq_true q37; have HX41 := Aside0.mk (show Kd.R k54 54 w40 w.heap.size (fun _ => True) (.slice (some ⟨go36, 0, none⟩) x10_2.length co38) y358 from (RR HO_10.out)); obtain ⟨ce41, hcl41, hM41, hcc41, hfr41⟩ := Kd.R_elem HX41.out z54 (x11_2 : Int) DT (by have h_ : (x11_2 : Int) < ((x10_2.length : Int) : Int) := DT; first | exact h_ | (have e_ := (Kd.R_reads' HO_10.out).1; omega) | simpa using h_); obtain rfl := k54_openM hM41; have HP41 := Kd.R_seg HX41.out (x11_2 : Int) DT (by have h_ : (x11_2 : Int) < ((x10_2.length : Int) : Int) := DT; first | exact h_ | (have e_ := (Kd.R_reads' HO_10.out).1; omega) | simpa using h_) (seg := [.int .i64 a3]) (j := 2) hcl41 hcc41 (show 3 ≤ 3 from by decide) (x' := (⟨(rd_T54 y358 x11_2).f0, (rd_T54 y358 x11_2).f1, a3⟩ : S54)) (k54_mkM _ _ _ (⟨(rd_T54 y358 x11_2).f0, (rd_T54 y358 x11_2).f1, a3⟩ : S54) ) (fun _ hk => hk); have hx41_2 := hcc41 2 _ rfl; (try simp only [show (k54).sz = 3 from rfl, Nat.mul_one, Nat.add_zero] at hx41_2); have hf41_2 := hfr41 2; (try simp only [show (k54).sz = 3 from rfl, Nat.mul_one, Nat.add_zero] at hf41_2); clear hcl41 hcc41 hfr41 hM41) | ((with_reducible refine gate_store (t := 3) (p := 76) rfl ?_); refine store_event (t := 3) (p := 76) (v := ?vo_w42) (w1 := (w40.setCell ⟨go36, (x11_2 : Int).toNat * 3 + 2, none⟩ (.int .i64 a3))) ?hg ?ho ?hn ?hr ?_; (case ho => rfl); (case hg => rfl); (case hn => rfl); (case hr => first | (go_simp; done) | (go_simp; rfl)); intro w42 hw; have hg : w40.grownBy w42 (some go36) := (by rw [hw]; exact HP41.2); have hp_ : Kd.R k54 54 w42 w.heap.size (fun _ => True) (.slice (some ⟨go36, 0, none⟩) x10_2.length co38) y359 := (by rw [hw, Ny359.out]; exact HP41.1); clear HP41; have n0_ := Aside0.mk (hp_); have n1_ := Aside0.mk ((by rw [hw]; exact below_set (HB.out) GB36.out : Below w.heap.size w w42)); clear HO_10; clear HB; have HO_10 := n0_; have HB := n1_; clear n0_ n1_; clear hg hw hp_))
                      go_ret2
                      exact ⟨_, ER, by (with_reducible repeat (first | apply Kd.R_alloc | apply Kd.R_drewN | apply Kd.R_drew)); exact HO_10.out, (BB HB.out)⟩
                · rw [if_neg c25] at H
                  have c25b0 : (((rd_T54 x10_2 x11_2).f0).toList == a1.toList) = false := beq_eq_false_iff_ne.mpr c25
                  have c25b1 : (((rd_T54 x10_2 x11_2).f0).toList != a1.toList) = true := bne_iff_ne.mpr c25
                  have H' := Aside0.mk H
                  clear H
                  obtain ⟨Ao43, co43, eo43⟩ := Kd.R_slice HO_10.out
                  subst eo43
                  have p353 : 0 ≤ (x11_2 : Int) := DT
                  have q353 : x11_2 < (x10_2.length : Int) := DT
                  obtain ⟨ad353, e353, hx353_0, hx353_1, hx353_2⟩ := at_T54 (Kd.R_reads' HO_10.out).2.2 x11_2 p353 q353
                  cases e353
                  replace p353 := eq_true p353
                  replace q353 := eq_true q353
                  go_wp2
                  go_roundg k2
                  case measure => have := HJ5.out; have := HK2.out; omega
                  case rel => exact ⟨(x10_2), (wrap64 (x11_2 + 1)), FR, H', ⟨by have := HJ5.out; have := HK2.out; omega⟩, ⟨(RR HO_10.out)⟩, ⟨(BB HB.out)⟩⟩
              · rw [if_neg c24] at H
                exact absurd H (by simp)
            · rw [if_neg c23] at H
              have c23b0 : decide (x11_2 < (x10_2.length : Int)) = false := decide_eq_false c23
              clear c23
              by_cases c44 : (l0.length : Int) = 8
              · rw [if_pos c44] at H
                have c44b0 : ((l0.length : Int) == 8) = true := beq_iff_eq.mpr c44
                have c44b1 : ((l0.length : Int) != 8) = false := bne_eq_false_iff_eq.mpr c44
                clear c44
                simp only [Option.some.injEq, Prod.mk.injEq] at H
                obtain ⟨rfl, rfl⟩ := H
                obtain ⟨Ao45, co45, eo45⟩ := Kd.R_slice HO_10.out
                subst eo45
                go_wp2
                go_ret2
                exact ⟨_, ER, by (with_reducible repeat (first | apply Kd.R_alloc | apply Kd.R_drewN | apply Kd.R_drew)); exact HO_10.out, (BB HB.out)⟩
              · rw [if_neg c44] at H
                have c44b0 : ((l0.length : Int) == 8) = false := beq_eq_false_iff_ne.mpr c44
                have c44b1 : ((l0.length : Int) != 8) = true := bne_iff_ne.mpr c44
                obtain ⟨y360, hy360⟩ : ∃ y_ : List (S54), y_ = (([] : List (S54))) := ⟨_, rfl⟩
                replace H : (spec_TakeLease.l1 k2 l0 a1 a2 a3 y360 0) = some (r1, r2) := by first | (rw [hy360]; with_reducible exact H) | (have H2_ := (Option.bind_some _ _).symm.trans H; rw [hy360]; with_reducible exact H2_) | (have H2_ := (Option.bind_some _ _).symm.trans H; with_reducible exact H2_) | with_reducible exact H | (rw [hy360]; exact H) | exact H
                have Ny360 := Aside0.mk hy360
                clear hy360
                have H' := Aside0.mk H
                clear H
                obtain ⟨Ao46, co46, eo46⟩ := Kd.R_slice HO_10.out
                subst eo46
                go_wp2_with (first | ((with_reducible refine gate_dst (N := 82) rfl ?_); refine Kd.R_lit k54 _ 54 ?hg (N := 82) ?hd (xs := ([] : List (S54))) (inner := []) (ok := fun _ => True) (okp := fun _ => True) ?hr ?hp (fun _ hk => hk) trivial (Below.refl _ _) (Nat.le_refl _) (by simp) ?_; (case hd => rfl); (case hg => rfl); (case hr => first | (go_simp; done) | (go_simp; rfl)); (case hp => exact (Reps.none _ _)); intro v361 w47 ho48 hb hg_ hnew_; clear hg_ hnew_; (first | rw [← Ny360.out] at ho48 | (simp only [Int.reduceToNat] at ho48; rw [← Ny360.out] at ho48)); have HO362 := Aside0.mk (Kd.R_lower (Kd.R_new' ho48 (Kd.R_lt (RR HO_10.out))) (below_size (BB HB.out))); replace HO_10 := Aside0.mk (Kd.R_elder' (RR HO_10.out) (Kd.R_base ho48) hb); replace HB := Aside0.mk (below_step (BB HB.out) hb); clear hb ho48))
                go_loopg [12, 13] k2 (fun kq v12 v13 w' => ∃ (x12_3 : List (S54)) (x13_3 : Int), v13 = .int .i64 x13_3 ∧ Aside0 (spec_TakeLease.l1 kq l0 a1 a2 a3 x12_3 x13_3 = some (r1, r2)) ∧ Aside0 (kq ≤ k2) ∧ Aside0 (Kd.R k54 54 w' w.heap.size (fun _ => True) v12 x12_3) ∧ Aside0 (Below w.heap.size w w'))
                case atStart => exact ⟨(y360), (0), FR, H', ⟨Nat.le_refl _⟩, ⟨by (with_reducible repeat (first | apply Kd.R_alloc | apply Kd.R_drewN | apply Kd.R_drew)); exact Kd.R_mono HO362.out (fun _ hk => trivial)⟩, ⟨(BB HB.out)⟩⟩
                case round =>
                  clear H'
                  try clear c1
                  try clear c2
                  try clear p2
                  try clear q2
                  try clear hx2
                  try clear c3
                  try clear p3
                  try clear q3
                  try clear hx3
                  try clear c4
                  try clear hx4
                  try clear hf4
                  try clear p6
                  try clear c8
                  try clear c9
                  try clear c11
                  try clear c13
                  try clear c21
                  try clear c22
                  try clear c23
                  try clear c23b0
                  try clear c24
                  try clear c24b0
                  try clear c25
                  try clear c25b0
                  try clear c25b1
                  try clear c26
                  try clear c26b0
                  try clear c26b1
                  try clear c27
                  try clear p27
                  try clear q27
                  try clear hx27
                  try clear hf27
                  try clear c28
                  try clear p28
                  try clear q28
                  try clear hx28
                  try clear hf28
                  try clear c30
                  try clear hx30
                  try clear hf30
                  try clear c32
                  try clear hx32
                  try clear hf32
                  try clear c34
                  try clear c34b0
                  try clear p35
                  try clear q35
                  try clear hx35
                  try clear c36
                  try clear p36
                  try clear q36
                  try clear hx36
                  try clear hf36
                  try clear c37
                  try clear p37
                  try clear q37
                  try clear hx37
                  try clear hf37
                  try clear c39
                  try clear hx39
                  try clear hf39
                  try clear c40
                  try clear c41
                  try clear hx41
                  try clear hf41
                  try clear c44
                  try clear c44b0
                  try clear c44b1
                  try clear hx27_0
                  try clear hx27_1
                  try clear hx27_2
                  try clear hx28_0
                  try clear hx28_1
                  try clear hx28_2
                  try clear hx30_1
                  try clear hx32_2
                  try clear hx353_0
                  try clear hx353_1
                  try clear hx353_2
                  try clear hx354_0
                  try clear hx354_1
                  try clear hx354_2
                  try clear hx357_0
                  try clear hx357_1
                  try clear hx357_2
                  try clear hx36_0
                  try clear hx36_1
                  try clear hx36_2
                  try clear hx37_0
                  try clear hx37_1
                  try clear hx37_2
                  try clear hx39_1
                  try clear hx41_2
                  try clear p2
                  try clear p27
                  try clear p28
                  try clear p353
                  try clear p354
                  try clear p357
                  try clear p36
                  try clear p37
                  try clear q27
                  try clear q28
                  try clear q353
                  try clear q354
                  try clear q357
                  try clear q36
                  try clear q37
                  obtain ⟨x12_3, x13_3, rfl, HA, HK3, HO_12, HB⟩ := hrel
                  cases gk with
                  | zero => exact absurd HA.out (by simp [spec_TakeLease.l1])
                  | succ k3 =>
                    have H := HA.out
                    clear HA
                    simp only [spec_TakeLease.l1] at H
                    by_cases c49 : x13_3 < (l0.length : Int)
                    · rw [if_pos c49] at H
                      have c49b0 : decide (x13_3 < (l0.length : Int)) = true := decide_eq_true c49
                      clear c49
                      by_cases c50 : 0 ≤ x13_3
                      · rw [if_pos c50] at H
                        have c50b0 : decide (0 ≤ x13_3) = true := decide_eq_true c50
                        clear c50
                        by_cases c51 : (Op.bytesLess (((rd_T54 l0 x13_3).f0).toList) a1.toList) = true
                        · rw [if_pos c51] at H
                          have c51b0 : (Op.bytesLess (((rd_T54 l0 x13_3).f0).toList) a1.toList) = true := c51
                          clear c51
                          by_cases c52 : x12_3.length < 4398046511104
                          · rw [if_pos c52] at H
                            have LMc52 := Aside0.mk c52
                            clear c52
                            obtain ⟨y365, hy365⟩ : ∃ y_ : List (S54), y_ = (x12_3 ++ [(⟨(rd_T54 l0 x13_3).f0, (rd_T54 l0 x13_3).f1, (rd_T54 l0 x13_3).f2⟩ : S54)]) := ⟨_, rfl⟩
                            replace H : (spec_TakeLease.l1 k3 l0 a1 a2 a3 y365 (wrap64 (x13_3 + 1))) = some (r1, r2) := by first | (rw [hy365]; with_reducible exact H) | (have H2_ := (Option.bind_some _ _).symm.trans H; rw [hy365]; with_reducible exact H2_) | (have H2_ := (Option.bind_some _ _).symm.trans H; with_reducible exact H2_) | with_reducible exact H | (rw [hy365]; exact H) | exact H
                            have Ny365 := Aside0.mk hy365
                            clear hy365
                            have H' := Aside0.mk H
                            clear H
                            have p363 : 0 ≤ (x13_3 : Int) := DT
                            have q363 : x13_3 < (l0.length : Int) := DT
                            obtain ⟨ad363, e363, hx363_0, hx363_1, hx363_2⟩ := at_T54 HR0.out x13_3 p363 q363
                            cases e363
                            replace hx363_0 := (HB.out.cell (World.block_lt_of_cell? w _ hx363_0)).trans hx363_0
                            replace hx363_1 := (HB.out.cell (World.block_lt_of_cell? w _ hx363_1)).trans hx363_1
                            replace hx363_2 := (HB.out.cell (World.block_lt_of_cell? w _ hx363_2)).trans hx363_2
                            replace p363 := eq_true p363
                            replace q363 := eq_true q363
                            have p364 : 0 ≤ (x13_3 : Int) := DT
                            have q364 : x13_3 < (l0.length : Int) := DT
                            obtain ⟨ad364, e364, hx364_0, hx364_1, hx364_2⟩ := at_T54 HR0.out x13_3 p364 q364
                            obtain rfl : ad363 = ad364 := (by injection e364)
                            replace hx364_0 := (HB.out.cell (World.block_lt_of_cell? w _ hx364_0)).trans hx364_0
                            replace hx364_1 := (HB.out.cell (World.block_lt_of_cell? w _ hx364_1)).trans hx364_1
                            replace hx364_2 := (HB.out.cell (World.block_lt_of_cell? w _ hx364_2)).trans hx364_2
                            replace p364 := eq_true p364
                            replace q364 := eq_true q364
                            go_wp2_with (first | ((with_reducible refine gate_builtin (b := .append) (xs := #[.tmp 96, .tmp 101]) rfl ?_); at_builtin; refine Kd.R_append k54 (w0 := w) w.heap.size rfl (.tmp 96) (.tmp 101) 25 54 (.agg #[(.string ⟨#[]⟩), (.int .i64 0), (.int .i64 0)]) 32 rfl Tryd.underlying25 info54 rfl (by decide) (by omega) u12 x12_3 (⟨(rd_T54 l0 x13_3).f0, (rd_T54 l0 x13_3).f1, (rd_T54 l0 x13_3).f2⟩ : S54) [.string ((rd_T54 l0 x13_3).f0), .int .i64 ((rd_T54 l0 x13_3).f1), .int .i64 ((rd_T54 l0 x13_3).f2)] (fun _ => True) (fun _ => False) rfl rfl ?aP (fun _ hk => hk.elim) ?aF ?aO ?aB ?aS ?aL ?_; (case aP => exact k54_mkM _ _ _ (⟨(rd_T54 l0 x13_3).f0, (rd_T54 l0 x13_3).f1, (rd_T54 l0 x13_3).f2⟩ : S54)); (case aB => exact (BB HB.out)); (case aF => exact (fun _ _ => trivial)); (case aO => exact (RR HO_12.out)); (case aS => exact (below_size (BB HB.out))); (case aL => have := LMc52.out; omega); intro v366 w53 ho hb hg hat; rw [← Ny365.out] at ho; have HO367 := Aside0.mk (ho); replace HB := Aside0.mk (hb); clear HO_12; clear ho hb hg hat))
                            go_roundg k3
                            case measure => have := HJ5.out; have := HK2.out; have := HK3.out; omega
                            case rel => exact ⟨(y365), (wrap64 (x13_3 + 1)), FR, H', ⟨by have := HJ5.out; have := HK2.out; have := HK3.out; omega⟩, ⟨(RR HO367.out)⟩, ⟨(BB HB.out)⟩⟩
                          · rw [if_neg c52] at H
                            exact absurd H (by simp)
                        · rw [if_neg c51] at H
                          have c51b0 : (Op.bytesLess (((rd_T54 l0 x13_3).f0).toList) a1.toList) = false := by simpa using c51
                          clear c51
                          have H' := Aside0.mk H
                          clear H
                          have p363 : 0 ≤ (x13_3 : Int) := DT
                          have q363 : x13_3 < (l0.length : Int) := DT
                          obtain ⟨ad363, e363, hx363_0, hx363_1, hx363_2⟩ := at_T54 HR0.out x13_3 p363 q363
                          cases e363
                          replace hx363_0 := (HB.out.cell (World.block_lt_of_cell? w _ hx363_0)).trans hx363_0
                          replace hx363_1 := (HB.out.cell (World.block_lt_of_cell? w _ hx363_1)).trans hx363_1
                          replace hx363_2 := (HB.out.cell (World.block_lt_of_cell? w _ hx363_2)).trans hx363_2
                          replace p363 := eq_true p363
                          replace q363 := eq_true q363
                          go_wp2
                          go_roundg k3
                          case measure => have := HJ5.out; have := HK2.out; have := HK3.out; omega
                          case rel => exact ⟨(x12_3), (wrap64 (x13_3 + 1)), FR, H', ⟨by have := HJ5.out; have := HK2.out; have := HK3.out; omega⟩, ⟨(RR HO_12.out)⟩, ⟨(BB HB.out)⟩⟩
                      · rw [if_neg c50] at H
                        exact absurd H (by simp)
                    · rw [if_neg c49] at H
                      have c49b0 : decide (x13_3 < (l0.length : Int)) = false := decide_eq_false c49
                      clear c49
                      by_cases c54 : x12_3.length < 4398046511104
                      · rw [if_pos c54] at H
                        have LMc54 := Aside0.mk c54
                        clear c54
                        obtain ⟨y368, hy368⟩ : ∃ y_ : List (S54), y_ = (x12_3 ++ [(⟨a1, a2, a3⟩ : S54)]) := ⟨_, rfl⟩
                        replace H : (spec_TakeLease.l2 k3 l0 a1 y368 0) = some (r1, r2) := by first | (rw [hy368]; with_reducible exact H) | (have H2_ := (Option.bind_some _ _).symm.trans H; rw [hy368]; with_reducible exact H2_) | (have H2_ := (Option.bind_some _ _).symm.trans H; with_reducible exact H2_) | with_reducible exact H | (rw [hy368]; exact H) | exact H
                        have Ny368 := Aside0.mk hy368
                        clear hy368
                        have H' := Aside0.mk H
                        clear H
                        go_wp2_with (first | ((with_reducible refine gate_builtin (b := .append) (xs := #[.tmp 103, .tmp 108]) rfl ?_); at_builtin; refine Kd.R_append k54 (w0 := w) w.heap.size rfl (.tmp 103) (.tmp 108) 25 54 (.agg #[(.string ⟨#[]⟩), (.int .i64 0), (.int .i64 0)]) 32 rfl Tryd.underlying25 info54 rfl (by decide) (by omega) u12 x12_3 (⟨a1, a2, a3⟩ : S54) [.string a1, .int .i64 a2, .int .i64 a3] (fun _ => True) (fun _ => False) rfl rfl ?aP (fun _ hk => hk.elim) ?aF ?aO ?aB ?aS ?aL ?_; (case aP => exact k54_mkM _ _ _ (⟨a1, a2, a3⟩ : S54)); (case aB => exact (BB HB.out)); (case aF => exact (fun _ _ => trivial)); (case aO => exact (RR HO_12.out)); (case aS => exact (below_size (BB HB.out))); (case aL => have := LMc54.out; omega); intro v369 w55 ho hb hg hat; rw [← Ny368.out] at ho; have HO370 := Aside0.mk (ho); replace HB := Aside0.mk (hb); clear HO_12; clear ho hb hg hat))
                        go_loopg [12, 14] k3 (fun kq v12 v14 w' => ∃ (x12_4 : List (S54)) (x14_4 : Int), v14 = .int .i64 x14_4 ∧ Aside0 (spec_TakeLease.l2 kq l0 a1 x12_4 x14_4 = some (r1, r2)) ∧ Aside0 (kq ≤ k3) ∧ Aside0 (Kd.R k54 54 w' w.heap.size (fun _ => True) v12 x12_4) ∧ Aside0 (Below w.heap.size w w'))
                        case atStart => exact ⟨(y368), (0), FR, H', ⟨Nat.le_refl _⟩, ⟨(RR HO370.out)⟩, ⟨(BB HB.out)⟩⟩
                        case round =>
                          clear H'
                          try clear c1
                          try clear c2
                          try clear p2
                          try clear q2
                          try clear hx2
                          try clear c3
                          try clear p3
                          try clear q3
                          try clear hx3
                          try clear c4
                          try clear hx4
                          try clear hf4
                          try clear c5
                          try clear p6
                          try clear c8
                          try clear c9
                          try clear c11
                          try clear c13
                          try clear c21
                          try clear c22
                          try clear c23
                          try clear c23b0
                          try clear c24
                          try clear c24b0
                          try clear c25
                          try clear c25b0
                          try clear c25b1
                          try clear c26
                          try clear c26b0
                          try clear c26b1
                          try clear c27
                          try clear p27
                          try clear q27
                          try clear hx27
                          try clear hf27
                          try clear c28
                          try clear p28
                          try clear q28
                          try clear hx28
                          try clear hf28
                          try clear c30
                          try clear hx30
                          try clear hf30
                          try clear c32
                          try clear hx32
                          try clear hf32
                          try clear c34
                          try clear c34b0
                          try clear p35
                          try clear q35
                          try clear hx35
                          try clear c36
                          try clear p36
                          try clear q36
                          try clear hx36
                          try clear hf36
                          try clear c37
                          try clear p37
                          try clear q37
                          try clear hx37
                          try clear hf37
                          try clear c39
                          try clear hx39
                          try clear hf39
                          try clear c40
                          try clear c41
                          try clear hx41
                          try clear hf41
                          try clear c44
                          try clear c44b0
                          try clear c44b1
                          try clear c49
                          try clear c49b0
                          try clear c50
                          try clear c50b0
                          try clear c51
                          try clear c51b0
                          try clear c52
                          try clear c54
                          try clear hx27_0
                          try clear hx27_1
                          try clear hx27_2
                          try clear hx28_0
                          try clear hx28_1
                          try clear hx28_2
                          try clear hx30_1
                          try clear hx32_2
                          try clear hx353_0
                          try clear hx353_1
                          try clear hx353_2
                          try clear hx354_0
                          try clear hx354_1
                          try clear hx354_2
                          try clear hx357_0
                          try clear hx357_1
                          try clear hx357_2
                          try clear hx363_0
                          try clear hx363_1
                          try clear hx363_2
                          try clear hx364_0
                          try clear hx364_1
                          try clear hx364_2
                          try clear hx36_0
                          try clear hx36_1
                          try clear hx36_2
                          try clear hx37_0
                          try clear hx37_1
                          try clear hx37_2
                          try clear hx39_1
                          try clear hx41_2
                          try clear p2
                          try clear p27
                          try clear p28
                          try clear p3
                          try clear p35
                          try clear p353
                          try clear p354
                          try clear p357
                          try clear p36
                          try clear p363
                          try clear p364
                          try clear p37
                          try clear p6
                          try clear q2
                          try clear q27
                          try clear q28
                          try clear q3
                          try clear q35
                          try clear q353
                          try clear q354
                          try clear q357
                          try clear q36
                          try clear q363
                          try clear q364
                          try clear q37
                          obtain ⟨x12_4, x14_4, rfl, HA, HK4, HO_12, HB⟩ := hrel
                          cases gk with
                          | zero => exact absurd HA.out (by simp [spec_TakeLease.l2])
                          | succ k4 =>
                            have H := HA.out
                            clear HA
                            simp only [spec_TakeLease.l2] at H
                            by_cases c56 : x14_4 < (l0.length : Int)
                            · rw [if_pos c56] at H
                              have c56b0 : decide (x14_4 < (l0.length : Int)) = true := decide_eq_true c56
                              clear c56
                              by_cases c57 : 0 ≤ x14_4
                              · rw [if_pos c57] at H
                                have c57b0 : decide (0 ≤ x14_4) = true := decide_eq_true c57
                                clear c57
                                by_cases c58 : (Op.bytesLess a1.toList (((rd_T54 l0 x14_4).f0).toList)) = true
                                · rw [if_pos c58] at H
                                  have c58b0 : (Op.bytesLess a1.toList (((rd_T54 l0 x14_4).f0).toList)) = true := c58
                                  clear c58
                                  by_cases c59 : x12_4.length < 4398046511104
                                  · rw [if_pos c59] at H
                                    have LMc59 := Aside0.mk c59
                                    clear c59
                                    obtain ⟨y373, hy373⟩ : ∃ y_ : List (S54), y_ = (x12_4 ++ [(⟨(rd_T54 l0 x14_4).f0, (rd_T54 l0 x14_4).f1, (rd_T54 l0 x14_4).f2⟩ : S54)]) := ⟨_, rfl⟩
                                    replace H : (spec_TakeLease.l2 k4 l0 a1 y373 (wrap64 (x14_4 + 1))) = some (r1, r2) := by first | (rw [hy373]; with_reducible exact H) | (have H2_ := (Option.bind_some _ _).symm.trans H; rw [hy373]; with_reducible exact H2_) | (have H2_ := (Option.bind_some _ _).symm.trans H; with_reducible exact H2_) | with_reducible exact H | (rw [hy373]; exact H) | exact H
                                    have Ny373 := Aside0.mk hy373
                                    clear hy373
                                    have H' := Aside0.mk H
                                    clear H
                                    have p371 : 0 ≤ (x14_4 : Int) := DT
                                    have q371 : x14_4 < (l0.length : Int) := DT
                                    obtain ⟨ad371, e371, hx371_0, hx371_1, hx371_2⟩ := at_T54 HR0.out x14_4 p371 q371
                                    cases e371
                                    replace hx371_0 := (HB.out.cell (World.block_lt_of_cell? w _ hx371_0)).trans hx371_0
                                    replace hx371_1 := (HB.out.cell (World.block_lt_of_cell? w _ hx371_1)).trans hx371_1
                                    replace hx371_2 := (HB.out.cell (World.block_lt_of_cell? w _ hx371_2)).trans hx371_2
                                    replace p371 := eq_true p371
                                    replace q371 := eq_true q371
                                    have p372 : 0 ≤ (x14_4 : Int) := DT
                                    have q372 : x14_4 < (l0.length : Int) := DT
                                    obtain ⟨ad372, e372, hx372_0, hx372_1, hx372_2⟩ := at_T54 HR0.out x14_4 p372 q372
                                    obtain rfl : ad371 = ad372 := (by injection e372)
                                    replace hx372_0 := (HB.out.cell (World.block_lt_of_cell? w _ hx372_0)).trans hx372_0
                                    replace hx372_1 := (HB.out.cell (World.block_lt_of_cell? w _ hx372_1)).trans hx372_1
                                    replace hx372_2 := (HB.out.cell (World.block_lt_of_cell? w _ hx372_2)).trans hx372_2
                                    replace p372 := eq_true p372
                                    replace q372 := eq_true q372
                                    go_wp2_with (first | ((with_reducible refine gate_builtin (b := .append) (xs := #[.tmp 123, .tmp 128]) rfl ?_); at_builtin; refine Kd.R_append k54 (w0 := w) w.heap.size rfl (.tmp 123) (.tmp 128) 25 54 (.agg #[(.string ⟨#[]⟩), (.int .i64 0), (.int .i64 0)]) 32 rfl Tryd.underlying25 info54 rfl (by decide) (by omega) u12 x12_4 (⟨(rd_T54 l0 x14_4).f0, (rd_T54 l0 x14_4).f1, (rd_T54 l0 x14_4).f2⟩ : S54) [.string ((rd_T54 l0 x14_4).f0), .int .i64 ((rd_T54 l0 x14_4).f1), .int .i64 ((rd_T54 l0 x14_4).f2)] (fun _ => True) (fun _ => False) rfl rfl ?aP (fun _ hk => hk.elim) ?aF ?aO ?aB ?aS ?aL ?_; (case aP => exact k54_mkM _ _ _ (⟨(rd_T54 l0 x14_4).f0, (rd_T54 l0 x14_4).f1, (rd_T54 l0 x14_4).f2⟩ : S54)); (case aB => exact (BB HB.out)); (case aF => exact (fun _ _ => trivial)); (case aO => exact (RR HO_12.out)); (case aS => exact (below_size (BB HB.out))); (case aL => have := LMc59.out; omega); intro v374 w60 ho hb hg hat; rw [← Ny373.out] at ho; have HO375 := Aside0.mk (ho); replace HB := Aside0.mk (hb); clear HO_12; clear ho hb hg hat))
                                    go_roundg k4
                                    case measure => have := HJ5.out; have := HK2.out; have := HK3.out; have := HK4.out; omega
                                    case rel => exact ⟨(y373), (wrap64 (x14_4 + 1)), FR, H', ⟨by have := HJ5.out; have := HK2.out; have := HK3.out; have := HK4.out; omega⟩, ⟨(RR HO375.out)⟩, ⟨(BB HB.out)⟩⟩
                                  · rw [if_neg c59] at H
                                    exact absurd H (by simp)
                                · rw [if_neg c58] at H
                                  have c58b0 : (Op.bytesLess a1.toList (((rd_T54 l0 x14_4).f0).toList)) = false := by simpa using c58
                                  clear c58
                                  have H' := Aside0.mk H
                                  clear H
                                  have p371 : 0 ≤ (x14_4 : Int) := DT
                                  have q371 : x14_4 < (l0.length : Int) := DT
                                  obtain ⟨ad371, e371, hx371_0, hx371_1, hx371_2⟩ := at_T54 HR0.out x14_4 p371 q371
                                  cases e371
                                  replace hx371_0 := (HB.out.cell (World.block_lt_of_cell? w _ hx371_0)).trans hx371_0
                                  replace hx371_1 := (HB.out.cell (World.block_lt_of_cell? w _ hx371_1)).trans hx371_1
                                  replace hx371_2 := (HB.out.cell (World.block_lt_of_cell? w _ hx371_2)).trans hx371_2
                                  replace p371 := eq_true p371
                                  replace q371 := eq_true q371
                                  go_wp2
                                  go_roundg k4
                                  case measure => have := HJ5.out; have := HK2.out; have := HK3.out; have := HK4.out; omega
                                  case rel => exact ⟨(x12_4), (wrap64 (x14_4 + 1)), FR, H', ⟨by have := HJ5.out; have := HK2.out; have := HK3.out; have := HK4.out; omega⟩, ⟨(RR HO_12.out)⟩, ⟨(BB HB.out)⟩⟩
                              · rw [if_neg c57] at H
                                exact absurd H (by simp)
                            · rw [if_neg c56] at H
                              have c56b0 : decide (x14_4 < (l0.length : Int)) = false := decide_eq_false c56
                              clear c56
                              simp only [Option.some.injEq, Prod.mk.injEq] at H
                              obtain ⟨rfl, rfl⟩ := H
                              go_wp2
                              go_ret2
                              exact ⟨_, ER, by (with_reducible repeat (first | apply Kd.R_alloc | apply Kd.R_drewN | apply Kd.R_drew)); exact HO_12.out, (BB HB.out)⟩
                      · rw [if_neg c54] at H
                        exact absurd H (by simp)

end Go.Proofs.YtfgnaneajonapaaDoor.Pr

namespace Go.Proofs.YtfgnaneajonapaaDoor.Pr
open Go.RowKit Go.Proofs.YtfgnaneajonapaaDoorW.PrintWords Go.Proofs.YtfgnaneajonapaaDoorW.PrintLast Go.Proofs.YtfgnaneajonapaaDoorW.PrintMore
attribute [local go_sem] max2_int min2_int max_two min_two max_three min_three max_four min_four
set_option linter.unusedVariables false
set_option linter.unusedSimpArgs false
def laws_markText.l0 : Nat → Int → ByteArray → Option (ByteArray)
  | 0, _, _ => none
  | k + 1, x0, x3 => if x0 > 0 then ((some (([(wrap64 (48 + (Int.tmod x0 10))) % 256] : List Int) : List Int)).bind fun y394 => (if (strOfNums y394).size + x3.size ≤ 9223372036854775807 then (laws_markText.l0 k (wrap64 (Int.tdiv x0 10)) ((strOfNums y394) ++ x3)) else (none))) else (if 1 + x3.size ≤ 9223372036854775807 then (some ((⟨#[109]⟩ : ByteArray) ++ x3)) else (none))
def laws_markText.f (k : Nat) (a0 : Int) : Option (ByteArray) := if a0 ≤ 0 then (some (⟨#[109, 48]⟩ : ByteArray)) else (laws_markText.l0 k a0 (⟨#[]⟩ : ByteArray))
set_option maxHeartbeats 8000000 in
set_option maxRecDepth 100000 in
theorem laws_markText.calls (k : Nat) (a0 : Int) (r : ByteArray) (w : World) (h : laws_markText.f k a0 = some r) :
    Calls Tryd.prog 46 #[.int .i64 a0] w fun e w' => e = .returned (.string r) ∧ Below w.heap.size w w' := by
  have HB := Aside0.mk (Below.refl w.heap.size w)
  have H : (if a0 ≤ 0 then (some (⟨#[109, 48]⟩ : ByteArray)) else (laws_markText.l0 k a0 (⟨#[]⟩ : ByteArray))) = some r := h
  clear h
  by_cases c2 : a0 ≤ 0
  · rw [if_pos c2] at H
    have c2b0 : decide (a0 ≤ 0) = true := decide_eq_true c2
    clear c2
    obtain rfl := Option.some.inj H
    go_enter Tryd.func46, Tryd.ntmps46
    go_wp2
    go_ret
    exact ⟨ER, (BB HB.out)⟩
  · rw [if_neg c2] at H
    have c2b0 : decide (a0 ≤ 0) = false := decide_eq_false c2
    clear c2
    have H' := Aside0.mk H
    clear H
    go_enter Tryd.func46, Tryd.ntmps46
    go_wp2
    go_loopg [0, 3] k (fun kq v0 v3 w' => ∃ (x0_1 : Int) (x3_1 : ByteArray), v0 = .int .i64 x0_1 ∧ v3 = .string x3_1 ∧ Aside0 (laws_markText.l0 kq x0_1 x3_1 = some r) ∧ Aside0 (kq ≤ k) ∧ Aside0 (Below w.heap.size w w'))
    case atStart => exact ⟨(a0), ((⟨#[]⟩ : ByteArray)), FR, FR, H', ⟨Nat.le_refl _⟩, ⟨(BB HB.out)⟩⟩
    case round =>
      clear H'
      try clear c2
      try clear c2b0
      try clear p2
      obtain ⟨x0_1, x3_1, rfl, rfl, HA, HK1, HB⟩ := hrel
      cases gk with
      | zero => exact absurd HA.out (by simp [laws_markText.l0])
      | succ k1 =>
        have H := HA.out
        clear HA
        simp only [laws_markText.l0] at H
        by_cases c3 : x0_1 > 0
        · rw [if_pos c3] at H
          have c3b0 : decide (0 < x0_1) = true := decide_eq_true c3
          clear c3
          obtain ⟨y394, hy394⟩ : ∃ y_ : List Int, y_ = (([(wrap64 (48 + (Int.tmod x0_1 10))) % 256] : List Int)) := ⟨_, rfl⟩
          replace H : (if (strOfNums y394).size + x3_1.size ≤ 9223372036854775807 then (laws_markText.l0 k1 (wrap64 (Int.tdiv x0_1 10)) ((strOfNums y394) ++ x3_1)) else (none)) = some r := by first | (rw [hy394]; with_reducible exact H) | (have H2_ := (Option.bind_some _ _).symm.trans H; rw [hy394]; with_reducible exact H2_) | (have H2_ := (Option.bind_some _ _).symm.trans H; with_reducible exact H2_) | with_reducible exact H | (rw [hy394]; exact H) | exact H
          have Ny394 := Aside0.mk hy394
          clear hy394
          by_cases c4 : (strOfNums y394).size + x3_1.size ≤ 9223372036854775807
          · rw [if_pos c4] at H
            have c4b0 := eq_true c4
            have c4b1 : decide ((strOfNums y394).size + x3_1.size ≤ 9223372036854775807) = true := decide_eq_true c4
            try have c4b2 : (9223372036854775807 < (strOfNums y394).size + x3_1.size) = False := eq_false (Nat.not_lt.2 c4)
            have H' := Aside0.mk H
            clear H
            go_wp2_with (first | ((with_reducible refine gate_dst (N := 12) rfl ?_); refine Kd.R_lit (Kd.int .u8) _ 5 ?hg (N := 12) ?hd (xs := ([(wrap64 (48 + (Int.tmod x0_1 10))) % 256] : List Int)) (inner := [.int .u8 ((wrap64 (48 + (Int.tmod x0_1 10))) % 256)]) (ok := fun _ => True) (okp := fun _ => True) ?hr ?hp (fun _ hk => hk) trivial (Below.refl _ _) (Nat.le_refl _) (by simp) ?_; (case hd => rfl); (case hg => rfl); (case hr => first | (go_simp; done) | (go_simp; rfl)); (case hp => exact (Reps.one (show Kd.M (Kd.int .u8) _ _ _ ((wrap64 (48 + (Int.tmod x0_1 10))) % 256) [.int .u8 ((wrap64 (48 + (Int.tmod x0_1 10))) % 256)] from rfl) (Reps.none _ _))); intro v395 w5 ho6 hb hg_ hnew_; clear hg_ hnew_; (first | rw [← Ny394.out] at ho6 | (simp only [Int.reduceToNat] at ho6; rw [← Ny394.out] at ho6)); have HO396 := Aside0.mk (Kd.R_lower ho6 (below_size (BB HB.out))); replace HB := Aside0.mk (below_step (BB HB.out) hb); clear hb ho6; have hcv7 := own_string (P := Tryd.prog) Tryd.underlying77 Tryd.underlying5 Tryd.underlying9 (Kd.own_of_R HO396.out)))
            go_roundg k1
            case measure => have := HK1.out; omega
            case rel => exact ⟨(wrap64 (Int.tdiv x0_1 10)), ((strOfNums y394) ++ x3_1), FR, FR, H', ⟨by have := HK1.out; omega⟩, ⟨(BB HB.out)⟩⟩
          · rw [if_neg c4] at H
            exact absurd H (by simp)
        · rw [if_neg c3] at H
          have c3b0 : decide (0 < x0_1) = false := decide_eq_false c3
          clear c3
          by_cases c8 : 1 + x3_1.size ≤ 9223372036854775807
          · rw [if_pos c8] at H
            have c8b0 := eq_true c8
            have c8b1 : decide (1 + x3_1.size ≤ 9223372036854775807) = true := decide_eq_true c8
            try have c8b2 : (9223372036854775807 < 1 + x3_1.size) = False := eq_false (Nat.not_lt.2 c8)
            obtain rfl := Option.some.inj H
            go_wp2
            go_ret
            exact ⟨ER, (BB HB.out)⟩
          · rw [if_neg c8] at H
            exact absurd H (by simp)

end Go.Proofs.YtfgnaneajonapaaDoor.Pr

namespace Go.Proofs.YtfgnaneajonapaaDoor.Pr
open Go.RowKit Go.Proofs.YtfgnaneajonapaaDoorW.PrintWords Go.Proofs.YtfgnaneajonapaaDoorW.PrintLast Go.Proofs.YtfgnaneajonapaaDoorW.PrintMore
attribute [local go_sem] max2_int min2_int max_two min_two max_three min_three max_four min_four
set_option linter.unusedVariables false
set_option linter.unusedSimpArgs false
def laws_markLeaseS.l0 : Nat → List (S54) → Int → Int → Option (Int × (List (S54)))
  | 0, _, _, _ => none
  | k + 1, x0, x1, x5 => if x5 < (x0.length : Int) then ((laws_markText.f k x1).bind fun t397 => (if 0 ≤ x5 then ((some (x0.set (x5 : Int).toNat (⟨t397, (rd_T54 x0 x5).f1, (rd_T54 x0 x5).f2⟩ : S54) : List (S54))).bind fun y398 => ((some (y398.set (x5 : Int).toNat (⟨(rd_T54 y398 x5).f0, wrap64 (x1 + 1), (rd_T54 y398 x5).f2⟩ : S54) : List (S54))).bind fun y399 => (laws_markLeaseS.l0 k (y399.set (x5 : Int).toNat (⟨(rd_T54 y399 x5).f0, (rd_T54 y399 x5).f1, wrap64 ((wrap64 (x1 + 1)) + 1)⟩ : S54)) (wrap64 ((wrap64 ((wrap64 (x1 + 1)) + 1)) + 1)) (wrap64 (x5 + 1))))) else (none))) else (some (x1, x0))
def laws_markLeaseS.f (k : Nat) (l0 : List (S54)) (a1 : Int) : Option (Int × (List (S54))) := laws_markLeaseS.l0 k l0 a1 0
set_option maxHeartbeats 8000000 in
set_option maxRecDepth 100000 in
theorem laws_markLeaseS.calls (k : Nat) (P0_ : Nat → Prop) (u9000_ : Value) (l0 : List (S54)) (a1 : Int) (r1 : Int) (r2 : List (S54)) (w0 w : World) (hB : Below w0.heap.size w0 w) (ho0 : Kd.R k54 54 w w0.heap.size P0_ u9000_ l0) (h : laws_markLeaseS.f k l0 a1 = some (r1, r2)) :
    Calls Tryd.prog 23 #[u9000_, .int .i64 a1] w fun e w' => e = .returned (.int .i64 r1) ∧ Kd.R k54 54 w' w0.heap.size (fun k_ => (P0_ k_ ∨ w.heap.size ≤ k_)) u9000_ r2 ∧ Below w0.heap.size w0 w' ∧ Kept w w' (fun k_ => P0_ k_) := by
  have HO0 := Aside0.mk (show Kd.R k54 54 w w0.heap.size (fun k_ => (P0_ k_ ∨ w.heap.size ≤ k_)) u9000_ l0 from Kd.R_mono ho0 (fun k_ hk => (.inl hk)))
  have HK := Aside0.mk (Kept.refl w (fun k_ => P0_ k_))
  have HW0 := Aside0.mk hB.size
  have HB := Aside0.mk hB
  clear hB
  have H : (laws_markLeaseS.l0 k l0 a1 0) = some (r1, r2) := h
  clear h
  have H' := Aside0.mk H
  clear H
  go_enter Tryd.func23, Tryd.ntmps23
  go_wp2
  go_loopg [1, 5] k (fun kq v1 v5 w' => ∃ (x0_1 : List (S54)) (x1_1 : Int) (x5_1 : Int), v1 = .int .i64 x1_1 ∧ v5 = .int .i64 x5_1 ∧ Aside0 (laws_markLeaseS.l0 kq x0_1 x1_1 x5_1 = some (r1, r2)) ∧ Aside0 (kq ≤ k) ∧ Aside0 (Kd.R k54 54 w' w0.heap.size (fun k_ => (P0_ k_ ∨ w.heap.size ≤ k_)) u9000_ x0_1) ∧ Aside0 (Kept w w' (fun k_ => P0_ k_)) ∧ Aside0 (Below w0.heap.size w0 w'))
  case atStart => exact ⟨(l0), (a1), (0), FR, FR, H', ⟨Nat.le_refl _⟩, ⟨(RR HO0.out)⟩, ⟨by repeat (first | (with_reducible first | exact HK.out | apply Kept.alloc | apply Kept.drewN | apply Kept.drew) | exact HK.out)⟩, ⟨(BB HB.out)⟩⟩
  case round =>
    clear H'
    try clear c2
    try clear p2
    obtain ⟨x0_1, x1_1, x5_1, rfl, rfl, HA, HK1, HO_0, HK, HB⟩ := hrel
    cases gk with
    | zero => exact absurd HA.out (by simp [laws_markLeaseS.l0])
    | succ k1 =>
      have H := HA.out
      clear HA
      simp only [laws_markLeaseS.l0] at H
      by_cases c3 : x5_1 < (x0_1.length : Int)
      · rw [if_pos c3] at H
        have c3b0 : decide (x5_1 < (x0_1.length : Int)) = true := decide_eq_true c3
        clear c3
        replace H := Option.bind_eq_some_iff.mp H
        obtain ⟨t397, A40, H⟩ := H
        replace H : (if 0 ≤ x5_1 then ((some (x0_1.set (x5_1 : Int).toNat (⟨t397, (rd_T54 x0_1 x5_1).f1, (rd_T54 x0_1 x5_1).f2⟩ : S54) : List (S54))).bind fun y398 => ((some (y398.set (x5_1 : Int).toNat (⟨(rd_T54 y398 x5_1).f0, wrap64 (x1_1 + 1), (rd_T54 y398 x5_1).f2⟩ : S54) : List (S54))).bind fun y399 => (laws_markLeaseS.l0 k1 (y399.set (x5_1 : Int).toNat (⟨(rd_T54 y399 x5_1).f0, (rd_T54 y399 x5_1).f1, wrap64 ((wrap64 (x1_1 + 1)) + 1)⟩ : S54)) (wrap64 ((wrap64 ((wrap64 (x1_1 + 1)) + 1)) + 1)) (wrap64 (x5_1 + 1))))) else (none)) = some (r1, r2) := H
        have A4 := Aside0.mk A40
        clear A40
        by_cases c5 : 0 ≤ x5_1
        · rw [if_pos c5] at H
          have c5b0 : decide (0 ≤ x5_1) = true := decide_eq_true c5
          clear c5
          obtain ⟨y398, hy398⟩ : ∃ y_ : List (S54), y_ = (x0_1.set (x5_1 : Int).toNat (⟨t397, (rd_T54 x0_1 x5_1).f1, (rd_T54 x0_1 x5_1).f2⟩ : S54)) := ⟨_, rfl⟩
          replace H : ((some (y398.set (x5_1 : Int).toNat (⟨(rd_T54 y398 x5_1).f0, wrap64 (x1_1 + 1), (rd_T54 y398 x5_1).f2⟩ : S54) : List (S54))).bind fun y399 => (laws_markLeaseS.l0 k1 (y399.set (x5_1 : Int).toNat (⟨(rd_T54 y399 x5_1).f0, (rd_T54 y399 x5_1).f1, wrap64 ((wrap64 (x1_1 + 1)) + 1)⟩ : S54)) (wrap64 ((wrap64 ((wrap64 (x1_1 + 1)) + 1)) + 1)) (wrap64 (x5_1 + 1)))) = some (r1, r2) := by first | (rw [hy398]; with_reducible exact H) | (have H2_ := (Option.bind_some _ _).symm.trans H; rw [hy398]; with_reducible exact H2_) | (have H2_ := (Option.bind_some _ _).symm.trans H; with_reducible exact H2_) | with_reducible exact H | (rw [hy398]; exact H) | exact H
          have Ny398 := Aside0.mk hy398
          clear hy398
          obtain ⟨y399, hy399⟩ : ∃ y_ : List (S54), y_ = (y398.set (x5_1 : Int).toNat (⟨(rd_T54 y398 x5_1).f0, wrap64 (x1_1 + 1), (rd_T54 y398 x5_1).f2⟩ : S54)) := ⟨_, rfl⟩
          replace H : (laws_markLeaseS.l0 k1 (y399.set (x5_1 : Int).toNat (⟨(rd_T54 y399 x5_1).f0, (rd_T54 y399 x5_1).f1, wrap64 ((wrap64 (x1_1 + 1)) + 1)⟩ : S54)) (wrap64 ((wrap64 ((wrap64 (x1_1 + 1)) + 1)) + 1)) (wrap64 (x5_1 + 1))) = some (r1, r2) := by first | (rw [hy399]; with_reducible exact H) | (have H2_ := (Option.bind_some _ _).symm.trans H; rw [hy399]; with_reducible exact H2_) | (have H2_ := (Option.bind_some _ _).symm.trans H; with_reducible exact H2_) | with_reducible exact H | (rw [hy399]; exact H) | exact H
          have Ny399 := Aside0.mk hy399
          clear hy399
          obtain ⟨y400, hy400⟩ : ∃ y_ : List (S54), y_ = (y399.set (x5_1 : Int).toNat (⟨(rd_T54 y399 x5_1).f0, (rd_T54 y399 x5_1).f1, wrap64 ((wrap64 (x1_1 + 1)) + 1)⟩ : S54)) := ⟨_, rfl⟩
          replace H : (laws_markLeaseS.l0 k1 y400 (wrap64 ((wrap64 ((wrap64 (x1_1 + 1)) + 1)) + 1)) (wrap64 (x5_1 + 1))) = some (r1, r2) := by first | (rw [hy400]; with_reducible exact H) | (have H2_ := (Option.bind_some _ _).symm.trans H; rw [hy400]; with_reducible exact H2_) | (have H2_ := (Option.bind_some _ _).symm.trans H; with_reducible exact H2_) | with_reducible exact H | (rw [hy400]; exact H) | exact H
          have Ny400 := Aside0.mk hy400
          clear hy400
          have H' := Aside0.mk H
          clear H
          obtain ⟨Ao9, co9, eo9⟩ := Kd.R_slice HO_0.out
          subst eo9
          go_wp2_with (first | ((with_reducible refine gate_callee (f := 46) rfl ?_); refine GL (some 15) rfl rfl Tryd.func46 #[.int .i64 x1_1] rfl ?_; (with_reducible refine (laws_markText.calls k1 x1_1 t397 _ A4.out).mono ?_); rintro e w10 ⟨rfl, hb⟩; refine ⟨_, rfl, ?_⟩; replace HO_0 := Aside0.mk (Kd.R_below (RR HO_0.out) hb); replace HK := Aside0.mk (Kept.below (S := (fun k_ => P0_ k_)) (by repeat (first | (with_reducible first | exact HK.out | apply Kept.alloc | apply Kept.drewN | apply Kept.drew) | exact HK.out)) hb); replace HB := Aside0.mk (below_step (BB HB.out) hb); (try clear hb); have p6 : 0 ≤ (x5_1 : Int) := DT; have q6 : (x5_1 : Int) < ((x0_1.length : Int) : Int) := DT; obtain ⟨go6, co6, eo6, gb6, gl6, cl6, HG6⟩ := Kd.R_form HO_0.out (by omega); (first | cases eo6 | (injection eo6 with ea_ en_ ec_; (first | subst ea_ | (injection ea_ with ea_; subst ea_)); subst ec_; clear en_)); have GB6 := Aside0.mk gb6; have GG6 := Aside0.mk HG6; clear gb6 gl6 HG6; have HMgo6 := Aside0.mk (show (P0_ go6 ∨ w.heap.size ≤ go6) from (HO_0.out.1 _ rfl)); obtain ⟨ce6, hcl6, hM6, hcc6, hfr6⟩ := Kd.R_elem HO_0.out z54 (x5_1 : Int) p6 q6; obtain rfl := k54_openM hM6; have hx6_0 : w10.cell? ⟨go6, (x5_1 : Int).toNat * 3, none⟩ = some (.string ((rd_T54 x0_1 x5_1).f0)) := hcc6 0 _ rfl; have hx6_1 : w10.cell? ⟨go6, (x5_1 : Int).toNat * 3 + 1, none⟩ = some (.int .i64 ((rd_T54 x0_1 x5_1).f1)) := hcc6 1 _ rfl; have hx6_2 : w10.cell? ⟨go6, (x5_1 : Int).toNat * 3 + 2, none⟩ = some (.int .i64 ((rd_T54 x0_1 x5_1).f2)) := hcc6 2 _ rfl; have hf6_0 : w10.frozen? ⟨go6, (x5_1 : Int).toNat * 3, none⟩ = false := hfr6 0; have hf6_1 : w10.frozen? ⟨go6, (x5_1 : Int).toNat * 3 + 1, none⟩ = false := hfr6 1; have hf6_2 : w10.frozen? ⟨go6, (x5_1 : Int).toNat * 3 + 2, none⟩ = false := hfr6 2; clear hcl6 hcc6 hfr6 hM6; replace p6 := eq_true p6; replace q6 := eq_true q6; have HX11 := Aside0.mk (show Kd.R k54 54 w10 w0.heap.size (fun k_ => (P0_ k_ ∨ w.heap.size ≤ k_)) (.slice (some ⟨go6, 0, none⟩) x0_1.length co9) x0_1 from (RR HO_0.out)); obtain ⟨ce11, hcl11, hM11, hcc11, hfr11⟩ := Kd.R_elem HX11.out z54 (x5_1 : Int) DT (by have h_ : (x5_1 : Int) < ((x0_1.length : Int) : Int) := DT; first | exact h_ | (have e_ := (Kd.R_reads' HO_0.out).1; omega) | simpa using h_); obtain rfl := k54_openM hM11; have HP11 := Kd.R_seg HX11.out (x5_1 : Int) DT (by have h_ : (x5_1 : Int) < ((x0_1.length : Int) : Int) := DT; first | exact h_ | (have e_ := (Kd.R_reads' HO_0.out).1; omega) | simpa using h_) (seg := [.string t397]) (j := 0) hcl11 hcc11 (show 1 ≤ 3 from by decide) (x' := (⟨t397, (rd_T54 x0_1 x5_1).f1, (rd_T54 x0_1 x5_1).f2⟩ : S54)) (k54_mkM _ _ _ (⟨t397, (rd_T54 x0_1 x5_1).f1, (rd_T54 x0_1 x5_1).f2⟩ : S54) ) (fun _ hk => hk); have hx11_0 := hcc11 0 _ rfl; (try simp only [show (k54).sz = 3 from rfl, Nat.mul_one, Nat.add_zero] at hx11_0); have hf11_0 := hfr11 0; (try simp only [show (k54).sz = 3 from rfl, Nat.mul_one, Nat.add_zero] at hf11_0); clear hcl11 hcc11 hfr11 hM11) | ((with_reducible refine gate_store (t := 9) (p := 17) rfl ?_); refine store_event (t := 9) (p := 17) (v := ?vo_w12) (w1 := (w10.setCell ⟨go6, (x5_1 : Int).toNat * 3, none⟩ (.string t397))) ?hg ?ho ?hn ?hr ?_; (case ho => rfl); (case hg => rfl); (case hn => rfl); (case hr => first | (go_simp; done) | (go_simp; rfl)); intro w12 hw; have hg : w10.grownBy w12 (some go6) := (by rw [hw]; exact HP11.2); have hp_ : Kd.R k54 54 w12 w0.heap.size (fun k_ => (P0_ k_ ∨ w.heap.size ≤ k_)) (.slice (some ⟨go6, 0, none⟩) x0_1.length co9) y398 := (by rw [hw, Ny398.out]; exact HP11.1); clear HP11; have n0_ := Aside0.mk (hp_); have n1_ := Aside0.mk ((by rw [hw]; exact below_set (HB.out) GB6.out : Below w0.heap.size w0 w12)); have n2_ := Aside0.mk (Kept.of_grown (S := (fun k_ => P0_ k_)) hg (by repeat (first | (with_reducible first | exact HK.out | apply Kept.alloc | apply Kept.drewN | apply Kept.drew) | exact HK.out)) (fun k_ e_ => (HO_0.out.1 k_ e_))); clear HO_0; clear HB; clear HK; have HO_0 := n0_; have HB := n1_; have HK := n2_; clear n0_ n1_ n2_; clear hg hw hp_; have p7 : 0 ≤ (x5_1 : Int) := DT; have q7 : (x5_1 : Int) < ((x0_1.length : Int) : Int) := DT; obtain ⟨ce7, hcl7, hM7, hcc7, hfr7⟩ := Kd.R_elem HO_0.out z54 (x5_1 : Int) p7 q7; obtain rfl := k54_openM hM7; have hx7_0 : w12.cell? ⟨go6, (x5_1 : Int).toNat * 3, none⟩ = some (.string ((rd_T54 y398 x5_1).f0)) := hcc7 0 _ rfl; have hx7_1 : w12.cell? ⟨go6, (x5_1 : Int).toNat * 3 + 1, none⟩ = some (.int .i64 ((rd_T54 y398 x5_1).f1)) := hcc7 1 _ rfl; have hx7_2 : w12.cell? ⟨go6, (x5_1 : Int).toNat * 3 + 2, none⟩ = some (.int .i64 ((rd_T54 y398 x5_1).f2)) := hcc7 2 _ rfl; have hf7_0 : w12.frozen? ⟨go6, (x5_1 : Int).toNat * 3, none⟩ = false := hfr7 0; have hf7_1 : w12.frozen? ⟨go6, (x5_1 : Int).toNat * 3 + 1, none⟩ = false := hfr7 1; have hf7_2 : w12.frozen? ⟨go6, (x5_1 : Int).toNat * 3 + 2, none⟩ = false := hfr7 2; clear hcl7 hcc7 hfr7 hM7; replace p7 := eq_true p7; replace q7 := eq_true q7; have HX13 := Aside0.mk (show Kd.R k54 54 w12 w0.heap.size (fun k_ => (P0_ k_ ∨ w.heap.size ≤ k_)) (.slice (some ⟨go6, 0, none⟩) x0_1.length co9) y398 from (RR HO_0.out)); obtain ⟨ce13, hcl13, hM13, hcc13, hfr13⟩ := Kd.R_elem HX13.out z54 (x5_1 : Int) DT (by have h_ : (x5_1 : Int) < ((x0_1.length : Int) : Int) := DT; first | exact h_ | (have e_ := (Kd.R_reads' HO_0.out).1; omega) | simpa using h_); obtain rfl := k54_openM hM13; have HP13 := Kd.R_seg HX13.out (x5_1 : Int) DT (by have h_ : (x5_1 : Int) < ((x0_1.length : Int) : Int) := DT; first | exact h_ | (have e_ := (Kd.R_reads' HO_0.out).1; omega) | simpa using h_) (seg := [.int .i64 (wrap64 (x1_1 + 1))]) (j := 1) hcl13 hcc13 (show 2 ≤ 3 from by decide) (x' := (⟨(rd_T54 y398 x5_1).f0, wrap64 (x1_1 + 1), (rd_T54 y398 x5_1).f2⟩ : S54)) (k54_mkM _ _ _ (⟨(rd_T54 y398 x5_1).f0, wrap64 (x1_1 + 1), (rd_T54 y398 x5_1).f2⟩ : S54) ) (fun _ hk => hk); have hx13_1 := hcc13 1 _ rfl; (try simp only [show (k54).sz = 3 from rfl, Nat.mul_one, Nat.add_zero] at hx13_1); have hf13_1 := hfr13 1; (try simp only [show (k54).sz = 3 from rfl, Nat.mul_one, Nat.add_zero] at hf13_1); clear hcl13 hcc13 hfr13 hM13) | ((with_reducible refine gate_store (t := 3) (p := 24) rfl ?_); refine store_event (t := 3) (p := 24) (v := ?vo_w14) (w1 := (w12.setCell ⟨go6, (x5_1 : Int).toNat * 3 + 1, none⟩ (.int .i64 (wrap64 (x1_1 + 1))))) ?hg ?ho ?hn ?hr ?_; (case ho => rfl); (case hg => rfl); (case hn => rfl); (case hr => first | (go_simp; done) | (go_simp; rfl)); intro w14 hw; have hg : w12.grownBy w14 (some go6) := (by rw [hw]; exact HP13.2); have hp_ : Kd.R k54 54 w14 w0.heap.size (fun k_ => (P0_ k_ ∨ w.heap.size ≤ k_)) (.slice (some ⟨go6, 0, none⟩) x0_1.length co9) y399 := (by rw [hw, Ny399.out]; exact HP13.1); clear HP13; have n0_ := Aside0.mk (hp_); have n1_ := Aside0.mk ((by rw [hw]; exact below_set (HB.out) GB6.out : Below w0.heap.size w0 w14)); have n2_ := Aside0.mk (Kept.of_grown (S := (fun k_ => P0_ k_)) hg (by repeat (first | (with_reducible first | exact HK.out | apply Kept.alloc | apply Kept.drewN | apply Kept.drew) | exact HK.out)) (fun k_ e_ => (HO_0.out.1 k_ e_))); clear HO_0; clear HB; clear HK; have HO_0 := n0_; have HB := n1_; have HK := n2_; clear n0_ n1_ n2_; clear hg hw hp_; have p8 : 0 ≤ (x5_1 : Int) := DT; have q8 : (x5_1 : Int) < ((x0_1.length : Int) : Int) := DT; obtain ⟨ce8, hcl8, hM8, hcc8, hfr8⟩ := Kd.R_elem HO_0.out z54 (x5_1 : Int) p8 q8; obtain rfl := k54_openM hM8; have hx8_0 : w14.cell? ⟨go6, (x5_1 : Int).toNat * 3, none⟩ = some (.string ((rd_T54 y399 x5_1).f0)) := hcc8 0 _ rfl; have hx8_1 : w14.cell? ⟨go6, (x5_1 : Int).toNat * 3 + 1, none⟩ = some (.int .i64 ((rd_T54 y399 x5_1).f1)) := hcc8 1 _ rfl; have hx8_2 : w14.cell? ⟨go6, (x5_1 : Int).toNat * 3 + 2, none⟩ = some (.int .i64 ((rd_T54 y399 x5_1).f2)) := hcc8 2 _ rfl; have hf8_0 : w14.frozen? ⟨go6, (x5_1 : Int).toNat * 3, none⟩ = false := hfr8 0; have hf8_1 : w14.frozen? ⟨go6, (x5_1 : Int).toNat * 3 + 1, none⟩ = false := hfr8 1; have hf8_2 : w14.frozen? ⟨go6, (x5_1 : Int).toNat * 3 + 2, none⟩ = false := hfr8 2; clear hcl8 hcc8 hfr8 hM8; replace p8 := eq_true p8; replace q8 := eq_true q8; have HX15 := Aside0.mk (show Kd.R k54 54 w14 w0.heap.size (fun k_ => (P0_ k_ ∨ w.heap.size ≤ k_)) (.slice (some ⟨go6, 0, none⟩) x0_1.length co9) y399 from (RR HO_0.out)); obtain ⟨ce15, hcl15, hM15, hcc15, hfr15⟩ := Kd.R_elem HX15.out z54 (x5_1 : Int) DT (by have h_ : (x5_1 : Int) < ((x0_1.length : Int) : Int) := DT; first | exact h_ | (have e_ := (Kd.R_reads' HO_0.out).1; omega) | simpa using h_); obtain rfl := k54_openM hM15; have HP15 := Kd.R_seg HX15.out (x5_1 : Int) DT (by have h_ : (x5_1 : Int) < ((x0_1.length : Int) : Int) := DT; first | exact h_ | (have e_ := (Kd.R_reads' HO_0.out).1; omega) | simpa using h_) (seg := [.int .i64 (wrap64 ((wrap64 (x1_1 + 1)) + 1))]) (j := 2) hcl15 hcc15 (show 3 ≤ 3 from by decide) (x' := (⟨(rd_T54 y399 x5_1).f0, (rd_T54 y399 x5_1).f1, wrap64 ((wrap64 (x1_1 + 1)) + 1)⟩ : S54)) (k54_mkM _ _ _ (⟨(rd_T54 y399 x5_1).f0, (rd_T54 y399 x5_1).f1, wrap64 ((wrap64 (x1_1 + 1)) + 1)⟩ : S54) ) (fun _ hk => hk); have hx15_2 := hcc15 2 _ rfl; (try simp only [show (k54).sz = 3 from rfl, Nat.mul_one, Nat.add_zero] at hx15_2); have hf15_2 := hfr15 2; (try simp only [show (k54).sz = 3 from rfl, Nat.mul_one, Nat.add_zero] at hf15_2); clear hcl15 hcc15 hfr15 hM15) | ((with_reducible refine gate_store (t := 3) (p := 31) rfl ?_); refine store_event (t := 3) (p := 31) (v := ?vo_w16) (w1 := (w14.setCell ⟨go6, (x5_1 : Int).toNat * 3 + 2, none⟩ (.int .i64 (wrap64 ((wrap64 (x1_1 + 1)) + 1))))) ?hg ?ho ?hn ?hr ?_; (case ho => rfl); (case hg => rfl); (case hn => rfl); (case hr => first | (go_simp; done) | (go_simp; rfl)); intro w16 hw; have hg : w14.grownBy w16 (some go6) := (by rw [hw]; exact HP15.2); have hp_ : Kd.R k54 54 w16 w0.heap.size (fun k_ => (P0_ k_ ∨ w.heap.size ≤ k_)) (.slice (some ⟨go6, 0, none⟩) x0_1.length co9) y400 := (by rw [hw, Ny400.out]; exact HP15.1); clear HP15; have n0_ := Aside0.mk (hp_); have n1_ := Aside0.mk ((by rw [hw]; exact below_set (HB.out) GB6.out : Below w0.heap.size w0 w16)); have n2_ := Aside0.mk (Kept.of_grown (S := (fun k_ => P0_ k_)) hg (by repeat (first | (with_reducible first | exact HK.out | apply Kept.alloc | apply Kept.drewN | apply Kept.drew) | exact HK.out)) (fun k_ e_ => (HO_0.out.1 k_ e_))); clear HO_0; clear HB; clear HK; have HO_0 := n0_; have HB := n1_; have HK := n2_; clear n0_ n1_ n2_; clear hg hw hp_))
          go_roundg k1
          case measure => have := HK1.out; omega
          case rel => exact ⟨(y400), (wrap64 ((wrap64 ((wrap64 (x1_1 + 1)) + 1)) + 1)), (wrap64 (x5_1 + 1)), FR, FR, H', ⟨by have := HK1.out; omega⟩, ⟨(RR HO_0.out)⟩, ⟨by repeat (first | (with_reducible first | exact HK.out | apply Kept.alloc | apply Kept.drewN | apply Kept.drew) | exact HK.out)⟩, ⟨(BB HB.out)⟩⟩
        · rw [if_neg c5] at H
          exact absurd H (by simp)
      · rw [if_neg c3] at H
        have c3b0 : decide (x5_1 < (x0_1.length : Int)) = false := decide_eq_false c3
        clear c3
        simp only [Option.some.injEq, Prod.mk.injEq] at H
        obtain ⟨rfl, rfl⟩ := H
        obtain ⟨Ao17, co17, eo17⟩ := Kd.R_slice HO_0.out
        subst eo17
        go_wp2
        go_ret
        exact ⟨ER, by (with_reducible repeat (first | apply Kd.R_alloc | apply Kd.R_drewN | apply Kd.R_drew)); exact HO_0.out, (BB HB.out), by repeat (first | (with_reducible first | exact HK.out | apply Kept.alloc | apply Kept.drewN | apply Kept.drew) | exact HK.out)⟩

end Go.Proofs.YtfgnaneajonapaaDoor.Pr

namespace Go.Proofs.YtfgnaneajonapaaDoor.Pr
open Go.RowKit Go.Proofs.YtfgnaneajonapaaDoorW.PrintWords Go.Proofs.YtfgnaneajonapaaDoorW.PrintLast Go.Proofs.YtfgnaneajonapaaDoorW.PrintMore
attribute [local go_sem] max2_int min2_int max_two min_two max_three min_three max_four min_four
set_option linter.unusedVariables false
set_option linter.unusedSimpArgs false
def laws_heldLeaseS.l0 : Nat → List (S54) → Int → Int → Option (Int)
  | 0, _, _, _ => none
  | k + 1, x0, x1, x5 => if x5 < (x0.length : Int) then (if 0 ≤ x5 then ((laws_markText.f k x1).bind fun t402 => (if ((rd_T54 x0 x5).f0).toList = t402.toList then (if ((rd_T54 x0 x5).f1) = (wrap64 (x1 + 1)) then (if ((rd_T54 x0 x5).f2) = (wrap64 ((wrap64 (x1 + 1)) + 1)) then (laws_heldLeaseS.l0 k x0 (wrap64 ((wrap64 ((wrap64 (x1 + 1)) + 1)) + 1)) (wrap64 (x5 + 1))) else (some (-1))) else (some (-1))) else (some (-1)))) else (none)) else (some x1)
def laws_heldLeaseS.f (k : Nat) (l0 : List (S54)) (a1 : Int) : Option (Int) := laws_heldLeaseS.l0 k l0 a1 0
def laws_heldLeaseS.T4 : Bool × List (List Nat × List Nat) := (true, [([], []), ([], []), ([0, 1], [0, 1]), ([2], [2]), ([3], [3]), ([], []), ([5], [5]), ([4, 6], [4, 6])])
def laws_heldLeaseS.B4 : List Nat := [0, 0, 3, 7, 15, 0, 32, 127]
theorem laws_heldLeaseS.tab4 : rtab .any (opsOf Tryd.f24 4) = laws_heldLeaseS.T4 := by kernel_rfl
theorem laws_heldLeaseS.bits4 : waitsOk laws_heldLeaseS.T4.2 laws_heldLeaseS.B4 = true := by kernel_rfl
set_option maxHeartbeats 8000000 in
set_option maxRecDepth 100000 in
theorem laws_heldLeaseS.calls (k : Nat) (A0 : Option Addr) (c0 : Nat) (l0 : List (S54)) (a1 : Int) (r : Int) (w : World) (hr0 : Kd.C k54 w A0 l0.length l0) (hc0 : l0.length ≤ c0) (h : laws_heldLeaseS.f k l0 a1 = some r) :
    Calls Tryd.prog 24 #[.slice A0 l0.length c0, .int .i64 a1] w fun e w' => e = .returned (.int .i64 r) ∧ Below w.heap.size w w' := by
  have HR0 := Aside0.mk hr0
  have HC0 := Aside0.mk hc0
  clear hr0 hc0
  have HB := Aside0.mk (Below.refl w.heap.size w)
  have H : (laws_heldLeaseS.l0 k l0 a1 0) = some r := h
  clear h
  have H' := Aside0.mk H
  clear H
  go_enter Tryd.func24, Tryd.ntmps24
  go_wp2
  go_loopg [1, 5] k (fun kq v1 v5 w' => ∃ (x1_1 : Int) (x5_1 : Int), v1 = .int .i64 x1_1 ∧ v5 = .int .i64 x5_1 ∧ Aside0 (laws_heldLeaseS.l0 kq l0 x1_1 x5_1 = some r) ∧ Aside0 (kq ≤ k) ∧ Aside0 (Below w.heap.size w w'))
  case atStart => exact ⟨(a1), (0), FR, FR, H', ⟨Nat.le_refl _⟩, ⟨(BB HB.out)⟩⟩
  case round =>
    clear H'
    try clear c2
    try clear p2
    obtain ⟨x1_1, x5_1, rfl, rfl, HA, HK1, HB⟩ := hrel
    cases gk with
    | zero => exact absurd HA.out (by simp [laws_heldLeaseS.l0])
    | succ k1 =>
      have H := HA.out
      clear HA
      simp only [laws_heldLeaseS.l0] at H
      by_cases c3 : x5_1 < (l0.length : Int)
      · rw [if_pos c3] at H
        have c3b0 : decide (x5_1 < (l0.length : Int)) = true := decide_eq_true c3
        clear c3
        by_cases c4 : 0 ≤ x5_1
        · rw [if_pos c4] at H
          have c4b0 : decide (0 ≤ x5_1) = true := decide_eq_true c4
          clear c4
          replace H := Option.bind_eq_some_iff.mp H
          obtain ⟨t402, A50, H⟩ := H
          replace H : (if ((rd_T54 l0 x5_1).f0).toList = t402.toList then (if ((rd_T54 l0 x5_1).f1) = (wrap64 (x1_1 + 1)) then (if ((rd_T54 l0 x5_1).f2) = (wrap64 ((wrap64 (x1_1 + 1)) + 1)) then (laws_heldLeaseS.l0 k1 l0 (wrap64 ((wrap64 ((wrap64 (x1_1 + 1)) + 1)) + 1)) (wrap64 (x5_1 + 1))) else (some (-1))) else (some (-1))) else (some (-1))) = some r := H
          have A5 := Aside0.mk A50
          clear A50
          by_cases c6 : ((rd_T54 l0 x5_1).f0).toList = t402.toList
          · rw [if_pos c6] at H
            have c6b0 : (((rd_T54 l0 x5_1).f0).toList == t402.toList) = true := beq_iff_eq.mpr c6
            have c6b1 : (((rd_T54 l0 x5_1).f0).toList != t402.toList) = false := bne_eq_false_iff_eq.mpr c6
            clear c6
            by_cases c7 : ((rd_T54 l0 x5_1).f1) = (wrap64 (x1_1 + 1))
            · rw [if_pos c7] at H
              have c7b0 : (((rd_T54 l0 x5_1).f1) == (wrap64 (x1_1 + 1))) = true := beq_iff_eq.mpr c7
              have c7b1 : (((rd_T54 l0 x5_1).f1) != (wrap64 (x1_1 + 1))) = false := bne_eq_false_iff_eq.mpr c7
              clear c7
              by_cases c8 : ((rd_T54 l0 x5_1).f2) = (wrap64 ((wrap64 (x1_1 + 1)) + 1))
              · rw [if_pos c8] at H
                have c8b0 : (((rd_T54 l0 x5_1).f2) == (wrap64 ((wrap64 (x1_1 + 1)) + 1))) = true := beq_iff_eq.mpr c8
                have c8b1 : (((rd_T54 l0 x5_1).f2) != (wrap64 ((wrap64 (x1_1 + 1)) + 1))) = false := bne_eq_false_iff_eq.mpr c8
                clear c8
                have H' := Aside0.mk H
                clear H
                try go_wp2
                have n0_ := Aside0.mk (below_drew1 HB.out)
                clear HB
                have HB := n0_
                clear n0_
                have p401 : 0 ≤ (x5_1 : Int) := DT
                have q401 : x5_1 < (l0.length : Int) := DT
                obtain ⟨ad401, e401, hx401_0, hx401_1, hx401_2⟩ := at_T54 HR0.out x5_1 p401 q401
                have hw401_2 := hx401_2
                have hw401_1 := hx401_1
                have hw401_0 := hx401_0
                cases e401
                replace hx401_0 := (HB.out.cell (World.block_lt_of_cell? w _ hx401_0)).trans hx401_0
                replace hx401_1 := (HB.out.cell (World.block_lt_of_cell? w _ hx401_1)).trans hx401_1
                replace hx401_2 := (HB.out.cell (World.block_lt_of_cell? w _ hx401_2)).trans hx401_2
                replace p401 := eq_true p401
                replace q401 := eq_true q401
                refine start_ (n := 8) (S := fun w' => w'.cell? (ad401.add ((x5_1).toNat * 3)) = some (.string ((rd_T54 l0 x5_1).f0)) ∧ w'.cell? ⟨(ad401.add ((x5_1).toNat * 3)).block, (ad401.add ((x5_1).toNat * 3)).off + 1, none⟩ = some (.int .i64 ((rd_T54 l0 x5_1).f1)) ∧ w'.cell? ⟨(ad401.add ((x5_1).toNat * 3)).block, (ad401.add ((x5_1).toNat * 3)).off + 2, none⟩ = some (.int .i64 ((rd_T54 l0 x5_1).f2))) (ds := []) #[false, false, false, false, false, false, false, false] (by kernel_rfl) rfl rfl ⟨((HB.out.cell (World.block_lt_of_cell? w _ hw401_0)).trans hw401_0), ((HB.out.cell (World.block_lt_of_cell? w _ hw401_1)).trans hw401_1), ((HB.out.cell (World.block_lt_of_cell? w _ hw401_2)).trans hw401_2)⟩ (fun hHeld => ?_); refine with_tabW laws_heldLeaseS.tab4 laws_heldLeaseS.bits4 (fun HT_ HW_ => ?_)
                generalize wr.drew = w9 at HB hx401_0 hx401_1 hx401_2 hHeld ⊢
                refine pure_ (i := 0) (N := some 12) (v := ?_) (a' := ?_) #[true, false, false, false, false, false, false, false] rfl rfl (any_of HT_.out (by kernel_rfl)) (fun _ _ _ h => h) (Or.inl ⟨by rfl, ?_⟩) ?_ ?_
                rotate_left
                · intro w'
                  go_simp
                  with_reducible rfl
                rotate_left
                · simp only [Act.put, List.setIfInBounds_toArray, List.set_cons_zero, List.set_cons_succ, i64_w, i32_w]
                  rfl
                refine pure_ (i := 1) (N := some 13) (v := ?_) (a' := ?_) #[true, true, false, false, false, false, false, false] rfl rfl (any_of HT_.out (by kernel_rfl)) (fun _ _ _ h => h) (Or.inl ⟨by rfl, ?_⟩) ?_ ?_
                rotate_left
                · intro w'
                  go_simp
                  with_reducible rfl
                rotate_left
                · simp only [Act.put, List.setIfInBounds_toArray, List.set_cons_zero, List.set_cons_succ, i64_w, i32_w]
                  rfl
                refine pure_ (i := 2) (N := some 14) (v := ?_) (a' := ?_) #[true, true, true, false, false, false, false, false] rfl rfl (any_of HT_.out (by kernel_rfl)) (fun _ _ _ h => h) (Or.inl ⟨by rfl, ?_⟩) ?_ ?_
                rotate_left
                · intro w'
                  go_simp
                  with_reducible rfl
                rotate_left
                · simp only [Act.put, List.setIfInBounds_toArray, List.set_cons_zero, List.set_cons_succ, i64_w, i32_w]
                  rfl
                refine pure_ (i := 3) (N := some 15) (v := ?_) (a' := ?_) #[true, true, true, true, false, false, false, false] rfl rfl (any_of HT_.out (by kernel_rfl)) (fun _ _ _ h => h) (Or.inl ⟨by rfl, ?_⟩) ?_ ?_
                rotate_left
                · intro w'
                  go_simp
                  with_reducible rfl
                rotate_left
                · simp only [Act.put, List.setIfInBounds_toArray, List.set_cons_zero, List.set_cons_succ, i64_w, i32_w]
                  rfl
                refine pure_ (i := 5) (N := some 17) (v := ?_) (a' := ?_) #[true, true, true, true, false, true, false, false] rfl rfl (any_of HT_.out (by kernel_rfl)) (fun _ _ _ h => h) (Or.inl ⟨by rfl, ?_⟩) ?_ ?_
                rotate_left
                · intro w'
                  go_simp
                  with_reducible rfl
                rotate_left
                · simp only [Act.put, List.setIfInBounds_toArray, List.set_cons_zero, List.set_cons_succ, i64_w, i32_w]
                  rfl
                refine take_ (i := 4) (N := some 16) (v := ?_) (a' := ?_) #[true, true, true, true, true, true, false, false] rfl rfl (take_ofW HT_.out HW_.out (by kernel_rfl)) (fun _ _ _ h => h) (Or.inl ⟨by rfl, ?_⟩) hHeld ?_ ?_
                rotate_left
                · rintro w' ⟨s0, s1, s2⟩
                  go_simp
                  with_reducible rfl
                rotate_left
                · simp only [Act.put, List.setIfInBounds_toArray, List.set_cons_zero, List.set_cons_succ, i64_w, i32_w]
                  rfl
                refine one_ (i := 6) (N := some 18) #[true, true, true, true, true, true, true, false] rfl rfl (one_of HT_.out (by kernel_rfl)) (by decide) (fun K hK => ?_)
                refine goes_ Tryd.func46 (by kernel_rfl) rfl #[.int .i64 x1_1] (by rfl) rfl rfl (by (try simp only [List.map_toArray, List.map_cons, List.map_nil]); first | done | rfl | (simp only [List.length_drop, List.length_take]; rfl)) ?_
                with_reducible refine (laws_markText.calls k1 x1_1 t402 _ A5.out).mono ?_
                rintro e w10 ⟨rfl, hb⟩
                refine ⟨_, rfl, ?_⟩
                have n0_ := Aside0.mk (below_step (BB HB.out) hb)
                clear HB
                have HB := n0_
                clear n0_
                (try clear hb)
                (try clear hb2)
                (try clear hk)
                (try clear hi)
                refine hK.out _ _ ⟨((HB.out.cell (World.block_lt_of_cell? w _ hw401_0)).trans hw401_0), ((HB.out.cell (World.block_lt_of_cell? w _ hw401_1)).trans hw401_1), ((HB.out.cell (World.block_lt_of_cell? w _ hw401_2)).trans hw401_2)⟩ (fun hHeld => ?_)
                clear hK K
                refine norm_ (a' := ?_) ?_ ?_
                rotate_left
                · show Act.put _ (some 18) _ = _
                  simp only [Act.put, List.setIfInBounds_toArray, List.set_cons_zero, List.set_cons_succ, i64_w, i32_w]
                  rfl
                refine pure_ (i := 7) (N := some 19) (v := ?_) (a' := ?_) #[true, true, true, true, true, true, true, true] rfl rfl (any_of HT_.out (by kernel_rfl)) (fun _ _ _ h => h) (Or.inl ⟨by rfl, ?_⟩) ?_ ?_
                rotate_left
                · intro w'
                  go_simp
                  with_reducible rfl
                rotate_left
                · simp only [Act.put, List.setIfInBounds_toArray, List.set_cons_zero, List.set_cons_succ, i64_w, i32_w]
                  rfl
                refine done_ (done_of HT_.out (by kernel_rfl)) ?_
                have p403 : 0 ≤ (x5_1 : Int) := DT
                have q403 : x5_1 < (l0.length : Int) := DT
                obtain ⟨ad403, e403, hx403_0, hx403_1, hx403_2⟩ := at_T54 HR0.out x5_1 p403 q403
                obtain rfl : ad401 = ad403 := (by injection e403)
                replace hx403_0 := (HB.out.cell (World.block_lt_of_cell? w _ hx403_0)).trans hx403_0
                replace hx403_1 := (HB.out.cell (World.block_lt_of_cell? w _ hx403_1)).trans hx403_1
                replace hx403_2 := (HB.out.cell (World.block_lt_of_cell? w _ hx403_2)).trans hx403_2
                replace p403 := eq_true p403
                replace q403 := eq_true q403
                have p404 : 0 ≤ (x5_1 : Int) := DT
                have q404 : x5_1 < (l0.length : Int) := DT
                obtain ⟨ad404, e404, hx404_0, hx404_1, hx404_2⟩ := at_T54 HR0.out x5_1 p404 q404
                obtain rfl : ad401 = ad404 := (by injection e404)
                replace hx404_0 := (HB.out.cell (World.block_lt_of_cell? w _ hx404_0)).trans hx404_0
                replace hx404_1 := (HB.out.cell (World.block_lt_of_cell? w _ hx404_1)).trans hx404_1
                replace hx404_2 := (HB.out.cell (World.block_lt_of_cell? w _ hx404_2)).trans hx404_2
                replace p404 := eq_true p404
                replace q404 := eq_true q404
                try go_wp2
                go_roundg k1
                case measure => have := HK1.out; omega
                case rel => exact ⟨(wrap64 ((wrap64 ((wrap64 (x1_1 + 1)) + 1)) + 1)), (wrap64 (x5_1 + 1)), FR, FR, H', ⟨by have := HK1.out; omega⟩, ⟨(BB HB.out)⟩⟩
              · rw [if_neg c8] at H
                have c8b0 : (((rd_T54 l0 x5_1).f2) == (wrap64 ((wrap64 (x1_1 + 1)) + 1))) = false := beq_eq_false_iff_ne.mpr c8
                have c8b1 : (((rd_T54 l0 x5_1).f2) != (wrap64 ((wrap64 (x1_1 + 1)) + 1))) = true := bne_iff_ne.mpr c8
                obtain rfl := Option.some.inj H
                try go_wp2
                have n0_ := Aside0.mk (below_drew1 HB.out)
                clear HB
                have HB := n0_
                clear n0_
                have p401 : 0 ≤ (x5_1 : Int) := DT
                have q401 : x5_1 < (l0.length : Int) := DT
                obtain ⟨ad401, e401, hx401_0, hx401_1, hx401_2⟩ := at_T54 HR0.out x5_1 p401 q401
                have hw401_2 := hx401_2
                have hw401_1 := hx401_1
                have hw401_0 := hx401_0
                cases e401
                replace hx401_0 := (HB.out.cell (World.block_lt_of_cell? w _ hx401_0)).trans hx401_0
                replace hx401_1 := (HB.out.cell (World.block_lt_of_cell? w _ hx401_1)).trans hx401_1
                replace hx401_2 := (HB.out.cell (World.block_lt_of_cell? w _ hx401_2)).trans hx401_2
                replace p401 := eq_true p401
                replace q401 := eq_true q401
                refine start_ (n := 8) (S := fun w' => w'.cell? (ad401.add ((x5_1).toNat * 3)) = some (.string ((rd_T54 l0 x5_1).f0)) ∧ w'.cell? ⟨(ad401.add ((x5_1).toNat * 3)).block, (ad401.add ((x5_1).toNat * 3)).off + 1, none⟩ = some (.int .i64 ((rd_T54 l0 x5_1).f1)) ∧ w'.cell? ⟨(ad401.add ((x5_1).toNat * 3)).block, (ad401.add ((x5_1).toNat * 3)).off + 2, none⟩ = some (.int .i64 ((rd_T54 l0 x5_1).f2))) (ds := []) #[false, false, false, false, false, false, false, false] (by kernel_rfl) rfl rfl ⟨((HB.out.cell (World.block_lt_of_cell? w _ hw401_0)).trans hw401_0), ((HB.out.cell (World.block_lt_of_cell? w _ hw401_1)).trans hw401_1), ((HB.out.cell (World.block_lt_of_cell? w _ hw401_2)).trans hw401_2)⟩ (fun hHeld => ?_); refine with_tabW laws_heldLeaseS.tab4 laws_heldLeaseS.bits4 (fun HT_ HW_ => ?_)
                generalize wr.drew = w11 at HB hx401_0 hx401_1 hx401_2 hHeld ⊢
                refine pure_ (i := 0) (N := some 12) (v := ?_) (a' := ?_) #[true, false, false, false, false, false, false, false] rfl rfl (any_of HT_.out (by kernel_rfl)) (fun _ _ _ h => h) (Or.inl ⟨by rfl, ?_⟩) ?_ ?_
                rotate_left
                · intro w'
                  go_simp
                  with_reducible rfl
                rotate_left
                · simp only [Act.put, List.setIfInBounds_toArray, List.set_cons_zero, List.set_cons_succ, i64_w, i32_w]
                  rfl
                refine pure_ (i := 1) (N := some 13) (v := ?_) (a' := ?_) #[true, true, false, false, false, false, false, false] rfl rfl (any_of HT_.out (by kernel_rfl)) (fun _ _ _ h => h) (Or.inl ⟨by rfl, ?_⟩) ?_ ?_
                rotate_left
                · intro w'
                  go_simp
                  with_reducible rfl
                rotate_left
                · simp only [Act.put, List.setIfInBounds_toArray, List.set_cons_zero, List.set_cons_succ, i64_w, i32_w]
                  rfl
                refine pure_ (i := 2) (N := some 14) (v := ?_) (a' := ?_) #[true, true, true, false, false, false, false, false] rfl rfl (any_of HT_.out (by kernel_rfl)) (fun _ _ _ h => h) (Or.inl ⟨by rfl, ?_⟩) ?_ ?_
                rotate_left
                · intro w'
                  go_simp
                  with_reducible rfl
                rotate_left
                · simp only [Act.put, List.setIfInBounds_toArray, List.set_cons_zero, List.set_cons_succ, i64_w, i32_w]
                  rfl
                refine pure_ (i := 3) (N := some 15) (v := ?_) (a' := ?_) #[true, true, true, true, false, false, false, false] rfl rfl (any_of HT_.out (by kernel_rfl)) (fun _ _ _ h => h) (Or.inl ⟨by rfl, ?_⟩) ?_ ?_
                rotate_left
                · intro w'
                  go_simp
                  with_reducible rfl
                rotate_left
                · simp only [Act.put, List.setIfInBounds_toArray, List.set_cons_zero, List.set_cons_succ, i64_w, i32_w]
                  rfl
                refine pure_ (i := 5) (N := some 17) (v := ?_) (a' := ?_) #[true, true, true, true, false, true, false, false] rfl rfl (any_of HT_.out (by kernel_rfl)) (fun _ _ _ h => h) (Or.inl ⟨by rfl, ?_⟩) ?_ ?_
                rotate_left
                · intro w'
                  go_simp
                  with_reducible rfl
                rotate_left
                · simp only [Act.put, List.setIfInBounds_toArray, List.set_cons_zero, List.set_cons_succ, i64_w, i32_w]
                  rfl
                refine take_ (i := 4) (N := some 16) (v := ?_) (a' := ?_) #[true, true, true, true, true, true, false, false] rfl rfl (take_ofW HT_.out HW_.out (by kernel_rfl)) (fun _ _ _ h => h) (Or.inl ⟨by rfl, ?_⟩) hHeld ?_ ?_
                rotate_left
                · rintro w' ⟨s0, s1, s2⟩
                  go_simp
                  with_reducible rfl
                rotate_left
                · simp only [Act.put, List.setIfInBounds_toArray, List.set_cons_zero, List.set_cons_succ, i64_w, i32_w]
                  rfl
                refine one_ (i := 6) (N := some 18) #[true, true, true, true, true, true, true, false] rfl rfl (one_of HT_.out (by kernel_rfl)) (by decide) (fun K hK => ?_)
                refine goes_ Tryd.func46 (by kernel_rfl) rfl #[.int .i64 x1_1] (by rfl) rfl rfl (by (try simp only [List.map_toArray, List.map_cons, List.map_nil]); first | done | rfl | (simp only [List.length_drop, List.length_take]; rfl)) ?_
                with_reducible refine (laws_markText.calls k1 x1_1 t402 _ A5.out).mono ?_
                rintro e w12 ⟨rfl, hb⟩
                refine ⟨_, rfl, ?_⟩
                have n0_ := Aside0.mk (below_step (BB HB.out) hb)
                clear HB
                have HB := n0_
                clear n0_
                (try clear hb)
                (try clear hb2)
                (try clear hk)
                (try clear hi)
                refine hK.out _ _ ⟨((HB.out.cell (World.block_lt_of_cell? w _ hw401_0)).trans hw401_0), ((HB.out.cell (World.block_lt_of_cell? w _ hw401_1)).trans hw401_1), ((HB.out.cell (World.block_lt_of_cell? w _ hw401_2)).trans hw401_2)⟩ (fun hHeld => ?_)
                clear hK K
                refine norm_ (a' := ?_) ?_ ?_
                rotate_left
                · show Act.put _ (some 18) _ = _
                  simp only [Act.put, List.setIfInBounds_toArray, List.set_cons_zero, List.set_cons_succ, i64_w, i32_w]
                  rfl
                refine pure_ (i := 7) (N := some 19) (v := ?_) (a' := ?_) #[true, true, true, true, true, true, true, true] rfl rfl (any_of HT_.out (by kernel_rfl)) (fun _ _ _ h => h) (Or.inl ⟨by rfl, ?_⟩) ?_ ?_
                rotate_left
                · intro w'
                  go_simp
                  with_reducible rfl
                rotate_left
                · simp only [Act.put, List.setIfInBounds_toArray, List.set_cons_zero, List.set_cons_succ, i64_w, i32_w]
                  rfl
                refine done_ (done_of HT_.out (by kernel_rfl)) ?_
                have p403 : 0 ≤ (x5_1 : Int) := DT
                have q403 : x5_1 < (l0.length : Int) := DT
                obtain ⟨ad403, e403, hx403_0, hx403_1, hx403_2⟩ := at_T54 HR0.out x5_1 p403 q403
                obtain rfl : ad401 = ad403 := (by injection e403)
                replace hx403_0 := (HB.out.cell (World.block_lt_of_cell? w _ hx403_0)).trans hx403_0
                replace hx403_1 := (HB.out.cell (World.block_lt_of_cell? w _ hx403_1)).trans hx403_1
                replace hx403_2 := (HB.out.cell (World.block_lt_of_cell? w _ hx403_2)).trans hx403_2
                replace p403 := eq_true p403
                replace q403 := eq_true q403
                have p404 : 0 ≤ (x5_1 : Int) := DT
                have q404 : x5_1 < (l0.length : Int) := DT
                obtain ⟨ad404, e404, hx404_0, hx404_1, hx404_2⟩ := at_T54 HR0.out x5_1 p404 q404
                obtain rfl : ad401 = ad404 := (by injection e404)
                replace hx404_0 := (HB.out.cell (World.block_lt_of_cell? w _ hx404_0)).trans hx404_0
                replace hx404_1 := (HB.out.cell (World.block_lt_of_cell? w _ hx404_1)).trans hx404_1
                replace hx404_2 := (HB.out.cell (World.block_lt_of_cell? w _ hx404_2)).trans hx404_2
                replace p404 := eq_true p404
                replace q404 := eq_true q404
                try go_wp2
                go_ret
                exact ⟨ER, (BB HB.out)⟩
            · rw [if_neg c7] at H
              have c7b0 : (((rd_T54 l0 x5_1).f1) == (wrap64 (x1_1 + 1))) = false := beq_eq_false_iff_ne.mpr c7
              have c7b1 : (((rd_T54 l0 x5_1).f1) != (wrap64 (x1_1 + 1))) = true := bne_iff_ne.mpr c7
              obtain rfl := Option.some.inj H
              try go_wp2
              have n0_ := Aside0.mk (below_drew1 HB.out)
              clear HB
              have HB := n0_
              clear n0_
              have p401 : 0 ≤ (x5_1 : Int) := DT
              have q401 : x5_1 < (l0.length : Int) := DT
              obtain ⟨ad401, e401, hx401_0, hx401_1, hx401_2⟩ := at_T54 HR0.out x5_1 p401 q401
              have hw401_2 := hx401_2
              have hw401_1 := hx401_1
              have hw401_0 := hx401_0
              cases e401
              replace hx401_0 := (HB.out.cell (World.block_lt_of_cell? w _ hx401_0)).trans hx401_0
              replace hx401_1 := (HB.out.cell (World.block_lt_of_cell? w _ hx401_1)).trans hx401_1
              replace hx401_2 := (HB.out.cell (World.block_lt_of_cell? w _ hx401_2)).trans hx401_2
              replace p401 := eq_true p401
              replace q401 := eq_true q401
              refine start_ (n := 8) (S := fun w' => w'.cell? (ad401.add ((x5_1).toNat * 3)) = some (.string ((rd_T54 l0 x5_1).f0)) ∧ w'.cell? ⟨(ad401.add ((x5_1).toNat * 3)).block, (ad401.add ((x5_1).toNat * 3)).off + 1, none⟩ = some (.int .i64 ((rd_T54 l0 x5_1).f1)) ∧ w'.cell? ⟨(ad401.add ((x5_1).toNat * 3)).block, (ad401.add ((x5_1).toNat * 3)).off + 2, none⟩ = some (.int .i64 ((rd_T54 l0 x5_1).f2))) (ds := []) #[false, false, false, false, false, false, false, false] (by kernel_rfl) rfl rfl ⟨((HB.out.cell (World.block_lt_of_cell? w _ hw401_0)).trans hw401_0), ((HB.out.cell (World.block_lt_of_cell? w _ hw401_1)).trans hw401_1), ((HB.out.cell (World.block_lt_of_cell? w _ hw401_2)).trans hw401_2)⟩ (fun hHeld => ?_); refine with_tabW laws_heldLeaseS.tab4 laws_heldLeaseS.bits4 (fun HT_ HW_ => ?_)
              generalize wr.drew = w13 at HB hx401_0 hx401_1 hx401_2 hHeld ⊢
              refine pure_ (i := 0) (N := some 12) (v := ?_) (a' := ?_) #[true, false, false, false, false, false, false, false] rfl rfl (any_of HT_.out (by kernel_rfl)) (fun _ _ _ h => h) (Or.inl ⟨by rfl, ?_⟩) ?_ ?_
              rotate_left
              · intro w'
                go_simp
                with_reducible rfl
              rotate_left
              · simp only [Act.put, List.setIfInBounds_toArray, List.set_cons_zero, List.set_cons_succ, i64_w, i32_w]
                rfl
              refine pure_ (i := 1) (N := some 13) (v := ?_) (a' := ?_) #[true, true, false, false, false, false, false, false] rfl rfl (any_of HT_.out (by kernel_rfl)) (fun _ _ _ h => h) (Or.inl ⟨by rfl, ?_⟩) ?_ ?_
              rotate_left
              · intro w'
                go_simp
                with_reducible rfl
              rotate_left
              · simp only [Act.put, List.setIfInBounds_toArray, List.set_cons_zero, List.set_cons_succ, i64_w, i32_w]
                rfl
              refine pure_ (i := 2) (N := some 14) (v := ?_) (a' := ?_) #[true, true, true, false, false, false, false, false] rfl rfl (any_of HT_.out (by kernel_rfl)) (fun _ _ _ h => h) (Or.inl ⟨by rfl, ?_⟩) ?_ ?_
              rotate_left
              · intro w'
                go_simp
                with_reducible rfl
              rotate_left
              · simp only [Act.put, List.setIfInBounds_toArray, List.set_cons_zero, List.set_cons_succ, i64_w, i32_w]
                rfl
              refine pure_ (i := 3) (N := some 15) (v := ?_) (a' := ?_) #[true, true, true, true, false, false, false, false] rfl rfl (any_of HT_.out (by kernel_rfl)) (fun _ _ _ h => h) (Or.inl ⟨by rfl, ?_⟩) ?_ ?_
              rotate_left
              · intro w'
                go_simp
                with_reducible rfl
              rotate_left
              · simp only [Act.put, List.setIfInBounds_toArray, List.set_cons_zero, List.set_cons_succ, i64_w, i32_w]
                rfl
              refine pure_ (i := 5) (N := some 17) (v := ?_) (a' := ?_) #[true, true, true, true, false, true, false, false] rfl rfl (any_of HT_.out (by kernel_rfl)) (fun _ _ _ h => h) (Or.inl ⟨by rfl, ?_⟩) ?_ ?_
              rotate_left
              · intro w'
                go_simp
                with_reducible rfl
              rotate_left
              · simp only [Act.put, List.setIfInBounds_toArray, List.set_cons_zero, List.set_cons_succ, i64_w, i32_w]
                rfl
              refine take_ (i := 4) (N := some 16) (v := ?_) (a' := ?_) #[true, true, true, true, true, true, false, false] rfl rfl (take_ofW HT_.out HW_.out (by kernel_rfl)) (fun _ _ _ h => h) (Or.inl ⟨by rfl, ?_⟩) hHeld ?_ ?_
              rotate_left
              · rintro w' ⟨s0, s1, s2⟩
                go_simp
                with_reducible rfl
              rotate_left
              · simp only [Act.put, List.setIfInBounds_toArray, List.set_cons_zero, List.set_cons_succ, i64_w, i32_w]
                rfl
              refine one_ (i := 6) (N := some 18) #[true, true, true, true, true, true, true, false] rfl rfl (one_of HT_.out (by kernel_rfl)) (by decide) (fun K hK => ?_)
              refine goes_ Tryd.func46 (by kernel_rfl) rfl #[.int .i64 x1_1] (by rfl) rfl rfl (by (try simp only [List.map_toArray, List.map_cons, List.map_nil]); first | done | rfl | (simp only [List.length_drop, List.length_take]; rfl)) ?_
              with_reducible refine (laws_markText.calls k1 x1_1 t402 _ A5.out).mono ?_
              rintro e w14 ⟨rfl, hb⟩
              refine ⟨_, rfl, ?_⟩
              have n0_ := Aside0.mk (below_step (BB HB.out) hb)
              clear HB
              have HB := n0_
              clear n0_
              (try clear hb)
              (try clear hb2)
              (try clear hk)
              (try clear hi)
              refine hK.out _ _ ⟨((HB.out.cell (World.block_lt_of_cell? w _ hw401_0)).trans hw401_0), ((HB.out.cell (World.block_lt_of_cell? w _ hw401_1)).trans hw401_1), ((HB.out.cell (World.block_lt_of_cell? w _ hw401_2)).trans hw401_2)⟩ (fun hHeld => ?_)
              clear hK K
              refine norm_ (a' := ?_) ?_ ?_
              rotate_left
              · show Act.put _ (some 18) _ = _
                simp only [Act.put, List.setIfInBounds_toArray, List.set_cons_zero, List.set_cons_succ, i64_w, i32_w]
                rfl
              refine pure_ (i := 7) (N := some 19) (v := ?_) (a' := ?_) #[true, true, true, true, true, true, true, true] rfl rfl (any_of HT_.out (by kernel_rfl)) (fun _ _ _ h => h) (Or.inl ⟨by rfl, ?_⟩) ?_ ?_
              rotate_left
              · intro w'
                go_simp
                with_reducible rfl
              rotate_left
              · simp only [Act.put, List.setIfInBounds_toArray, List.set_cons_zero, List.set_cons_succ, i64_w, i32_w]
                rfl
              refine done_ (done_of HT_.out (by kernel_rfl)) ?_
              have p403 : 0 ≤ (x5_1 : Int) := DT
              have q403 : x5_1 < (l0.length : Int) := DT
              obtain ⟨ad403, e403, hx403_0, hx403_1, hx403_2⟩ := at_T54 HR0.out x5_1 p403 q403
              obtain rfl : ad401 = ad403 := (by injection e403)
              replace hx403_0 := (HB.out.cell (World.block_lt_of_cell? w _ hx403_0)).trans hx403_0
              replace hx403_1 := (HB.out.cell (World.block_lt_of_cell? w _ hx403_1)).trans hx403_1
              replace hx403_2 := (HB.out.cell (World.block_lt_of_cell? w _ hx403_2)).trans hx403_2
              replace p403 := eq_true p403
              replace q403 := eq_true q403
              try go_wp2
              go_ret
              exact ⟨ER, (BB HB.out)⟩
          · rw [if_neg c6] at H
            have c6b0 : (((rd_T54 l0 x5_1).f0).toList == t402.toList) = false := beq_eq_false_iff_ne.mpr c6
            have c6b1 : (((rd_T54 l0 x5_1).f0).toList != t402.toList) = true := bne_iff_ne.mpr c6
            obtain rfl := Option.some.inj H
            try go_wp2
            have n0_ := Aside0.mk (below_drew1 HB.out)
            clear HB
            have HB := n0_
            clear n0_
            have p401 : 0 ≤ (x5_1 : Int) := DT
            have q401 : x5_1 < (l0.length : Int) := DT
            obtain ⟨ad401, e401, hx401_0, hx401_1, hx401_2⟩ := at_T54 HR0.out x5_1 p401 q401
            have hw401_2 := hx401_2
            have hw401_1 := hx401_1
            have hw401_0 := hx401_0
            cases e401
            replace hx401_0 := (HB.out.cell (World.block_lt_of_cell? w _ hx401_0)).trans hx401_0
            replace hx401_1 := (HB.out.cell (World.block_lt_of_cell? w _ hx401_1)).trans hx401_1
            replace hx401_2 := (HB.out.cell (World.block_lt_of_cell? w _ hx401_2)).trans hx401_2
            replace p401 := eq_true p401
            replace q401 := eq_true q401
            refine start_ (n := 8) (S := fun w' => w'.cell? (ad401.add ((x5_1).toNat * 3)) = some (.string ((rd_T54 l0 x5_1).f0)) ∧ w'.cell? ⟨(ad401.add ((x5_1).toNat * 3)).block, (ad401.add ((x5_1).toNat * 3)).off + 1, none⟩ = some (.int .i64 ((rd_T54 l0 x5_1).f1)) ∧ w'.cell? ⟨(ad401.add ((x5_1).toNat * 3)).block, (ad401.add ((x5_1).toNat * 3)).off + 2, none⟩ = some (.int .i64 ((rd_T54 l0 x5_1).f2))) (ds := []) #[false, false, false, false, false, false, false, false] (by kernel_rfl) rfl rfl ⟨((HB.out.cell (World.block_lt_of_cell? w _ hw401_0)).trans hw401_0), ((HB.out.cell (World.block_lt_of_cell? w _ hw401_1)).trans hw401_1), ((HB.out.cell (World.block_lt_of_cell? w _ hw401_2)).trans hw401_2)⟩ (fun hHeld => ?_); refine with_tabW laws_heldLeaseS.tab4 laws_heldLeaseS.bits4 (fun HT_ HW_ => ?_)
            generalize wr.drew = w15 at HB hx401_0 hx401_1 hx401_2 hHeld ⊢
            refine pure_ (i := 0) (N := some 12) (v := ?_) (a' := ?_) #[true, false, false, false, false, false, false, false] rfl rfl (any_of HT_.out (by kernel_rfl)) (fun _ _ _ h => h) (Or.inl ⟨by rfl, ?_⟩) ?_ ?_
            rotate_left
            · intro w'
              go_simp
              with_reducible rfl
            rotate_left
            · simp only [Act.put, List.setIfInBounds_toArray, List.set_cons_zero, List.set_cons_succ, i64_w, i32_w]
              rfl
            refine pure_ (i := 1) (N := some 13) (v := ?_) (a' := ?_) #[true, true, false, false, false, false, false, false] rfl rfl (any_of HT_.out (by kernel_rfl)) (fun _ _ _ h => h) (Or.inl ⟨by rfl, ?_⟩) ?_ ?_
            rotate_left
            · intro w'
              go_simp
              with_reducible rfl
            rotate_left
            · simp only [Act.put, List.setIfInBounds_toArray, List.set_cons_zero, List.set_cons_succ, i64_w, i32_w]
              rfl
            refine pure_ (i := 2) (N := some 14) (v := ?_) (a' := ?_) #[true, true, true, false, false, false, false, false] rfl rfl (any_of HT_.out (by kernel_rfl)) (fun _ _ _ h => h) (Or.inl ⟨by rfl, ?_⟩) ?_ ?_
            rotate_left
            · intro w'
              go_simp
              with_reducible rfl
            rotate_left
            · simp only [Act.put, List.setIfInBounds_toArray, List.set_cons_zero, List.set_cons_succ, i64_w, i32_w]
              rfl
            refine pure_ (i := 3) (N := some 15) (v := ?_) (a' := ?_) #[true, true, true, true, false, false, false, false] rfl rfl (any_of HT_.out (by kernel_rfl)) (fun _ _ _ h => h) (Or.inl ⟨by rfl, ?_⟩) ?_ ?_
            rotate_left
            · intro w'
              go_simp
              with_reducible rfl
            rotate_left
            · simp only [Act.put, List.setIfInBounds_toArray, List.set_cons_zero, List.set_cons_succ, i64_w, i32_w]
              rfl
            refine pure_ (i := 5) (N := some 17) (v := ?_) (a' := ?_) #[true, true, true, true, false, true, false, false] rfl rfl (any_of HT_.out (by kernel_rfl)) (fun _ _ _ h => h) (Or.inl ⟨by rfl, ?_⟩) ?_ ?_
            rotate_left
            · intro w'
              go_simp
              with_reducible rfl
            rotate_left
            · simp only [Act.put, List.setIfInBounds_toArray, List.set_cons_zero, List.set_cons_succ, i64_w, i32_w]
              rfl
            refine take_ (i := 4) (N := some 16) (v := ?_) (a' := ?_) #[true, true, true, true, true, true, false, false] rfl rfl (take_ofW HT_.out HW_.out (by kernel_rfl)) (fun _ _ _ h => h) (Or.inl ⟨by rfl, ?_⟩) hHeld ?_ ?_
            rotate_left
            · rintro w' ⟨s0, s1, s2⟩
              go_simp
              with_reducible rfl
            rotate_left
            · simp only [Act.put, List.setIfInBounds_toArray, List.set_cons_zero, List.set_cons_succ, i64_w, i32_w]
              rfl
            refine one_ (i := 6) (N := some 18) #[true, true, true, true, true, true, true, false] rfl rfl (one_of HT_.out (by kernel_rfl)) (by decide) (fun K hK => ?_)
            refine goes_ Tryd.func46 (by kernel_rfl) rfl #[.int .i64 x1_1] (by rfl) rfl rfl (by (try simp only [List.map_toArray, List.map_cons, List.map_nil]); first | done | rfl | (simp only [List.length_drop, List.length_take]; rfl)) ?_
            with_reducible refine (laws_markText.calls k1 x1_1 t402 _ A5.out).mono ?_
            rintro e w16 ⟨rfl, hb⟩
            refine ⟨_, rfl, ?_⟩
            have n0_ := Aside0.mk (below_step (BB HB.out) hb)
            clear HB
            have HB := n0_
            clear n0_
            (try clear hb)
            (try clear hb2)
            (try clear hk)
            (try clear hi)
            refine hK.out _ _ ⟨((HB.out.cell (World.block_lt_of_cell? w _ hw401_0)).trans hw401_0), ((HB.out.cell (World.block_lt_of_cell? w _ hw401_1)).trans hw401_1), ((HB.out.cell (World.block_lt_of_cell? w _ hw401_2)).trans hw401_2)⟩ (fun hHeld => ?_)
            clear hK K
            refine norm_ (a' := ?_) ?_ ?_
            rotate_left
            · show Act.put _ (some 18) _ = _
              simp only [Act.put, List.setIfInBounds_toArray, List.set_cons_zero, List.set_cons_succ, i64_w, i32_w]
              rfl
            refine pure_ (i := 7) (N := some 19) (v := ?_) (a' := ?_) #[true, true, true, true, true, true, true, true] rfl rfl (any_of HT_.out (by kernel_rfl)) (fun _ _ _ h => h) (Or.inl ⟨by rfl, ?_⟩) ?_ ?_
            rotate_left
            · intro w'
              go_simp
              with_reducible rfl
            rotate_left
            · simp only [Act.put, List.setIfInBounds_toArray, List.set_cons_zero, List.set_cons_succ, i64_w, i32_w]
              rfl
            refine done_ (done_of HT_.out (by kernel_rfl)) ?_
            try go_wp2
            go_ret
            exact ⟨ER, (BB HB.out)⟩
        · rw [if_neg c4] at H
          exact absurd H (by simp)
      · rw [if_neg c3] at H
        have c3b0 : decide (x5_1 < (l0.length : Int)) = false := decide_eq_false c3
        clear c3
        obtain rfl := Option.some.inj H
        go_wp2
        go_ret
        exact ⟨ER, (BB HB.out)⟩

end Go.Proofs.YtfgnaneajonapaaDoor.Pr

namespace Go.Proofs.YtfgnaneajonapaaDoor.Pr
open Go.RowKit Go.Proofs.YtfgnaneajonapaaDoorW.PrintWords Go.Proofs.YtfgnaneajonapaaDoorW.PrintLast Go.Proofs.YtfgnaneajonapaaDoorW.PrintMore
attribute [local go_sem] max2_int min2_int max_two min_two max_three min_three max_four min_four
set_option linter.unusedVariables false
set_option linter.unusedSimpArgs false
mutual
def laws_FnExactTakeLease.j0 : Nat → List (S52) → ByteArray → Int → Int → List (S54) → Bool → List (S54) → List (S54) → Bool → Bool → Option (Bool)
  | 0, _, _, _, _, _, _, _, _, _, _ => none
  | k + 1, x0, x1, x2, x3, x10, x11, x12, x13, x14, x55 => if x55 = true then (some false) else ((laws_toLeaseS.f k x0).bind fun t421 => ((laws_eqLeaseS.f k x12 t421).bind fun t424 => (if t424 = true then ((laws_markLeaseS.f k x12 1).bind fun bt425 => (if bt425.1 < 0 then (laws_FnExactTakeLease.j1 k x0 x1 x2 x3 x10 x11 x13 true) else ((laws_eqLeaseS.f k x13 x10).bind fun t427 => (if t427 = true then (laws_FnExactTakeLease.j1 k x0 x1 x2 x3 x10 x11 x13 (x14 != x11)) else (laws_FnExactTakeLease.j1 k x0 x1 x2 x3 x10 x11 x13 true))))) else (some false))))
def laws_FnExactTakeLease.j1 : Nat → List (S52) → ByteArray → Int → Int → List (S54) → Bool → List (S54) → Bool → Option (Bool)
  | 0, _, _, _, _, _, _, _, _ => none
  | k + 1, x0, x1, x2, x3, x10, x11, x13, x76 => if x76 = true then (some false) else ((laws_markLeaseS.f k x13 1).bind fun bt428 => ((laws_heldLeaseS.f k bt428.2 1).bind fun t430 => (if t430 < 0 then (some false) else (if t430 = bt428.1 then ((laws_toLeaseS.f k x0).bind fun t431 => ((impl_TakeLease.f t431 x1 x2 x3).bind fun bt434 => ((laws_eqLeaseS.f k bt434.1 x10).bind fun t438 => (if t438 = true then (laws_FnExactTakeLease.j2 k bt428.2 bt428.1 (bt434.2 != x11)) else (laws_FnExactTakeLease.j2 k bt428.2 bt428.1 true))))) else (some false)))))
def laws_FnExactTakeLease.j2 : Nat → List (S54) → Int → Bool → Option (Bool)
  | 0, _, _, _ => none
  | k + 1, x13, x16, x105 => if x105 = true then (some false) else ((laws_heldLeaseS.f k x13 1).bind fun t439 => (if t439 < 0 then (some false) else (if t439 = x16 then (some true) else (some false))))
end
def laws_FnExactTakeLease.f (k : Nat) (l0 : List (S52)) (a1 : ByteArray) (a2 : Int) (a3 : Int) : Option (Bool) := if (a1.size : Int) > 1048576 then (some true) else ((laws_szLeaseS.f k l0 1048576).bind fun t405 => (if t405 < 0 then (some true) else ((laws_toLeaseS.f k l0).bind fun t406 => ((spec_TakeLease.f k t406 a1 a2 a3).bind fun bt409 => ((laws_toLeaseS.f k l0).bind fun t413 => ((impl_TakeLease.f t413 a1 a2 a3).bind fun bt416 => ((laws_eqLeaseS.f k bt416.1 bt409.1).bind fun t420 => (if t420 = true then (laws_FnExactTakeLease.j0 k l0 a1 a2 a3 bt409.1 bt409.2 t413 bt416.1 bt416.2 (bt416.2 != bt409.2)) else (laws_FnExactTakeLease.j0 k l0 a1 a2 a3 bt409.1 bt409.2 t413 bt416.1 bt416.2 true)))))))))
set_option maxHeartbeats 8000000 in
set_option maxRecDepth 100000 in
theorem laws_FnExactTakeLease.calls (k : Nat) (A0 : Option Addr) (c0 : Nat) (l0 : List (S52)) (a1 : ByteArray) (a2 : Int) (a3 : Int) (r : Bool) (w : World) (hr0 : Kd.C k52 w A0 l0.length l0) (hc0 : l0.length ≤ c0) (h : laws_FnExactTakeLease.f k l0 a1 a2 a3 = some r) (hr_ : Aside0 (r = true) := by exact ⟨rfl⟩) :
    Calls Tryd.prog 6 #[.slice A0 l0.length c0, .string a1, .int .i64 a2, .int .i64 a3] w fun e w' => e = .returned (.bool r) ∧ Below w.heap.size w w' := by
  have HR0 := Aside0.mk hr0
  have HC0 := Aside0.mk hc0
  clear hr0 hc0
  have HB := Aside0.mk (Below.refl w.heap.size w)
  have H : (if (a1.size : Int) > 1048576 then (some true) else ((laws_szLeaseS.f k l0 1048576).bind fun t405 => (if t405 < 0 then (some true) else ((laws_toLeaseS.f k l0).bind fun t406 => ((spec_TakeLease.f k t406 a1 a2 a3).bind fun bt409 => ((laws_toLeaseS.f k l0).bind fun t413 => ((impl_TakeLease.f t413 a1 a2 a3).bind fun bt416 => ((laws_eqLeaseS.f k bt416.1 bt409.1).bind fun t420 => (if t420 = true then (laws_FnExactTakeLease.j0 k l0 a1 a2 a3 bt409.1 bt409.2 t413 bt416.1 bt416.2 (bt416.2 != bt409.2)) else (laws_FnExactTakeLease.j0 k l0 a1 a2 a3 bt409.1 bt409.2 t413 bt416.1 bt416.2 true)))))))))) = some r := h
  clear h
  by_cases c5 : (a1.size : Int) > 1048576
  · rw [if_pos c5] at H
    have c5b0 : decide (1048576 < (a1.size : Int)) = true := decide_eq_true c5
    have c5b1 : decide (1048576 < a1.size) = true := decide_eq_true (by omega)
    clear c5
    obtain rfl := Option.some.inj H
    go_enter Tryd.func6, Tryd.ntmps6
    go_wp2
    go_ret
    exact ⟨ER, (BB HB.out)⟩
  · rw [if_neg c5] at H
    have c5b0 : decide (1048576 < (a1.size : Int)) = false := decide_eq_false c5
    have c5b1 : decide (1048576 < a1.size) = false := decide_eq_false (by omega)
    clear c5
    replace H := Option.bind_eq_some_iff.mp H
    obtain ⟨t405, A60, H⟩ := H
    replace H : (if t405 < 0 then (some true) else ((laws_toLeaseS.f k l0).bind fun t406 => ((spec_TakeLease.f k t406 a1 a2 a3).bind fun bt409 => ((laws_toLeaseS.f k l0).bind fun t413 => ((impl_TakeLease.f t413 a1 a2 a3).bind fun bt416 => ((laws_eqLeaseS.f k bt416.1 bt409.1).bind fun t420 => (if t420 = true then (laws_FnExactTakeLease.j0 k l0 a1 a2 a3 bt409.1 bt409.2 t413 bt416.1 bt416.2 (bt416.2 != bt409.2)) else (laws_FnExactTakeLease.j0 k l0 a1 a2 a3 bt409.1 bt409.2 t413 bt416.1 bt416.2 true)))))))) = some r := H
    have A6 := Aside0.mk A60
    clear A60
    by_cases c7 : t405 < 0
    · rw [if_pos c7] at H
      have c7b0 : decide (t405 < 0) = true := decide_eq_true c7
      clear c7
      obtain rfl := Option.some.inj H
      go_enter Tryd.func6, Tryd.ntmps6
      go_wp2_with (first | ((with_reducible refine gate_callee (f := 7) rfl ?_); refine GL (some 25) rfl rfl Tryd.func7 #[.slice A0 l0.length c0, .int .i64 1048576] rfl ?_; (with_reducible refine (laws_szLeaseS.calls k _ _ l0 1048576 t405 _ ?side1 ?side2 A6.out).mono ?_); (case side1 => exact CC HR0.out); (case side2 => exact HC0.out); rintro e w8 ⟨rfl, hb⟩; refine ⟨_, rfl, ?_⟩; replace HB := Aside0.mk (below_step (BB HB.out) hb); (try clear hb)))
      go_ret
      exact ⟨ER, (BB HB.out)⟩
    · rw [if_neg c7] at H
      have c7b0 : decide (t405 < 0) = false := decide_eq_false c7
      clear c7
      replace H := Option.bind_eq_some_iff.mp H
      obtain ⟨t406, A90, H⟩ := H
      replace H : ((spec_TakeLease.f k t406 a1 a2 a3).bind fun bt409 => ((laws_toLeaseS.f k l0).bind fun t413 => ((impl_TakeLease.f t413 a1 a2 a3).bind fun bt416 => ((laws_eqLeaseS.f k bt416.1 bt409.1).bind fun t420 => (if t420 = true then (laws_FnExactTakeLease.j0 k l0 a1 a2 a3 bt409.1 bt409.2 t413 bt416.1 bt416.2 (bt416.2 != bt409.2)) else (laws_FnExactTakeLease.j0 k l0 a1 a2 a3 bt409.1 bt409.2 t413 bt416.1 bt416.2 true)))))) = some r := H
      have A9 := Aside0.mk A90
      clear A90
      replace H := Option.bind_eq_some_iff.mp H
      obtain ⟨⟨t409, t410⟩, A100, H⟩ := H
      replace H : ((laws_toLeaseS.f k l0).bind fun t413 => ((impl_TakeLease.f t413 a1 a2 a3).bind fun bt416 => ((laws_eqLeaseS.f k bt416.1 t409).bind fun t420 => (if t420 = true then (laws_FnExactTakeLease.j0 k l0 a1 a2 a3 t409 t410 t413 bt416.1 bt416.2 (bt416.2 != t410)) else (laws_FnExactTakeLease.j0 k l0 a1 a2 a3 t409 t410 t413 bt416.1 bt416.2 true))))) = some r := H
      have A10 := Aside0.mk A100
      clear A100
      replace H := Option.bind_eq_some_iff.mp H
      obtain ⟨t413, A110, H⟩ := H
      replace H : ((impl_TakeLease.f t413 a1 a2 a3).bind fun bt416 => ((laws_eqLeaseS.f k bt416.1 t409).bind fun t420 => (if t420 = true then (laws_FnExactTakeLease.j0 k l0 a1 a2 a3 t409 t410 t413 bt416.1 bt416.2 (bt416.2 != t410)) else (laws_FnExactTakeLease.j0 k l0 a1 a2 a3 t409 t410 t413 bt416.1 bt416.2 true)))) = some r := H
      have A11 := Aside0.mk A110
      clear A110
      replace H := Option.bind_eq_some_iff.mp H
      obtain ⟨⟨t416, t417⟩, A120, H⟩ := H
      replace H : ((laws_eqLeaseS.f k t416 t409).bind fun t420 => (if t420 = true then (laws_FnExactTakeLease.j0 k l0 a1 a2 a3 t409 t410 t413 t416 t417 (t417 != t410)) else (laws_FnExactTakeLease.j0 k l0 a1 a2 a3 t409 t410 t413 t416 t417 true))) = some r := H
      have A12 := Aside0.mk A120
      clear A120
      have HC13 := Aside0.mk H
      clear H
      go_enter Tryd.func6, Tryd.ntmps6
      go_upto_region 10 with (first | ((with_reducible refine gate_callee (f := 7) rfl ?_); refine GL (some 25) rfl rfl Tryd.func7 #[.slice A0 l0.length c0, .int .i64 1048576] rfl ?_; (with_reducible refine (laws_szLeaseS.calls k _ _ l0 1048576 t405 _ ?side1 ?side2 A6.out).mono ?_); (case side1 => exact CC HR0.out); (case side2 => exact HC0.out); rintro e w14 ⟨rfl, hb⟩; refine ⟨_, rfl, ?_⟩; replace HB := Aside0.mk (below_step (BB HB.out) hb); (try clear hb)) | ((with_reducible refine gate_callee (f := 9) rfl ?_); refine GL (some 30) rfl rfl Tryd.func9 #[.slice A0 l0.length c0] rfl ?_; (with_reducible refine (laws_toLeaseS.calls k _ _ l0 t406 _ ?side1 ?side2 A9.out).mono ?_); (case side1 => exact CC (Kd.C_below HR0.out HB.out)); (case side2 => exact HC0.out); rintro e w15 ⟨v407, rfl, ho0, hb⟩; refine ⟨_, rfl, ?_⟩; have HO408 := Aside0.mk (Kd.R_lower ho0 (below_size (BB HB.out))); replace HB := Aside0.mk (below_step (BB HB.out) hb); (try clear hb); (try clear ho0); obtain ⟨Ao16, co16, eo16⟩ := Kd.R_slice HO408.out; subst eo16) | ((with_reducible refine gate_callee (f := 21) rfl ?_); refine GL (some 34) rfl rfl Tryd.func21 #[.slice Ao16 t406.length co16, .string a1, .int .i64 a2, .int .i64 a3] rfl ?_; (with_reducible refine (spec_TakeLease.calls k _ _ t406 a1 a2 a3 t409 t410 _ ?side1 ?side2 A10.out).mono ?_); (case side1 => exact CC (Kd.R_reads' HO408.out).2.2); (case side2 => exact (Kd.R_reads' HO408.out).2.1); rintro e w17 ⟨v411, rfl, ho0, hb⟩; refine ⟨_, rfl, ?_⟩; have HO412 := Aside0.mk (Kd.R_lower (Kd.R_new' ho0 (Kd.R_lt (RR HO408.out))) (below_size (BB HB.out))); replace HO408 := Aside0.mk (Kd.R_elder' (RR HO408.out) (Kd.R_base ho0) hb); replace HB := Aside0.mk (below_step (BB HB.out) hb); (try clear hb); (try clear ho0)) | ((with_reducible refine gate_callee (f := 9) rfl ?_); refine GL (some 38) rfl rfl Tryd.func9 #[.slice A0 l0.length c0] rfl ?_; (with_reducible refine (laws_toLeaseS.calls k _ _ l0 t413 _ ?side1 ?side2 A11.out).mono ?_); (case side1 => exact CC (Kd.C_below HR0.out HB.out)); (case side2 => exact HC0.out); rintro e w18 ⟨v414, rfl, ho0, hb⟩; refine ⟨_, rfl, ?_⟩; have HO415 := Aside0.mk (Kd.R_lower (Kd.R_new' (Kd.R_new' ho0 (Kd.R_lt (RR HO408.out))) (Kd.R_lt (RR HO412.out))) (below_size (BB HB.out))); replace HO408 := Aside0.mk (Kd.R_elder' (RR HO408.out) (Kd.R_base ho0) hb); replace HO412 := Aside0.mk (Kd.R_elder' (RR HO412.out) (Kd.R_base ho0) hb); replace HB := Aside0.mk (below_step (BB HB.out) hb); (try clear hb); (try clear ho0); obtain ⟨Ao19, co19, eo19⟩ := Kd.R_slice HO415.out; subst eo19) | ((with_reducible refine gate_callee (f := 22) rfl ?_); refine GL (some 44) rfl rfl Tryd.func22 #[.slice Ao19 t413.length co19, .string a1, .int .i64 a2, .int .i64 a3] rfl ?_; (with_reducible refine (impl_TakeLease.calls _ _ t413 a1 a2 a3 t416 t417 _ ?side1 ?side2 A12.out).mono ?_); (case side1 => exact CC (Kd.R_reads' HO415.out).2.2); (case side2 => exact (Kd.R_reads' HO415.out).2.1); rintro e w20 ⟨v418, rfl, ho0, hb⟩; refine ⟨_, rfl, ?_⟩; have HO419 := Aside0.mk (Kd.R_lower (Kd.R_new' (Kd.R_new' (Kd.R_new' ho0 (Kd.R_lt (RR HO408.out))) (Kd.R_lt (RR HO412.out))) (Kd.R_lt (RR HO415.out))) (below_size (BB HB.out))); replace HO408 := Aside0.mk (Kd.R_elder' (RR HO408.out) (Kd.R_base ho0) hb); replace HO412 := Aside0.mk (Kd.R_elder' (RR HO412.out) (Kd.R_base ho0) hb); replace HO415 := Aside0.mk (Kd.R_elder' (RR HO415.out) (Kd.R_base ho0) hb); replace HB := Aside0.mk (below_step (BB HB.out) hb); (try clear hb); (try clear ho0)))
      (try simp only [Act.put, List.setIfInBounds_toArray, List.set_cons_zero, List.set_cons_succ])
      go_cut [55] (fun v55 wc => ∃ (kq : Nat) (x55_12 : Bool), v55 = .bool x55_12 ∧ Aside0 (laws_FnExactTakeLease.j0 kq l0 a1 a2 a3 t409 t410 t413 t416 t417 x55_12 = some r) ∧ Aside0 (kq ≤ k) ∧ Aside0 (Kd.R k54 54 wc w.heap.size (fun k_ => some k_ ≠ ((.slice Ao19 t413.length co19) : Value).ownBlock ∧ some k_ ≠ (v418 : Value).ownBlock) v411 t409) ∧ Aside0 (Kd.R k54 54 wc w.heap.size (fun k_ => some k_ ≠ (v411 : Value).ownBlock ∧ some k_ ≠ (v418 : Value).ownBlock) (.slice Ao19 t413.length co19) t413) ∧ Aside0 (Kd.R k54 54 wc w.heap.size (fun k_ => some k_ ≠ (v411 : Value).ownBlock ∧ some k_ ≠ ((.slice Ao19 t413.length co19) : Value).ownBlock) v418 t416) ∧ Aside0 (Below w.heap.size w wc))
      case first =>
        have H := HC13.out
        clear HC13
        replace H := Option.bind_eq_some_iff.mp H
        obtain ⟨t420, A210, H⟩ := H
        replace H : (if t420 = true then (laws_FnExactTakeLease.j0 k l0 a1 a2 a3 t409 t410 t413 t416 t417 (t417 != t410)) else (laws_FnExactTakeLease.j0 k l0 a1 a2 a3 t409 t410 t413 t416 t417 true)) = some r := H
        have A21 := Aside0.mk A210
        clear A210
        by_cases c22 : t420 = true
        · subst c22
          have H1 : (laws_FnExactTakeLease.j0 k l0 a1 a2 a3 t409 t410 t413 t416 t417 (t417 != t410)) = some r := by rw [if_pos rfl] at H; exact H
          clear H
          have H := H1
          clear H1
          have H' := Aside0.mk H
          clear H
          obtain ⟨Ao23, co23, eo23⟩ := Kd.R_slice HO419.out
          subst eo23
          obtain ⟨Ao24, co24, eo24⟩ := Kd.R_slice HO412.out
          subst eo24
          go_wp2_with (first | ((with_reducible refine gate_callee (f := 11) rfl ?_); refine GL (some 49) rfl rfl Tryd.func11 #[.slice Ao23 t416.length co23, .slice Ao24 t409.length co24] rfl ?_; (with_reducible refine (laws_eqLeaseS.calls k _ _ t416 _ _ t409 true _ ?side1 ?side2 ?side3 ?side4 A21.out).mono ?_); (case side1 => exact CC (Kd.R_reads' HO419.out).2.2); (case side2 => exact (Kd.R_reads' HO419.out).2.1); (case side3 => exact CC (Kd.R_reads' HO412.out).2.2); (case side4 => exact (Kd.R_reads' HO412.out).2.1); rintro e w25 ⟨rfl, hb⟩; refine ⟨_, rfl, ?_⟩; replace HO408 := Aside0.mk (Kd.R_below (RR HO408.out) hb); replace HO412 := Aside0.mk (Kd.R_below (RR HO412.out) hb); replace HO415 := Aside0.mk (Kd.R_below (RR HO415.out) hb); replace HO419 := Aside0.mk (Kd.R_below (RR HO419.out) hb); replace HB := Aside0.mk (below_step (BB HB.out) hb); (try clear hb)))
          go_meet
          case rel => exact ⟨_, ((t417 != t410)), FR, H', ⟨by first | omega | exact Nat.le_refl _⟩, ⟨by (with_reducible repeat (first | apply Kd.R_alloc | apply Kd.R_drewN | apply Kd.R_drew)); exact Kd.R_mono HO412.out (fun _ hk => ⟨hk.1.2, hk.2⟩)⟩, ⟨by (with_reducible repeat (first | apply Kd.R_alloc | apply Kd.R_drewN | apply Kd.R_drew)); exact Kd.R_mono HO415.out (fun _ hk => ⟨hk.1.2, hk.2⟩)⟩, ⟨by (with_reducible repeat (first | apply Kd.R_alloc | apply Kd.R_drewN | apply Kd.R_drew)); exact Kd.R_mono HO419.out (fun _ hk => ⟨hk.1.2, hk.2⟩)⟩, ⟨(BB HB.out)⟩⟩
        · replace c22 := Bool.eq_false_iff.mpr c22
          subst c22
          have H1 : (laws_FnExactTakeLease.j0 k l0 a1 a2 a3 t409 t410 t413 t416 t417 true) = some r := by rw [if_neg (show ¬ (false = true) by decide)] at H; exact H
          clear H
          have H := H1
          clear H1
          have H' := Aside0.mk H
          clear H
          obtain ⟨Ao26, co26, eo26⟩ := Kd.R_slice HO419.out
          subst eo26
          obtain ⟨Ao27, co27, eo27⟩ := Kd.R_slice HO412.out
          subst eo27
          go_wp2_with (first | ((with_reducible refine gate_callee (f := 11) rfl ?_); refine GL (some 49) rfl rfl Tryd.func11 #[.slice Ao26 t416.length co26, .slice Ao27 t409.length co27] rfl ?_; (with_reducible refine (laws_eqLeaseS.calls k _ _ t416 _ _ t409 false _ ?side1 ?side2 ?side3 ?side4 A21.out).mono ?_); (case side1 => exact CC (Kd.R_reads' HO419.out).2.2); (case side2 => exact (Kd.R_reads' HO419.out).2.1); (case side3 => exact CC (Kd.R_reads' HO412.out).2.2); (case side4 => exact (Kd.R_reads' HO412.out).2.1); rintro e w28 ⟨rfl, hb⟩; refine ⟨_, rfl, ?_⟩; replace HO408 := Aside0.mk (Kd.R_below (RR HO408.out) hb); replace HO412 := Aside0.mk (Kd.R_below (RR HO412.out) hb); replace HO415 := Aside0.mk (Kd.R_below (RR HO415.out) hb); replace HO419 := Aside0.mk (Kd.R_below (RR HO419.out) hb); replace HB := Aside0.mk (below_step (BB HB.out) hb); (try clear hb)))
          go_meet
          case rel => exact ⟨_, (true), FR, H', ⟨by first | omega | exact Nat.le_refl _⟩, ⟨by (with_reducible repeat (first | apply Kd.R_alloc | apply Kd.R_drewN | apply Kd.R_drew)); exact Kd.R_mono HO412.out (fun _ hk => ⟨hk.1.2, hk.2⟩)⟩, ⟨by (with_reducible repeat (first | apply Kd.R_alloc | apply Kd.R_drewN | apply Kd.R_drew)); exact Kd.R_mono HO415.out (fun _ hk => ⟨hk.1.2, hk.2⟩)⟩, ⟨by (with_reducible repeat (first | apply Kd.R_alloc | apply Kd.R_drewN | apply Kd.R_drew)); exact Kd.R_mono HO419.out (fun _ hk => ⟨hk.1.2, hk.2⟩)⟩, ⟨(BB HB.out)⟩⟩
      case rest =>
        clear HC13
        try clear c1
        try clear c2
        try clear p2
        try clear c5
        try clear c5b0
        try clear c5b1
        try clear c6
        try clear c7
        try clear c7b0
        try clear c9
        try clear c11
        try clear c21
        try clear c22
        obtain ⟨kq, x55_12, rfl, HA, HJ12, HO_10, HO_12, HO_13, HB⟩ := hcut
        cases kq with
        | zero => exact absurd HA.out (by simp [laws_FnExactTakeLease.j0])
        | succ kj12 =>
          have H := HA.out
          clear HA
          simp only [laws_FnExactTakeLease.j0] at H
          by_cases c29 : x55_12 = true
          · subst c29
            have H1 : (some false) = some r := by rw [if_pos rfl] at H; exact H
            clear H
            have H := H1
            clear H1
            exact absurd ((Option.some.inj H).trans hr_.out) (by decide)
          · replace c29 := Bool.eq_false_iff.mpr c29
            subst c29
            have H1 : ((laws_toLeaseS.f kj12 l0).bind fun t421 => ((laws_eqLeaseS.f kj12 t413 t421).bind fun t424 => (if t424 = true then ((laws_markLeaseS.f kj12 t413 1).bind fun bt425 => (if bt425.1 < 0 then (laws_FnExactTakeLease.j1 kj12 l0 a1 a2 a3 t409 t410 t416 true) else ((laws_eqLeaseS.f kj12 t416 t409).bind fun t427 => (if t427 = true then (laws_FnExactTakeLease.j1 kj12 l0 a1 a2 a3 t409 t410 t416 (t417 != t410)) else (laws_FnExactTakeLease.j1 kj12 l0 a1 a2 a3 t409 t410 t416 true))))) else (some false)))) = some r := by rw [if_neg (show ¬ (false = true) by decide)] at H; exact H
            clear H
            have H := H1
            clear H1
            replace H := Option.bind_eq_some_iff.mp H
            obtain ⟨t421, A300, H⟩ := H
            replace H : ((laws_eqLeaseS.f kj12 t413 t421).bind fun t424 => (if t424 = true then ((laws_markLeaseS.f kj12 t413 1).bind fun bt425 => (if bt425.1 < 0 then (laws_FnExactTakeLease.j1 kj12 l0 a1 a2 a3 t409 t410 t416 true) else ((laws_eqLeaseS.f kj12 t416 t409).bind fun t427 => (if t427 = true then (laws_FnExactTakeLease.j1 kj12 l0 a1 a2 a3 t409 t410 t416 (t417 != t410)) else (laws_FnExactTakeLease.j1 kj12 l0 a1 a2 a3 t409 t410 t416 true))))) else (some false))) = some r := H
            have A30 := Aside0.mk A300
            clear A300
            replace H := Option.bind_eq_some_iff.mp H
            obtain ⟨t424, A310, H⟩ := H
            replace H : (if t424 = true then ((laws_markLeaseS.f kj12 t413 1).bind fun bt425 => (if bt425.1 < 0 then (laws_FnExactTakeLease.j1 kj12 l0 a1 a2 a3 t409 t410 t416 true) else ((laws_eqLeaseS.f kj12 t416 t409).bind fun t427 => (if t427 = true then (laws_FnExactTakeLease.j1 kj12 l0 a1 a2 a3 t409 t410 t416 (t417 != t410)) else (laws_FnExactTakeLease.j1 kj12 l0 a1 a2 a3 t409 t410 t416 true))))) else (some false)) = some r := H
            have A31 := Aside0.mk A310
            clear A310
            by_cases c32 : t424 = true
            · subst c32
              have H1 : ((laws_markLeaseS.f kj12 t413 1).bind fun bt425 => (if bt425.1 < 0 then (laws_FnExactTakeLease.j1 kj12 l0 a1 a2 a3 t409 t410 t416 true) else ((laws_eqLeaseS.f kj12 t416 t409).bind fun t427 => (if t427 = true then (laws_FnExactTakeLease.j1 kj12 l0 a1 a2 a3 t409 t410 t416 (t417 != t410)) else (laws_FnExactTakeLease.j1 kj12 l0 a1 a2 a3 t409 t410 t416 true))))) = some r := by rw [if_pos rfl] at H; exact H
              clear H
              have H := H1
              clear H1
              replace H := Option.bind_eq_some_iff.mp H
              obtain ⟨⟨t425, t426⟩, A330, H⟩ := H
              replace H : (if t425 < 0 then (laws_FnExactTakeLease.j1 kj12 l0 a1 a2 a3 t409 t410 t416 true) else ((laws_eqLeaseS.f kj12 t416 t409).bind fun t427 => (if t427 = true then (laws_FnExactTakeLease.j1 kj12 l0 a1 a2 a3 t409 t410 t416 (t417 != t410)) else (laws_FnExactTakeLease.j1 kj12 l0 a1 a2 a3 t409 t410 t416 true)))) = some r := H
              have A33 := Aside0.mk A330
              clear A330
              have HC34 := Aside0.mk H
              clear H
              go_upto_region 16 with (first | ((with_reducible refine gate_callee (f := 9) rfl ?_); refine GL (some 58) rfl rfl Tryd.func9 #[.slice A0 l0.length c0] rfl ?_; (with_reducible refine (laws_toLeaseS.calls kj12 _ _ l0 t421 _ ?side1 ?side2 A30.out).mono ?_); (case side1 => exact CC (Kd.C_below HR0.out HB.out)); (case side2 => exact HC0.out); rintro e w35 ⟨v422, rfl, ho0, hb⟩; refine ⟨_, rfl, ?_⟩; have HO423 := Aside0.mk (Kd.R_lower (Kd.R_new' (Kd.R_new' (Kd.R_new' ho0 (Kd.R_lt (RR HO_10.out))) (Kd.R_lt (RR HO_12.out))) (Kd.R_lt (RR HO_13.out))) (below_size (BB HB.out))); replace HO_10 := Aside0.mk (Kd.R_elder' (RR HO_10.out) (Kd.R_base ho0) hb); replace HO_12 := Aside0.mk (Kd.R_elder' (RR HO_12.out) (Kd.R_base ho0) hb); replace HO_13 := Aside0.mk (Kd.R_elder' (RR HO_13.out) (Kd.R_base ho0) hb); replace HB := Aside0.mk (below_step (BB HB.out) hb); (try clear hb); (try clear ho0); obtain ⟨Ao36, co36, eo36⟩ := Kd.R_slice HO423.out; subst eo36) | ((with_reducible refine gate_callee (f := 11) rfl ?_); refine GL (some 59) rfl rfl Tryd.func11 #[.slice Ao19 t413.length co19, .slice Ao36 t421.length co36] rfl ?_; (with_reducible refine (laws_eqLeaseS.calls kj12 _ _ t413 _ _ t421 true _ ?side1 ?side2 ?side3 ?side4 A31.out).mono ?_); (case side1 => exact CC (Kd.R_reads' HO_12.out).2.2); (case side2 => exact (Kd.R_reads' HO_12.out).2.1); (case side3 => exact CC (Kd.R_reads' HO423.out).2.2); (case side4 => exact (Kd.R_reads' HO423.out).2.1); rintro e w37 ⟨rfl, hb⟩; refine ⟨_, rfl, ?_⟩; replace HO_10 := Aside0.mk (Kd.R_below (RR HO_10.out) hb); replace HO_12 := Aside0.mk (Kd.R_below (RR HO_12.out) hb); replace HO_13 := Aside0.mk (Kd.R_below (RR HO_13.out) hb); replace HO423 := Aside0.mk (Kd.R_below (RR HO423.out) hb); replace HB := Aside0.mk (below_step (BB HB.out) hb); (try clear hb)) | ((with_reducible refine gate_callee (f := 23) rfl ?_); refine GL (some 63) rfl rfl Tryd.func23 #[.slice Ao19 t413.length co19, .int .i64 1] rfl ?_; (with_reducible refine (laws_markLeaseS.calls kj12 (fun k_ => some k_ = (.slice Ao19 t413.length co19 : Value).ownBlock) (.slice Ao19 t413.length co19) t413 1 t425 t426 w _ ?side1 ?side2 A33.out).mono ?_); (case side1 => repeat (first | (with_reducible first | exact HB.out | apply below_alloc | apply pw_below_drewN | apply below_drew1) | exact HB.out)); (case side2 => exact Kd.R_tight rfl HO_12.out); rintro e w38 ⟨rfl, hy0, hb, hkp⟩; refine ⟨_, rfl, ?_⟩; replace HO_10 := Aside0.mk (Kd.R_mono (ok' := fun k_ => some k_ ≠ (.slice Ao19 t413.length co19 : Value).ownBlock ∧ some k_ ≠ (v418 : Value).ownBlock ∧ some k_ ≠ (.slice Ao36 t421.length co36 : Value).ownBlock) (Kd.R_keptB (HO_10.out) hkp (fun k_ hk_ hs_ => (hk_.1.1) hs_)) (fun k_ hk_ => ⟨hk_.1.1.1, hk_.1.1.2, hk_.1.2⟩)); replace HO_12 := Aside0.mk (Kd.R_reok rfl hy0 (fun k_ e_ => HO_12.out.1 k_ e_)); replace HO_13 := Aside0.mk (Kd.R_mono (ok' := fun k_ => some k_ ≠ (v411 : Value).ownBlock ∧ some k_ ≠ (.slice Ao19 t413.length co19 : Value).ownBlock ∧ some k_ ≠ (.slice Ao36 t421.length co36 : Value).ownBlock) (Kd.R_keptB (HO_13.out) hkp (fun k_ hk_ hs_ => (hk_.1.2) hs_)) (fun k_ hk_ => ⟨hk_.1.1.1, hk_.1.1.2, hk_.1.2⟩)); replace HO423 := Aside0.mk (Kd.R_mono (ok' := fun k_ => some k_ ≠ (v411 : Value).ownBlock ∧ some k_ ≠ (.slice Ao19 t413.length co19 : Value).ownBlock ∧ some k_ ≠ (v418 : Value).ownBlock) (Kd.R_keptB (HO423.out) hkp (fun k_ hk_ hs_ => (hk_.1.2) hs_)) (fun k_ hk_ => ⟨hk_.1.1.1.2, hk_.1.1.2, hk_.1.2⟩)); replace HB := Aside0.mk (hb); (try clear hb); (try clear hkp); (try clear hy0)))
              (try simp only [Act.put, List.setIfInBounds_toArray, List.set_cons_zero, List.set_cons_succ])
              go_cut [76] (fun v76 wc => ∃ (kq : Nat) (x76_33 : Bool), v76 = .bool x76_33 ∧ Aside0 (laws_FnExactTakeLease.j1 kq l0 a1 a2 a3 t409 t410 t416 x76_33 = some r) ∧ Aside0 (kq ≤ kj12) ∧ Aside0 (Kd.R k54 54 wc w.heap.size (fun k_ => some k_ ≠ (v418 : Value).ownBlock) v411 t409) ∧ Aside0 (Kd.R k54 54 wc w.heap.size (fun k_ => some k_ ≠ (v411 : Value).ownBlock) v418 t416) ∧ Aside0 (Below w.heap.size w wc))
              case first =>
                have H := HC34.out
                clear HC34
                by_cases c39 : t425 < 0
                · rw [if_pos c39] at H
                  have c39b0 : decide (t425 < 0) = true := decide_eq_true c39
                  clear c39
                  (first | rw [c39b0] | (simp only [i64_w, i32_w]; rw [c39b0]) | skip)
                  have H' := Aside0.mk H
                  clear H
                  go_wp2
                  go_meet
                  case rel => exact ⟨_, (true), FR, H', ⟨by have := HJ12.out; first | omega | exact Nat.le_refl _⟩, ⟨by (with_reducible repeat (first | apply Kd.R_alloc | apply Kd.R_drewN | apply Kd.R_drew)); exact Kd.R_mono HO_10.out (fun _ hk => hk.2.1)⟩, ⟨by (with_reducible repeat (first | apply Kd.R_alloc | apply Kd.R_drewN | apply Kd.R_drew)); exact Kd.R_mono HO_13.out (fun _ hk => hk.1)⟩, ⟨(BB HB.out)⟩⟩
                · rw [if_neg c39] at H
                  have c39b0 : decide (t425 < 0) = false := decide_eq_false c39
                  clear c39
                  (first | rw [c39b0] | (simp only [i64_w, i32_w]; rw [c39b0]) | skip)
                  replace H := Option.bind_eq_some_iff.mp H
                  obtain ⟨t427, A400, H⟩ := H
                  replace H : (if t427 = true then (laws_FnExactTakeLease.j1 kj12 l0 a1 a2 a3 t409 t410 t416 (t417 != t410)) else (laws_FnExactTakeLease.j1 kj12 l0 a1 a2 a3 t409 t410 t416 true)) = some r := H
                  have A40 := Aside0.mk A400
                  clear A400
                  by_cases c41 : t427 = true
                  · subst c41
                    have H1 : (laws_FnExactTakeLease.j1 kj12 l0 a1 a2 a3 t409 t410 t416 (t417 != t410)) = some r := by rw [if_pos rfl] at H; exact H
                    clear H
                    have H := H1
                    clear H1
                    have H' := Aside0.mk H
                    clear H
                    obtain ⟨Ao42, co42, eo42⟩ := Kd.R_slice HO_13.out
                    subst eo42
                    obtain ⟨Ao43, co43, eo43⟩ := Kd.R_slice HO_10.out
                    subst eo43
                    go_wp2_with (first | (go_at_call 11; (with_reducible refine (laws_eqLeaseS.calls kj12 _ _ t416 _ _ t409 true _ ?side1 ?side2 ?side3 ?side4 A40.out).mono ?_); (case side1 => exact CC (Kd.R_reads' HO_13.out).2.2); (case side2 => exact (Kd.R_reads' HO_13.out).2.1); (case side3 => exact CC (Kd.R_reads' HO_10.out).2.2); (case side4 => exact (Kd.R_reads' HO_10.out).2.1); rintro e w44 ⟨rfl, hb⟩; replace HO_10 := Aside0.mk (Kd.R_below (RR HO_10.out) hb); replace HO_12 := Aside0.mk (Kd.R_below (RR HO_12.out) hb); replace HO_13 := Aside0.mk (Kd.R_below (RR HO_13.out) hb); replace HO423 := Aside0.mk (Kd.R_below (RR HO423.out) hb); replace HB := Aside0.mk (below_step (BB HB.out) hb); (try clear hb); (try clear hb2); (try clear hk); (try clear hi)))
                    go_meet
                    case rel => exact ⟨_, ((t417 != t410)), FR, H', ⟨by have := HJ12.out; first | omega | exact Nat.le_refl _⟩, ⟨by (with_reducible repeat (first | apply Kd.R_alloc | apply Kd.R_drewN | apply Kd.R_drew)); exact Kd.R_mono HO_10.out (fun _ hk => hk.2.1)⟩, ⟨by (with_reducible repeat (first | apply Kd.R_alloc | apply Kd.R_drewN | apply Kd.R_drew)); exact Kd.R_mono HO_13.out (fun _ hk => hk.1)⟩, ⟨(BB HB.out)⟩⟩
                  · replace c41 := Bool.eq_false_iff.mpr c41
                    subst c41
                    have H1 : (laws_FnExactTakeLease.j1 kj12 l0 a1 a2 a3 t409 t410 t416 true) = some r := by rw [if_neg (show ¬ (false = true) by decide)] at H; exact H
                    clear H
                    have H := H1
                    clear H1
                    have H' := Aside0.mk H
                    clear H
                    obtain ⟨Ao45, co45, eo45⟩ := Kd.R_slice HO_13.out
                    subst eo45
                    obtain ⟨Ao46, co46, eo46⟩ := Kd.R_slice HO_10.out
                    subst eo46
                    go_wp2_with (first | (go_at_call 11; (with_reducible refine (laws_eqLeaseS.calls kj12 _ _ t416 _ _ t409 false _ ?side1 ?side2 ?side3 ?side4 A40.out).mono ?_); (case side1 => exact CC (Kd.R_reads' HO_13.out).2.2); (case side2 => exact (Kd.R_reads' HO_13.out).2.1); (case side3 => exact CC (Kd.R_reads' HO_10.out).2.2); (case side4 => exact (Kd.R_reads' HO_10.out).2.1); rintro e w47 ⟨rfl, hb⟩; replace HO_10 := Aside0.mk (Kd.R_below (RR HO_10.out) hb); replace HO_12 := Aside0.mk (Kd.R_below (RR HO_12.out) hb); replace HO_13 := Aside0.mk (Kd.R_below (RR HO_13.out) hb); replace HO423 := Aside0.mk (Kd.R_below (RR HO423.out) hb); replace HB := Aside0.mk (below_step (BB HB.out) hb); (try clear hb); (try clear hb2); (try clear hk); (try clear hi)))
                    go_meet
                    case rel => exact ⟨_, (true), FR, H', ⟨by have := HJ12.out; first | omega | exact Nat.le_refl _⟩, ⟨by (with_reducible repeat (first | apply Kd.R_alloc | apply Kd.R_drewN | apply Kd.R_drew)); exact Kd.R_mono HO_10.out (fun _ hk => hk.2.1)⟩, ⟨by (with_reducible repeat (first | apply Kd.R_alloc | apply Kd.R_drewN | apply Kd.R_drew)); exact Kd.R_mono HO_13.out (fun _ hk => hk.1)⟩, ⟨(BB HB.out)⟩⟩
              case rest =>
                clear HC34
                try clear c1
                try clear c2
                try clear p2
                try clear c3
                try clear c4
                try clear c5
                try clear c5b0
                try clear c5b1
                try clear c6
                try clear c7
                try clear c7b0
                try clear c9
                try clear c11
                try clear c21
                try clear c22
                try clear c23
                try clear c29
                try clear c32
                try clear c39
                try clear c39b0
                try clear c41
                try clear p2
                obtain ⟨kq, x76_33, rfl, HA, HJ33, HO_10, HO_13, HB⟩ := hcut
                cases kq with
                | zero => exact absurd HA.out (by simp [laws_FnExactTakeLease.j1])
                | succ kj33 =>
                  have H := HA.out
                  clear HA
                  simp only [laws_FnExactTakeLease.j1] at H
                  by_cases c48 : x76_33 = true
                  · subst c48
                    have H1 : (some false) = some r := by rw [if_pos rfl] at H; exact H
                    clear H
                    have H := H1
                    clear H1
                    exact absurd ((Option.some.inj H).trans hr_.out) (by decide)
                  · replace c48 := Bool.eq_false_iff.mpr c48
                    subst c48
                    have H1 : ((laws_markLeaseS.f kj33 t416 1).bind fun bt428 => ((laws_heldLeaseS.f kj33 bt428.2 1).bind fun t430 => (if t430 < 0 then (some false) else (if t430 = bt428.1 then ((laws_toLeaseS.f kj33 l0).bind fun t431 => ((impl_TakeLease.f t431 a1 a2 a3).bind fun bt434 => ((laws_eqLeaseS.f kj33 bt434.1 t409).bind fun t438 => (if t438 = true then (laws_FnExactTakeLease.j2 kj33 bt428.2 bt428.1 (bt434.2 != t410)) else (laws_FnExactTakeLease.j2 kj33 bt428.2 bt428.1 true))))) else (some false))))) = some r := by rw [if_neg (show ¬ (false = true) by decide)] at H; exact H
                    clear H
                    have H := H1
                    clear H1
                    replace H := Option.bind_eq_some_iff.mp H
                    obtain ⟨⟨t428, t429⟩, A490, H⟩ := H
                    replace H : ((laws_heldLeaseS.f kj33 t429 1).bind fun t430 => (if t430 < 0 then (some false) else (if t430 = t428 then ((laws_toLeaseS.f kj33 l0).bind fun t431 => ((impl_TakeLease.f t431 a1 a2 a3).bind fun bt434 => ((laws_eqLeaseS.f kj33 bt434.1 t409).bind fun t438 => (if t438 = true then (laws_FnExactTakeLease.j2 kj33 t429 t428 (bt434.2 != t410)) else (laws_FnExactTakeLease.j2 kj33 t429 t428 true))))) else (some false)))) = some r := H
                    have A49 := Aside0.mk A490
                    clear A490
                    replace H := Option.bind_eq_some_iff.mp H
                    obtain ⟨t430, A500, H⟩ := H
                    replace H : (if t430 < 0 then (some false) else (if t430 = t428 then ((laws_toLeaseS.f kj33 l0).bind fun t431 => ((impl_TakeLease.f t431 a1 a2 a3).bind fun bt434 => ((laws_eqLeaseS.f kj33 bt434.1 t409).bind fun t438 => (if t438 = true then (laws_FnExactTakeLease.j2 kj33 t429 t428 (bt434.2 != t410)) else (laws_FnExactTakeLease.j2 kj33 t429 t428 true))))) else (some false))) = some r := H
                    have A50 := Aside0.mk A500
                    clear A500
                    by_cases c51 : t430 < 0
                    · rw [if_pos c51] at H
                      have c51b0 : decide (t430 < 0) = true := decide_eq_true c51
                      clear c51
                      exact absurd ((Option.some.inj H).trans hr_.out) (by decide)
                    · rw [if_neg c51] at H
                      have c51b0 : decide (t430 < 0) = false := decide_eq_false c51
                      clear c51
                      by_cases c52 : t430 = t428
                      · rw [if_pos c52] at H
                        have c52b0 : (t430 == t428) = true := beq_iff_eq.mpr c52
                        have c52b1 : (t430 != t428) = false := bne_eq_false_iff_eq.mpr c52
                        clear c52
                        replace H := Option.bind_eq_some_iff.mp H
                        obtain ⟨t431, A530, H⟩ := H
                        replace H : ((impl_TakeLease.f t431 a1 a2 a3).bind fun bt434 => ((laws_eqLeaseS.f kj33 bt434.1 t409).bind fun t438 => (if t438 = true then (laws_FnExactTakeLease.j2 kj33 t429 t428 (bt434.2 != t410)) else (laws_FnExactTakeLease.j2 kj33 t429 t428 true)))) = some r := H
                        have A53 := Aside0.mk A530
                        clear A530
                        replace H := Option.bind_eq_some_iff.mp H
                        obtain ⟨⟨t434, t435⟩, A540, H⟩ := H
                        replace H : ((laws_eqLeaseS.f kj33 t434 t409).bind fun t438 => (if t438 = true then (laws_FnExactTakeLease.j2 kj33 t429 t428 (t435 != t410)) else (laws_FnExactTakeLease.j2 kj33 t429 t428 true))) = some r := H
                        have A54 := Aside0.mk A540
                        clear A540
                        have HC55 := Aside0.mk H
                        clear H
                        obtain ⟨Ao56, co56, eo56⟩ := Kd.R_slice HO_13.out
                        subst eo56
                        go_upto_region 27 with (first | ((with_reducible refine gate_callee (f := 23) rfl ?_); refine GL (some 79) rfl rfl Tryd.func23 #[.slice Ao56 t416.length co56, .int .i64 1] rfl ?_; (with_reducible refine (laws_markLeaseS.calls kj33 (fun k_ => some k_ = (.slice Ao56 t416.length co56 : Value).ownBlock) (.slice Ao56 t416.length co56) t416 1 t428 t429 w _ ?side1 ?side2 A49.out).mono ?_); (case side1 => repeat (first | (with_reducible first | exact HB.out | apply below_alloc | apply pw_below_drewN | apply below_drew1) | exact HB.out)); (case side2 => exact Kd.R_tight rfl HO_13.out); rintro e w57 ⟨rfl, hy0, hb, hkp⟩; refine ⟨_, rfl, ?_⟩; replace HO_10 := Aside0.mk (Kd.R_mono (ok' := fun k_ => some k_ ≠ (.slice Ao56 t416.length co56 : Value).ownBlock) (Kd.R_keptB (HO_10.out) hkp (fun k_ hk_ hs_ => (hk_) hs_)) (fun k_ hk_ => hk_.1)); replace HO_13 := Aside0.mk (Kd.R_reok rfl hy0 (fun k_ e_ => HO_13.out.1 k_ e_)); replace HB := Aside0.mk (hb); (try clear hb); (try clear hkp); (try clear hy0)) | ((with_reducible refine gate_callee (f := 24) rfl ?_); refine goesL_ (some 82) rfl rfl Tryd.func24 (by kernel_rfl) rfl #[.slice Ao56 t429.length co56, .int .i64 1] rfl (by (try simp only [List.map_toArray, List.map_cons, List.map_nil]); first | done | (rw [show t429.length = t416.length from (Kd.R_reads' HO_13.out).1.symm] <;> rfl) | rfl | (simp only [List.length_drop, List.length_take]; rfl)) ?_; (with_reducible refine (laws_heldLeaseS.calls kj33 _ _ t429 1 t430 _ ?side1 ?side2 A50.out).mono ?_); (case side1 => exact CC (Kd.R_reads' HO_13.out).2.2); (case side2 => rw [show t429.length = t416.length from (Kd.R_reads' HO_13.out).1.symm]; exact (Kd.R_reads' HO_13.out).2.1); rintro e w58 ⟨rfl, hb⟩; refine ⟨_, rfl, ?_⟩; replace HO_10 := Aside0.mk (Kd.R_below (RR HO_10.out) hb); replace HO_13 := Aside0.mk (Kd.R_below (RR HO_13.out) hb); replace HB := Aside0.mk (below_step (BB HB.out) hb); (try clear hb)) | ((with_reducible refine gate_callee (f := 9) rfl ?_); refine GL (some 90) rfl rfl Tryd.func9 #[.slice A0 l0.length c0] rfl ?_; (with_reducible refine (laws_toLeaseS.calls kj33 _ _ l0 t431 _ ?side1 ?side2 A53.out).mono ?_); (case side1 => exact CC (Kd.C_below HR0.out HB.out)); (case side2 => exact HC0.out); rintro e w59 ⟨v432, rfl, ho0, hb⟩; refine ⟨_, rfl, ?_⟩; have HO433 := Aside0.mk (Kd.R_lower (Kd.R_new' (Kd.R_new' ho0 (Kd.R_lt (RR HO_10.out))) (Kd.R_lt (RR HO_13.out))) (below_size (BB HB.out))); replace HO_10 := Aside0.mk (Kd.R_elder' (RR HO_10.out) (Kd.R_base ho0) hb); replace HO_13 := Aside0.mk (Kd.R_elder' (RR HO_13.out) (Kd.R_base ho0) hb); replace HB := Aside0.mk (below_step (BB HB.out) hb); (try clear hb); (try clear ho0); obtain ⟨Ao60, co60, eo60⟩ := Kd.R_slice HO433.out; subst eo60) | ((with_reducible refine gate_callee (f := 22) rfl ?_); refine GL (some 94) rfl rfl Tryd.func22 #[.slice Ao60 t431.length co60, .string a1, .int .i64 a2, .int .i64 a3] rfl ?_; (with_reducible refine (impl_TakeLease.calls _ _ t431 a1 a2 a3 t434 t435 _ ?side1 ?side2 A54.out).mono ?_); (case side1 => exact CC (Kd.R_reads' HO433.out).2.2); (case side2 => exact (Kd.R_reads' HO433.out).2.1); rintro e w61 ⟨v436, rfl, ho0, hb⟩; refine ⟨_, rfl, ?_⟩; have HO437 := Aside0.mk (Kd.R_lower (Kd.R_new' (Kd.R_new' (Kd.R_new' ho0 (Kd.R_lt (RR HO_10.out))) (Kd.R_lt (RR HO_13.out))) (Kd.R_lt (RR HO433.out))) (below_size (BB HB.out))); replace HO_10 := Aside0.mk (Kd.R_elder' (RR HO_10.out) (Kd.R_base ho0) hb); replace HO_13 := Aside0.mk (Kd.R_elder' (RR HO_13.out) (Kd.R_base ho0) hb); replace HO433 := Aside0.mk (Kd.R_elder' (RR HO433.out) (Kd.R_base ho0) hb); replace HB := Aside0.mk (below_step (BB HB.out) hb); (try clear hb); (try clear ho0)))
                        (try simp only [Act.put, List.setIfInBounds_toArray, List.set_cons_zero, List.set_cons_succ])
                        go_cut [105] (fun v105 wc => ∃ (kq : Nat) (x105_54 : Bool), v105 = .bool x105_54 ∧ Aside0 (laws_FnExactTakeLease.j2 kq t429 t428 x105_54 = some r) ∧ Aside0 (kq ≤ kj33) ∧ Aside0 (Kd.R k54 54 wc w.heap.size (fun _ => True) (.slice Ao56 t416.length co56) t429) ∧ Aside0 (Below w.heap.size w wc))
                        case first =>
                          have H := HC55.out
                          clear HC55
                          replace H := Option.bind_eq_some_iff.mp H
                          obtain ⟨t438, A620, H⟩ := H
                          replace H : (if t438 = true then (laws_FnExactTakeLease.j2 kj33 t429 t428 (t435 != t410)) else (laws_FnExactTakeLease.j2 kj33 t429 t428 true)) = some r := H
                          have A62 := Aside0.mk A620
                          clear A620
                          by_cases c63 : t438 = true
                          · subst c63
                            have H1 : (laws_FnExactTakeLease.j2 kj33 t429 t428 (t435 != t410)) = some r := by rw [if_pos rfl] at H; exact H
                            clear H
                            have H := H1
                            clear H1
                            have H' := Aside0.mk H
                            clear H
                            obtain ⟨Ao64, co64, eo64⟩ := Kd.R_slice HO437.out
                            subst eo64
                            obtain ⟨Ao65, co65, eo65⟩ := Kd.R_slice HO_10.out
                            subst eo65
                            go_wp2_with (first | ((with_reducible refine gate_callee (f := 11) rfl ?_); refine GL (some 99) rfl rfl Tryd.func11 #[.slice Ao64 t434.length co64, .slice Ao65 t409.length co65] rfl ?_; (with_reducible refine (laws_eqLeaseS.calls kj33 _ _ t434 _ _ t409 true _ ?side1 ?side2 ?side3 ?side4 A62.out).mono ?_); (case side1 => exact CC (Kd.R_reads' HO437.out).2.2); (case side2 => exact (Kd.R_reads' HO437.out).2.1); (case side3 => exact CC (Kd.R_reads' HO_10.out).2.2); (case side4 => exact (Kd.R_reads' HO_10.out).2.1); rintro e w66 ⟨rfl, hb⟩; refine ⟨_, rfl, ?_⟩; replace HO_10 := Aside0.mk (Kd.R_below (RR HO_10.out) hb); replace HO_13 := Aside0.mk (Kd.R_below (RR HO_13.out) hb); replace HO433 := Aside0.mk (Kd.R_below (RR HO433.out) hb); replace HO437 := Aside0.mk (Kd.R_below (RR HO437.out) hb); replace HB := Aside0.mk (below_step (BB HB.out) hb); (try clear hb)))
                            go_meet
                            case rel => exact ⟨_, ((t435 != t410)), FR, H', ⟨by have := HJ12.out; have := HJ33.out; first | omega | exact Nat.le_refl _⟩, ⟨by (with_reducible repeat (first | apply Kd.R_alloc | apply Kd.R_drewN | apply Kd.R_drew)); exact Kd.R_mono HO_13.out (fun _ hk => trivial)⟩, ⟨(BB HB.out)⟩⟩
                          · replace c63 := Bool.eq_false_iff.mpr c63
                            subst c63
                            have H1 : (laws_FnExactTakeLease.j2 kj33 t429 t428 true) = some r := by rw [if_neg (show ¬ (false = true) by decide)] at H; exact H
                            clear H
                            have H := H1
                            clear H1
                            have H' := Aside0.mk H
                            clear H
                            obtain ⟨Ao67, co67, eo67⟩ := Kd.R_slice HO437.out
                            subst eo67
                            obtain ⟨Ao68, co68, eo68⟩ := Kd.R_slice HO_10.out
                            subst eo68
                            go_wp2_with (first | ((with_reducible refine gate_callee (f := 11) rfl ?_); refine GL (some 99) rfl rfl Tryd.func11 #[.slice Ao67 t434.length co67, .slice Ao68 t409.length co68] rfl ?_; (with_reducible refine (laws_eqLeaseS.calls kj33 _ _ t434 _ _ t409 false _ ?side1 ?side2 ?side3 ?side4 A62.out).mono ?_); (case side1 => exact CC (Kd.R_reads' HO437.out).2.2); (case side2 => exact (Kd.R_reads' HO437.out).2.1); (case side3 => exact CC (Kd.R_reads' HO_10.out).2.2); (case side4 => exact (Kd.R_reads' HO_10.out).2.1); rintro e w69 ⟨rfl, hb⟩; refine ⟨_, rfl, ?_⟩; replace HO_10 := Aside0.mk (Kd.R_below (RR HO_10.out) hb); replace HO_13 := Aside0.mk (Kd.R_below (RR HO_13.out) hb); replace HO433 := Aside0.mk (Kd.R_below (RR HO433.out) hb); replace HO437 := Aside0.mk (Kd.R_below (RR HO437.out) hb); replace HB := Aside0.mk (below_step (BB HB.out) hb); (try clear hb)))
                            go_meet
                            case rel => exact ⟨_, (true), FR, H', ⟨by have := HJ12.out; have := HJ33.out; first | omega | exact Nat.le_refl _⟩, ⟨by (with_reducible repeat (first | apply Kd.R_alloc | apply Kd.R_drewN | apply Kd.R_drew)); exact Kd.R_mono HO_13.out (fun _ hk => trivial)⟩, ⟨(BB HB.out)⟩⟩
                        case rest =>
                          clear HC55
                          try clear c1
                          try clear c2
                          try clear p2
                          try clear c3
                          try clear c4
                          try clear c5
                          try clear c5b0
                          try clear c5b1
                          try clear c6
                          try clear c7
                          try clear c7b0
                          try clear c9
                          try clear c11
                          try clear c21
                          try clear c22
                          try clear c23
                          try clear c24
                          try clear c29
                          try clear c32
                          try clear c39
                          try clear c39b0
                          try clear c41
                          try clear c48
                          try clear c51
                          try clear c51b0
                          try clear c52
                          try clear c52b0
                          try clear c52b1
                          try clear c63
                          try clear p2
                          obtain ⟨kq, x105_54, rfl, HA, HJ54, HO_13, HB⟩ := hcut
                          have hl13_54 := (Kd.R_reads' HO_13.out).1
                          rw [hl13_54] at HO_13
                          (try simp only [hl13_54])
                          cases kq with
                          | zero => exact absurd HA.out (by simp [laws_FnExactTakeLease.j2])
                          | succ kj54 =>
                            have H := HA.out
                            clear HA
                            simp only [laws_FnExactTakeLease.j2] at H
                            by_cases c70 : x105_54 = true
                            · subst c70
                              have H1 : (some false) = some r := by rw [if_pos rfl] at H; exact H
                              clear H
                              have H := H1
                              clear H1
                              exact absurd ((Option.some.inj H).trans hr_.out) (by decide)
                            · replace c70 := Bool.eq_false_iff.mpr c70
                              subst c70
                              have H1 : ((laws_heldLeaseS.f kj54 t429 1).bind fun t439 => (if t439 < 0 then (some false) else (if t439 = t428 then (some true) else (some false)))) = some r := by rw [if_neg (show ¬ (false = true) by decide)] at H; exact H
                              clear H
                              have H := H1
                              clear H1
                              replace H := Option.bind_eq_some_iff.mp H
                              obtain ⟨t439, A710, H⟩ := H
                              replace H : (if t439 < 0 then (some false) else (if t439 = t428 then (some true) else (some false))) = some r := H
                              have A71 := Aside0.mk A710
                              clear A710
                              by_cases c72 : t439 < 0
                              · rw [if_pos c72] at H
                                have c72b0 : decide (t439 < 0) = true := decide_eq_true c72
                                clear c72
                                exact absurd ((Option.some.inj H).trans hr_.out) (by decide)
                              · rw [if_neg c72] at H
                                have c72b0 : decide (t439 < 0) = false := decide_eq_false c72
                                clear c72
                                by_cases c73 : t439 = t428
                                · rw [if_pos c73] at H
                                  have c73b0 : (t439 == t428) = true := beq_iff_eq.mpr c73
                                  have c73b1 : (t439 != t428) = false := bne_eq_false_iff_eq.mpr c73
                                  clear c73
                                  obtain rfl := Option.some.inj H
                                  go_wp2_with (first | ((with_reducible refine gate_callee (f := 24) rfl ?_); refine GL (some 108) rfl rfl Tryd.func24 #[.slice Ao56 t429.length co56, .int .i64 1] rfl ?_; (with_reducible refine (laws_heldLeaseS.calls kj54 _ _ t429 1 t439 _ ?side1 ?side2 A71.out).mono ?_); (case side1 => exact CC (Kd.R_reads' HO_13.out).2.2); (case side2 => exact (Kd.R_reads' HO_13.out).2.1); rintro e w74 ⟨rfl, hb⟩; refine ⟨_, rfl, ?_⟩; replace HO_13 := Aside0.mk (Kd.R_below (RR HO_13.out) hb); replace HB := Aside0.mk (below_step (BB HB.out) hb); (try clear hb)))
                                  go_ret
                                  exact ⟨ER, (BB HB.out)⟩
                                · rw [if_neg c73] at H
                                  have c73b0 : (t439 == t428) = false := beq_eq_false_iff_ne.mpr c73
                                  have c73b1 : (t439 != t428) = true := bne_iff_ne.mpr c73
                                  exact absurd ((Option.some.inj H).trans hr_.out) (by decide)
                      · rw [if_neg c52] at H
                        have c52b0 : (t430 == t428) = false := beq_eq_false_iff_ne.mpr c52
                        have c52b1 : (t430 != t428) = true := bne_iff_ne.mpr c52
                        exact absurd ((Option.some.inj H).trans hr_.out) (by decide)
            · replace c32 := Bool.eq_false_iff.mpr c32
              subst c32
              have H1 : (some false) = some r := by rw [if_neg (show ¬ (false = true) by decide)] at H; exact H
              clear H
              have H := H1
              clear H1
              exact absurd ((Option.some.inj H).trans hr_.out) (by decide)

end Go.Proofs.YtfgnaneajonapaaDoor.Pr

namespace Go.Proofs.YtfgnaneajonapaaDoor.Opn
open Go.RowKit Go.ChangeShapes Go.WideShapes Go.Deep Go.Proofs.YtfgnaneajonapaaDoorW.PrintWords
def Opens {α : Type} (P : Program) (d : Kd α) (wf : α → Prop) (t : TypeId) : Prop :=
  ∀ (H : Type) (enc : TypeId × Value → H) (w : World) (base : Nat) (spare : Nat → Bool) (held : Bool) (fuel : Nat) (cs : List Value) (x : DataW H × List MemPlace),
    DataW.trod enc P w base spare held fuel t cs = some x → ∃ v, d.K w v cs ∧ wf v

def OpensF {α : Type} (P : Program) (d : Kd α) (wf : α → Prop) (off : Nat) (fs : List Field) : Prop :=
  ∀ (H : Type) (enc : TypeId × Value → H) (w : World) (base : Nat) (spare : Nat → Bool) (held : Bool) (fuel : Nat) (cs : List Value),
    cs.length = off + d.sz → (∀ f ∈ fs, ∃ y, DataW.trod enc P w base spare held fuel f.type ((cs.drop f.offset).take (P.cellsOf f.type)) = some y) → ∃ v, d.K w v (cs.drop off) ∧ wf v

theorem opens_int {P : Program} {t : TypeId} (k : IntKind) (ht : P.underlying t = some (.int k)) : Opens P (Kd.int k) (fun n => (Lit.int k n).wf = true) t := by
  intro H enc w base spare held fuel cs x h
  obtain ⟨n, rfl, _, hw⟩ := DataW.trod_int ht h
  exact ⟨n, rfl, hw⟩
theorem opens_string {P : Program} {t : TypeId} (ht : P.underlying t = some .string) : Opens P Kd.string (fun s => s.size ≤ maxLen) t := by
  intro H enc w base spare held fuel cs x h
  obtain ⟨s, rfl, _, hs⟩ := DataW.trod_string ht h
  exact ⟨s, rfl, hs⟩

theorem list_of_lt {α : Type} {q : Nat → α → Prop} (len : Nat) (key : ∀ i, i < len → ∃ v, q i v) : ∃ xs : List α, xs.length = len ∧ ∀ i v, xs[i]? = some v → q i v := by
  induction len with
  | zero => exact ⟨[], rfl, fun i v h => by simp at h⟩
  | succ k ih =>
    obtain ⟨xs, hxl, hx⟩ := ih (fun i hik => key i (by omega))
    obtain ⟨v, h1⟩ := key k (by omega)
    refine ⟨xs ++ [v], by simp [hxl], fun i u hu => ?_⟩
    by_cases hik : i < xs.length
    · rw [List.getElem?_append_left hik] at hu
      exact hx i u hu
    · have hil := (List.getElem?_eq_some_iff.1 hu).1
      simp at hil
      have hi' : i = k := by omega
      subst hi'
      rw [List.getElem?_append_right (by omega)] at hu
      simp [hxl] at hu
      subst hu
      exact h1

theorem opens_slice {α : Type} {P : Program} {t e : TypeId} {d : Kd α} {wf : α → Prop} (ht : P.underlying t = some (.slice e)) (hc : P.cellsOf e = d.sz) (he : Opens P d wf e) :
    Opens P (Kd.slice e d) (fun xs => xs.length ≤ maxLen ∧ ∀ x ∈ xs, wf x) t := by
  intro H enc w base spare held fuel cs x h
  rcases Go.Deep.open_slice ht h with ⟨rfl, _⟩ | ⟨a, len, cap, m, n, D, Pl, rfl, _, hl, hm, hmm, _, hi⟩
  · refine ⟨[], ⟨none, 0, rfl, Nat.le_refl _, rfl, by simp, fun h => absurd h (by simp)⟩, by simp, fun x hx => by simp at hx⟩
  · have hlm : len ≤ m := by rw [hmm]; split <;> omega
    have key : ∀ i, i < len → ∃ v c, d.K w v c ∧ wf v ∧ w.cells? base (a.add (i * P.cellsOf e)) (P.cellsOf e) = some c := by
      intro i hil
      obtain ⟨c, h1, h2⟩ := hi i (by omega)
      obtain ⟨v, hk, hw⟩ := he _ _ _ _ _ _ _ _ _ h2
      exact ⟨v, c, hk, hw, h1⟩
    have this := list_of_lt (q := fun i v => ∃ c, d.K w v c ∧ wf v ∧ w.cells? base (a.add (i * P.cellsOf e)) (P.cellsOf e) = some c) len key
    obtain ⟨xs, hxl, hx⟩ := this
    refine ⟨xs, ⟨some a, cap, by rw [hxl], by omega, ?_⟩, by rw [hxl]; omega, ?_⟩
    · refine ⟨rfl, by unfold maxLen at hm; omega, fun _ => ⟨a, rfl, fun j p hj => ?_⟩⟩
      obtain ⟨c, h1, h2, h3⟩ := hx j p hj
      obtain ⟨_, hcl, hat⟩ := World.cells?_some h3
      refine ⟨c, by rw [hcl, hc], h1, fun i u hu => ?_⟩
      have hil : i < P.cellsOf e := by rw [← hcl]; exact (List.getElem?_eq_some_iff.1 hu).1
      rw [← Go.Deep.add_add, ← hc, hat i hil, hu]
    · intro y hy
      obtain ⟨i, hi⟩ := List.mem_iff_getElem?.1 hy
      obtain ⟨c, _, h2, _⟩ := hx i y hi
      exact h2

theorem opensF_one {α : Type} {P : Program} {d : Kd α} {wf : α → Prop} {f : Field} {off : Nat} (h : Opens P d wf f.type) (ho : f.offset = off) (hc : P.cellsOf f.type = d.sz) : OpensF P d wf off [f] := by
  intro H enc w base spare held fuel cs hl hf
  obtain ⟨y, hy⟩ := hf f (by simp)
  rw [ho, hc, List.take_of_length_le (by simp; omega)] at hy
  exact h _ _ _ _ _ _ _ _ _ hy
theorem opensF_cons {α β : Type} {P : Program} {a : Kd α} {b : Kd β} {wa : α → Prop} {wb : β → Prop} {f : Field} {fs : List Field} {off : Nat} (h : Opens P a wa f.type) (ho : f.offset = off) (hc : P.cellsOf f.type = a.sz)
    (ht : OpensF P b wb (off + a.sz) fs) : OpensF P (Kd.pair a b) (fun x => wa x.1 ∧ wb x.2) off (f :: fs) := by
  intro H enc w base spare held fuel cs hl hf
  have hsz : (Kd.pair a b).sz = a.sz + b.sz := rfl
  obtain ⟨y, hy⟩ := hf f (by simp)
  rw [ho, hc] at hy
  obtain ⟨v, hv, hw⟩ := h _ _ _ _ _ _ _ _ _ hy
  obtain ⟨u, hu, hw'⟩ := ht H enc w base spare held fuel cs (by rw [hl, hsz]; omega) (fun g hg => hf g (by simp [hg]))
  refine ⟨(v, u), ⟨_, _, ?_, hv, hu⟩, hw, hw'⟩
  rw [← List.drop_drop, List.take_append_drop]
theorem opens_struct {α : Type} {P : Program} {t : TypeId} {d : Kd α} {wf : α → Prop} {fs : Array Field} (ht : P.underlying t = some (.struct fs)) (hc : P.cellsOf t = d.sz) (h : OpensF P d wf 0 fs.toList) : Opens P d wf t := by
  intro H enc w base spare held fuel cs x hx
  obtain ⟨xs, n, _, _, hlen, hxl, hf⟩ := DataW.trod_struct ht hx
  obtain ⟨v, hv, hw⟩ := h H enc w base spare held n cs (by rw [hlen, hc]; simp) (fun f hfm => by
    obtain ⟨i, hi⟩ := List.mem_iff_getElem?.1 hfm
    have hi' : fs[i]? = some f := by simpa using hi
    have hil : i < xs.length := by rw [hxl]; exact (Array.getElem?_eq_some_iff.1 hi').1
    exact ⟨xs[i], by rw [hf i f hi', List.getElem?_eq_getElem hil]⟩)
  exact ⟨v, by simpa using hv, hw⟩
theorem opens_iso {α β : Type} {P : Program} {t : TypeId} {d : Kd α} {wf : α → Prop} (h : Opens P d wf t) (f : β → α) (g : α → β) (e : ∀ x, f (g x) = x) : Opens P (Kd.iso d f) (fun y => wf (f y)) t := by
  intro H enc w base spare held fuel cs x hx
  obtain ⟨v, hv, hw⟩ := h _ _ _ _ _ _ _ _ _ hx
  refine ⟨g v, ?_, ?_⟩
  · show d.K w (f (g v)) cs
    rw [e]
    exact hv
  · show wf (f (g v))
    rw [e]
    exact hw

theorem arg_slice {α : Type} {P : Program} {t e : TypeId} {d : Kd α} {wf : List α → Prop} (h : Opens P (Kd.slice e d) wf t) {H : Type} {enc : TypeId × Value → H} {w : World} {base : Nat} {spare : Nat → Bool} {held : Bool}
    {A : Option Addr} {n c : Nat} {x : DataW H} {p : List MemPlace} (hx : DataW.Trod enc P w base spare held t (.slice A n c) x p) : ∃ l : List α, n = l.length ∧ l.length ≤ c ∧ Kd.C d w A l.length l ∧ wf l := by
  obtain ⟨fuel, hf⟩ := hx
  obtain ⟨l, ⟨A', c', he, hl, hC⟩, hw⟩ := h _ _ _ _ _ _ _ _ _ hf
  simp [Value.cells] at he
  obtain ⟨rfl, rfl, rfl⟩ := he
  exact ⟨l, rfl, hl, hC, hw⟩
end Go.Proofs.YtfgnaneajonapaaDoor.Opn

namespace Go.Proofs.YtfgnaneajonapaaDoor.SFnExactTakeLease
open Go.RowKit Go.Proofs.YtfgnaneajonapaaDoorW.PrintWords Go.Proofs.YtfgnaneajonapaaDoorW.PrintLast Go.Proofs.YtfgnaneajonapaaDoorW.PrintMore Go.Proofs.YtfgnaneajonapaaDoor.Pr Go.Proofs.YtfgnaneajonapaaDoor.Opn
set_option linter.unusedVariables false
def wf52 (x : S52) : Prop := (x.f0.size ≤ maxLen) ∧ ((Lit.int .i64 x.f1).wf = true) ∧ ((Lit.int .i64 x.f2).wf = true)
set_option maxRecDepth 100000 in
theorem op52 : Opens Tryd.prog k52 wf52 52 := opens_iso (opens_struct Tryd.underlying52 (by kernel_rfl) (opensF_cons (opens_string Tryd.underlying9) rfl (by kernel_rfl) (opensF_cons (opens_int .i64 Tryd.underlying3) rfl (by kernel_rfl) (opensF_one (opens_int .i64 Tryd.underlying3) rfl (by kernel_rfl))))) _ (fun p => (⟨p.1, p.2.1, p.2.2⟩ : S52)) (fun _ => rfl)
theorem ok_wfLease {x : S52} (h : wf52 x) : Lw.okLease x := h.1
def Pure : Prop := ∀ (l0 : List (S52)) (a1 : ByteArray) (a2 : Int) (a3 : Int), (l0.length ≤ maxLen ∧ ∀ y ∈ l0, wf52 y) → a1.size ≤ maxLen → (Lit.int .i64 a2).wf = true → (Lit.int .i64 a3).wf = true → ∃ k, laws_FnExactTakeLease.f k l0 a1 a2 a3 = some true
end Go.Proofs.YtfgnaneajonapaaDoor.SFnExactTakeLease

namespace Go.Proofs.YtfgnaneajonapaaDoor.Lw
open Go.RowKit Go.Proofs.YtfgnaneajonapaaDoorW.PrintWords Go.Proofs.YtfgnaneajonapaaDoor.Pr Go.Proofs.YtfgnaneajonapaaDoor.Evs
set_option linter.unusedVariables false
theorem strOfNums_one (a : Int) : (strOfNums [a]).size = 1 := rfl
theorem markText_loop (n : Nat) : ∀ (x : Int) (acc : ByteArray), x.toNat ≤ n → acc.size + x.toNat < 9223372036854775806 → ∃ t, Ev (fun k => laws_markText.l0 k x acc) t := by
  induction n with
  | zero =>
    intro x acc hx hs
    exact ⟨_, ev_step (fun k => laws_markText.l0.eq_2 _ _ k) (ev_neg (by omega) (ev_pos (by omega) (ev_some _)))⟩
  | succ n ih =>
    intro x acc hx hs
    by_cases c : x > 0
    · have e : Int.tdiv x 10 = x / 10 := Int.tdiv_eq_ediv_of_nonneg (by omega)
      have ew : wrap64 (Int.tdiv x 10) = x / 10 := by rw [e]; exact wrap_in (by omega) (by omega)
      have es : (strOfNums [(wrap64 (48 + (Int.tmod x 10))) % 256] ++ acc).size = 1 + acc.size := by rw [ByteArray.size_append, strOfNums_one]
      obtain ⟨t, ht⟩ := ih (x / 10) (strOfNums [(wrap64 (48 + (Int.tmod x 10))) % 256] ++ acc) (by omega) (by rw [es]; omega)
      refine ⟨t, ev_step (fun k => laws_markText.l0.eq_2 _ _ k) (ev_pos c (ev_call rfl (ev_pos ?_ (by rw [ew]; exact ht))))⟩
      rw [strOfNums_one]
      omega
    · exact ⟨_, ev_step (fun k => laws_markText.l0.eq_2 _ _ k) (ev_neg c (ev_pos (by omega) (ev_some _)))⟩
theorem markText_some (x : Int) (h0 : x < 9223372036854775800) : ∃ t, Ev (fun k => laws_markText.f k x) t := by
  unfold laws_markText.f
  by_cases c : x ≤ 0
  · exact ⟨_, ev_pos c (ev_some _)⟩
  · obtain ⟨t, ht⟩ := markText_loop x.toNat x ⟨#[]⟩ (Nat.le_refl _) (by simp [ByteArray.size]; omega)
    exact ⟨t, ev_neg c ht⟩
open Classical in
noncomputable def mt (x : Int) : ByteArray := if h : ∃ t, Ev (fun k => laws_markText.f k x) t then Classical.choose h else ⟨#[]⟩
theorem mt_ev (x : Int) (h0 : x < 9223372036854775800) : Ev (fun k => laws_markText.f k x) (mt x) := by
  unfold mt
  rw [dif_pos (markText_some x h0)]
  exact Classical.choose_spec (markText_some x h0)
end Go.Proofs.YtfgnaneajonapaaDoor.Lw

namespace Go.Proofs.YtfgnaneajonapaaDoor.Lw
open Go.RowKit Go.Proofs.YtfgnaneajonapaaDoorW.PrintWords Go.Proofs.YtfgnaneajonapaaDoor.Pr Go.Proofs.YtfgnaneajonapaaDoor.Evs
set_option linter.unusedVariables false
noncomputable def mkLease (x : ImLease) (n : Int) : ImLease := ⟨mt (n), n + 1, n + 1 + 1⟩
noncomputable def mkLeaseS : List ImLease → Int → List ImLease
  | [], _ => []
  | x :: s, n => mkLease x n :: mkLeaseS s (n + 3)
theorem markLeaseS_loop (s : List ImLease) : ∀ (q : List ImLease) (n : Int), 0 ≤ n → n + 3 * s.length < 9223372036854775000 → q.length + s.length < 9223372036854775807 →
    Ev (fun k => laws_markLeaseS.l0 k (q ++ s) n (q.length : Int)) (n + 3 * s.length, q ++ mkLeaseS s n) := by
  induction s with
  | nil => intro q n h0 h1 hl; exact ev_step (fun k => laws_markLeaseS.l0.eq_2 _ _ _ k) (ev_neg (by simp) (ev_eq (ev_some _) (by simp [mkLeaseS])))
  | cons x s ih =>
    intro q n h0 h1 hl
    simp at h1 hl
    have e1 : wrap64 (n + 1) = n + 1 := wrap_in (by omega) (by omega)
    have e2 : wrap64 (n + 1 + 1) = n + 1 + 1 := wrap_in (by omega) (by omega)
    have e3 : wrap64 (n + 1 + 1 + 1) = n + 1 + 1 + 1 := wrap_in (by omega) (by omega)
    have e0 : wrap64 ((q.length : Int) + 1) = (q.length : Int) + 1 := wrap_in (by omega) (by omega)
    have hr : (n + 3 * ((x :: s).length : Int), q ++ mkLeaseS (x :: s) n) = (n + 1 + 1 + 1 + 3 * (s.length : Int), (q ++ [mkLease x n]) ++ mkLeaseS s (n + 1 + 1 + 1)) := by
      have : n + 1 + 1 + 1 = n + 3 := by omega
      simp [mkLeaseS, this]
      omega
    rw [hr]
    have h := ih (q ++ [mkLease x n]) (n + 1 + 1 + 1) (by omega) (by omega) (by simp; omega)
    refine ev_step (fun k => laws_markLeaseS.l0.eq_2 _ _ _ k) ?_
    simp only [e0, e1, e2, e3]
    repeat (first | with_reducible refine ev_pos (by first | omega | (simp; omega)) ?_ | with_reducible refine ev_bind (mt_ev _ (by omega)) ?_ | with_reducible refine ev_call rfl ?_)
    simp only [rd54, set_mid _ _ _ _ _ rfl]
    simpa [mkLease] using h
theorem markLeaseS_ev (l : List ImLease) (n : Int) (h0 : 0 ≤ n) (h1 : n + 3 * l.length < 9223372036854775000) : Ev (fun k => laws_markLeaseS.f k l n) (n + 3 * l.length, mkLeaseS l n) := by
  unfold laws_markLeaseS.f
  simpa using markLeaseS_loop l [] n h0 h1 (by simp; omega)
theorem heldLeaseS_loop (s : List ImLease) : ∀ (q : List ImLease) (n : Int), 0 ≤ n → n + 3 * s.length < 9223372036854775000 → q.length + s.length < 9223372036854775807 →
    Ev (fun k => laws_heldLeaseS.l0 k (q ++ mkLeaseS s n) n (q.length : Int)) (n + 3 * s.length) := by
  induction s with
  | nil => intro q n h0 h1 hl; exact ev_step (fun k => laws_heldLeaseS.l0.eq_2 _ _ _ k) (ev_neg (by simp [mkLeaseS]) (ev_eq (ev_some _) (by simp)))
  | cons x s ih =>
    intro q n h0 h1 hl
    simp at h1 hl
    have e1 : wrap64 (n + 1) = n + 1 := wrap_in (by omega) (by omega)
    have e2 : wrap64 (n + 1 + 1) = n + 1 + 1 := wrap_in (by omega) (by omega)
    have e3 : wrap64 (n + 1 + 1 + 1) = n + 1 + 1 + 1 := wrap_in (by omega) (by omega)
    have e0 : wrap64 ((q.length : Int) + 1) = (q.length : Int) + 1 := wrap_in (by omega) (by omega)
    simp only [mkLeaseS]
    refine ev_step (fun k => laws_heldLeaseS.l0.eq_2 _ _ _ k) ?_
    simp only [rd54, e0, e1, e2, e3]
    repeat (first | with_reducible refine ev_pos (by first | omega | (simp [mkLease]; done) | (simp; omega)) ?_ | with_reducible refine ev_bind (mt_ev _ (by omega)) ?_)
    have h := ih (q ++ [mkLease x n]) (n + 1 + 1 + 1) (by omega) (by omega) (by simp; omega)
    have hr : n + 3 * ((x :: s).length : Int) = n + 1 + 1 + 1 + 3 * (s.length : Int) := by simp; omega
    have e : n + 3 = n + 1 + 1 + 1 := by omega
    rw [hr, e]
    simpa using h
theorem heldLeaseS_ev (l : List ImLease) (n : Int) (h0 : 0 ≤ n) (h1 : n + 3 * l.length < 9223372036854775000) : Ev (fun k => laws_heldLeaseS.f k (mkLeaseS l n) n) (n + 3 * l.length) := by
  unfold laws_heldLeaseS.f
  simpa using heldLeaseS_loop l [] n h0 h1 (by simp; omega)
end Go.Proofs.YtfgnaneajonapaaDoor.Lw

namespace Go.Proofs.YtfgnaneajonapaaDoor.Pu
open Go.RowKit Go.Proofs.YtfgnaneajonapaaDoorW.PrintWords Go.Proofs.YtfgnaneajonapaaDoor.Pr Go.Proofs.YtfgnaneajonapaaDoor.Evs Go.Proofs.YtfgnaneajonapaaDoor.Lw
set_option linter.unusedVariables false
set_option linter.unusedSimpArgs false
def behindL (p : ByteArray) (x : ImLease) : Bool := Op.bytesLess p.toList x.f0.toList
theorem set_mid (A B : List ImLease) (y v : ImLease) : (A ++ y :: B).set A.length v = A ++ v :: B := by
  induction A with
  | nil => rfl
  | cons a A ih => simp
theorem bytes_inj {a b : ByteArray} (h : a.toList = b.toList) : a = b := by
  rw [ByteArray.toList_eq, ByteArray.toList_eq] at h
  exact ByteArray.ext (Array.toList_inj.1 h)
section
variable (z : List ImLease) (hz : z.length ≤ 1048576) (p : ByteArray) (who now : Int)
include hz
theorem spec_skip (suf : List ImLease) (r : List ImLease × Bool) (s : List ImLease) : ∀ pre, pre ++ (s ++ suf) = z → (∀ x ∈ s, ¬ x.f0.toList = p.toList) → Ev (fun k => spec_TakeLease.l0 k z p who now z ((pre ++ s).length : Int)) r → Ev (fun k => spec_TakeLease.l0 k z p who now z (pre.length : Int)) r := by
  induction s with
  | nil => intro pre _ _ h; simpa using h
  | cons x s ih =>
    intro pre he hn h
    have hl : z.length = pre.length + (s.length + 1 + suf.length) := by rw [← he]; simp; omega
    have er : rd_T54 z (pre.length : Int) = x := by rw [← he]; exact rd54 pre (s ++ suf) x
    have e : wrap64 ((pre.length : Int) + 1) = ((pre ++ [x]).length : Int) := by rw [List.length_append, List.length_singleton, wrap_in (by omega) (by omega)]; rfl
    refine ev_step (fun k => spec_TakeLease.l0.eq_2 _ _ _ _ _ _ k) (ev_pos (by omega) (ev_pos (by omega) ?_))
    simp only [er, e]
    refine ev_neg (hn x (List.mem_cons_self ..)) (ih (pre ++ [x]) (by rw [← he]; simp) (fun y hy => hn y (List.mem_cons_of_mem _ hy)) ?_)
    simpa using h
omit hz in
theorem spec_found (A B : List ImLease) (y : ImLease) (he : A ++ y :: B = z) (hy : y.f0.toList = p.toList) : Ev (fun k => spec_TakeLease.l0 k z p who now z (A.length : Int)) (if ¬ y.f1 = who ∧ wrap64 (now - y.f2) < 5 then (z, false) else (A ++ (⟨p, who, now⟩ : ImLease) :: B, true)) := by
  have hl : z.length = A.length + (B.length + 1) := by rw [← he]; simp
  have er : ∀ v, rd_T54 (A ++ v :: B) (A.length : Int) = v := fun v => rd54 A B v
  have er0 : rd_T54 z (A.length : Int) = y := by rw [← he]; exact er y
  have es : z.set A.length (⟨p, who, y.f2⟩ : ImLease) = A ++ (⟨p, who, y.f2⟩ : ImLease) :: B := by rw [← he]; exact set_mid A B y _
  have hp := bytes_inj hy
  refine ev_step (fun k => spec_TakeLease.l0.eq_2 _ _ _ _ _ _ k) (ev_pos (by omega) (ev_pos (by omega) ?_))
  simp only [er0]
  refine ev_pos hy ?_
  by_cases c1 : y.f1 = who
  · rw [if_neg (c := ¬ y.f1 = who ∧ wrap64 (now - y.f2) < 5) (fun h => h.1 c1)]
    refine ev_pos c1 (ev_call rfl ?_)
    simp only [Int.toNat_natCast, hp, es, er, set_mid]
    exact ev_some _
  · refine ev_neg c1 ?_
    by_cases c2 : wrap64 (now - y.f2) < 5
    · rw [if_pos (c := ¬ y.f1 = who ∧ wrap64 (now - y.f2) < 5) ⟨c1, c2⟩]
      exact ev_pos c2 (ev_some _)
    · rw [if_neg (c := ¬ y.f1 = who ∧ wrap64 (now - y.f2) < 5) (fun h => c2 h.2)]
      refine ev_neg c2 (ev_call rfl ?_)
      simp only [Int.toNat_natCast, hp, es, er, set_mid]
      exact ev_some _
theorem spec_l2 (m : Nat) (hm : m < 1048578) (s : List ImLease) : ∀ pre acc, pre ++ s = z → acc.length ≤ pre.length + m → Ev (fun k => spec_TakeLease.l2 k z p acc (pre.length : Int)) (acc ++ s.filter (behindL p), true) := by
  induction s with
  | nil =>
    intro pre acc he ha
    rw [List.append_nil] at he
    subst he
    exact ev_step (fun k => spec_TakeLease.l2.eq_2 _ _ _ _ k) (ev_neg (by omega) (ev_eq (ev_some _) (by simp)))
  | cons x s ih =>
    intro pre acc he ha
    have hl : z.length = pre.length + (s.length + 1) := by rw [← he]; simp
    have er : rd_T54 z (pre.length : Int) = x := by rw [← he]; exact rd54 pre s x
    have e : wrap64 ((pre.length : Int) + 1) = ((pre ++ [x]).length : Int) := by rw [List.length_append, List.length_singleton, wrap_in (by omega) (by omega)]; rfl
    refine ev_step (fun k => spec_TakeLease.l2.eq_2 _ _ _ _ k) (ev_pos (by omega) (ev_pos (by omega) ?_))
    simp only [er, e]
    by_cases c : Op.bytesLess p.toList x.f0.toList = true
    · rw [List.filter_cons_of_pos (p := behindL p) c]
      have h := ih (pre ++ [x]) (acc ++ [x]) (by rw [← he]; simp) (by simp; omega)
      rw [List.append_assoc] at h
      exact ev_pos c (ev_pos (by omega) h)
    · rw [List.filter_cons_of_neg (p := behindL p) c]
      exact ev_neg c (ih (pre ++ [x]) acc (by rw [← he]; simp) (by simp; omega))
theorem spec_l1 (r : List ImLease × Bool) (s : List ImLease) : ∀ pre acc, pre ++ s = z → acc.length ≤ pre.length → Ev (fun k => spec_TakeLease.l2 k z p (acc ++ s.filter (aheadL p) ++ [(⟨p, who, now⟩ : ImLease)]) 0) r → Ev (fun k => spec_TakeLease.l1 k z p who now acc (pre.length : Int)) r := by
  induction s with
  | nil =>
    intro pre acc he ha h
    rw [List.append_nil] at he
    subst he
    rw [List.filter_nil, List.append_nil] at h
    exact ev_step (fun k => spec_TakeLease.l1.eq_2 _ _ _ _ _ _ k) (ev_neg (by omega) (ev_pos (by omega) h))
  | cons x s ih =>
    intro pre acc he ha h
    have hl : z.length = pre.length + (s.length + 1) := by rw [← he]; simp
    have er : rd_T54 z (pre.length : Int) = x := by rw [← he]; exact rd54 pre s x
    have e : wrap64 ((pre.length : Int) + 1) = ((pre ++ [x]).length : Int) := by rw [List.length_append, List.length_singleton, wrap_in (by omega) (by omega)]; rfl
    refine ev_step (fun k => spec_TakeLease.l1.eq_2 _ _ _ _ _ _ k) (ev_pos (by omega) (ev_pos (by omega) ?_))
    simp only [er, e]
    by_cases c : Op.bytesLess x.f0.toList p.toList = true
    · rw [List.filter_cons_of_pos (p := aheadL p) c] at h
      exact ev_pos c (ev_pos (by omega) (ih (pre ++ [x]) (acc ++ [x]) (by rw [← he]; simp) (by simp; omega) (by simpa using h)))
    · rw [List.filter_cons_of_neg (p := aheadL p) c] at h
      exact ev_neg c (ih (pre ++ [x]) acc (by rw [← he]; simp) (by simp; omega) h)
end
theorem takeL_len (z : List ImLease) (p : ByteArray) (who now : Int) : (takeL z54 z p who now).1.length ≤ z.length + 1 := by
  have h := tk_le p z
  have h2 : (z.take (tk p z) ++ (⟨p, who, now⟩ : ImLease) :: z.drop (tk p z)).length = z.length + 1 := by
    rw [List.length_append, List.length_take, List.length_cons, List.length_drop]
    omega
  have h3 : (z.set (tk p z) (⟨p, who, now⟩ : ImLease)).length = z.length := List.length_set ..
  unfold takeL
  repeat' split
  all_goals simp only [h2, h3]
  all_goals omega
theorem not_ok_of {l : List ImLease} {x : ImLease} (hm : x ∈ l) (h : leaseOk x = false) : ¬ leasesOk l = true := by
  intro hl
  have := ((leasesOk_iff l).1 hl).2.1 x hm
  rw [h] at this
  cases this
theorem spec_TakeLease_ev (z : List ImLease) (p : ByteArray) (who now : Int) (hz : z.length ≤ 1048576) (hb : ∀ x ∈ z, bdLease x) (hp : p.size ≤ 1048576) : Ev (fun k => spec_TakeLease.f k z p who now) (takeL z54 z p who now) := by
  have hcp : spec_l16Copy.f z = some z := by unfold spec_l16Copy.f; rw [Option.bind_some, if_pos (by simp; omega), List.nil_append]
  unfold spec_TakeLease.f
  refine ev_call hcp (ev_bind (spec_LeasesOk_ev z (by omega) hb) ?_)
  cases hL : leasesOk z with
  | false =>
    rw [takeL, if_neg (by rw [hL]; decide)]
    exact ev_neg (by decide) (ev_step (fun k => spec_TakeLease.j0.eq_2 _ _ _ _ _ _ k) (ev_pos rfl (ev_some _)))
  | true =>
  refine ev_pos rfl (ev_bind (spec_nm p hp) ?_)
  obtain ⟨hz8, hok, hpw⟩ := (leasesOk_iff z).1 hL
  -- where the path lies
  obtain ⟨A, B, hAB, htk, hA, hB⟩ : ∃ A B, z = A ++ B ∧ tk p z = A.length ∧ (∀ x ∈ A, aheadL p x = true) ∧ (∀ x ∈ B, aheadL p x = false) := by
    refine ⟨z.takeWhile (aheadL p), z.dropWhile (aheadL p), List.takeWhile_append_dropWhile.symm, rfl, fun x hx => ?_, ?_⟩
    · exact List.all_eq_true.1 List.all_takeWhile x hx
    · have hs : (z.dropWhile (aheadL p)).Pairwise ltL := hpw.sublist (List.dropWhile_sublist _)
      intro x hx
      cases hd : z.dropWhile (aheadL p) with
      | nil => rw [hd] at hx; cases hx
      | cons y t =>
        rw [hd] at hx hs
        have hy : aheadL p y = false := by
          have := List.head_dropWhile_not (aheadL p) (l := z) (by rw [hd]; simp)
          simp only [hd, List.head_cons] at this
          exact this
        rcases List.mem_cons.1 hx with rfl | hx
        · exact hy
        · have hyx := (List.pairwise_cons.1 hs).1 x hx
          cases hxp : aheadL p x with
          | false => rfl
          | true =>
            have : aheadL p y = true := bl_trans _ _ _ hyx hxp
            rw [hy] at this
            cases this
  have hneA : ∀ x ∈ A, ¬ x.f0.toList = p.toList := by
    intro x hx h
    have := hA x hx
    unfold aheadL at this
    rw [h, bl_irr] at this
    cases this
  have etake : z.take (tk p z) = A := by rw [htk, hAB]; exact List.take_left
  have edrop : z.drop (tk p z) = B := by rw [htk, hAB]; exact List.drop_left
  -- a wrong word of the ask
  have hbad : leaseOk ⟨p, who, now⟩ = false → takeL z54 z p who now = (z, false) := by
    intro h
    rw [takeL, if_pos hL]
    split
    · split
      · rfl
      · rename_i hk _
        rw [if_neg (not_ok_of (x := ⟨p, who, now⟩) (List.mem_iff_getElem.2 ⟨tk p z, by rw [List.length_set]; exact hk.1, by rw [List.getElem_set_self]⟩) h)]
    · rw [if_neg (not_ok_of (x := ⟨p, who, now⟩) (List.mem_append_right _ (List.mem_cons_self ..)) h)]
  have hlo : leaseOk ⟨p, who, now⟩ = (isNamed p.data.toList && (decide (1 ≤ who ∧ who ≤ 9) && decide (0 ≤ now ∧ now ≤ 1000000000))) := rfl
  cases hn : isNamed p.data.toList with
  | false =>
    rw [hbad (by rw [hlo, hn]; rfl)]
    exact ev_neg (by decide) (ev_step (fun k => spec_TakeLease.j0.eq_2 _ _ _ _ _ _ k) (ev_pos rfl (ev_some _)))
  | true =>
  refine ev_pos rfl (ev_call (spec_in _ _ _) ?_)
  cases hw : decide (1 ≤ who ∧ who ≤ 9) with
  | false =>
    rw [hbad (by rw [hlo, hw, hn]; rfl)]
    exact ev_neg (by decide) (ev_step (fun k => spec_TakeLease.j0.eq_2 _ _ _ _ _ _ k) (ev_pos rfl (ev_some _)))
  | true =>
  refine ev_pos rfl (ev_call (spec_in _ _ _) ?_)
  cases ht : decide (0 ≤ now ∧ now ≤ 1000000000) with
  | false =>
    rw [hbad (by rw [hlo, ht, hw, hn]; rfl)]
    exact ev_step (fun k => spec_TakeLease.j0.eq_2 _ _ _ _ _ _ k) (ev_pos rfl (ev_some _))
  | true =>
  refine ev_step (fun k => spec_TakeLease.j0.eq_2 _ _ _ _ _ _ k) (ev_neg (by decide) ?_)
  have hnew : leaseOk ⟨p, who, now⟩ = true := by rw [hlo, ht, hw, hn]; rfl
  have htn := of_decide_eq_true ht
  have hpA : A.Pairwise ltL ∧ B.Pairwise ltL ∧ ∀ a ∈ A, ∀ b ∈ B, ltL a b := by
    rw [hAB] at hpw
    exact List.pairwise_append.1 hpw
  rw [takeL, if_pos hL, etake, edrop]
  have hskip := spec_skip z hz p who now B
  by_cases hc : ∃ y B', B = y :: B' ∧ y.f0.toList = p.toList
  · obtain ⟨y, B', rfl, hy⟩ := hc
    have hym : y ∈ z := by rw [hAB]; exact List.mem_append_right _ (List.mem_cons_self ..)
    have hyo := hok y hym
    unfold leaseOk at hyo
    rw [Bool.and_eq_true, Bool.and_eq_true, decide_eq_true_iff, decide_eq_true_iff] at hyo
    have hyp := bytes_inj hy
    have hg : z.getD (tk p z) z54 = y := by rw [htk, hAB, List.getD_eq_getElem?_getD, List.getElem?_append_right (Nat.le_refl _), Nat.sub_self]; rfl
    have hlt : tk p z < z.length := by rw [htk, hAB]; simp
    have hset : z.set (tk p z) ⟨p, who, now⟩ = A ++ (⟨p, who, now⟩ : ImLease) :: B' := by rw [htk, hAB]; exact set_mid A B' y _
    rw [if_pos ⟨hlt, by rw [hg]; exact hy⟩, hg, hset]
    have hok2 : leasesOk (A ++ (⟨p, who, now⟩ : ImLease) :: B') = true := by
      refine (leasesOk_iff _).2 ⟨?_, ?_, ?_⟩
      · rw [hAB] at hz8
        simpa using hz8
      · intro x hx
        rcases List.mem_append.1 hx with hx | hx
        · exact hok x (by rw [hAB]; exact List.mem_append_left _ hx)
        · rcases List.mem_cons.1 hx with rfl | hx
          · exact hnew
          · exact hok x (by rw [hAB]; exact List.mem_append_right _ (List.mem_cons_of_mem _ hx))
      · have hyB := List.pairwise_cons.1 hpA.2.1
        refine List.pairwise_append.2 ⟨hpA.1, List.pairwise_cons.2 ⟨fun b hb => ?_, hyB.2⟩, fun a ha b hb => ?_⟩
        · have := hyB.1 b hb
          unfold ltL at this ⊢
          rw [hyp] at this
          exact this
        · rcases List.mem_cons.1 hb with rfl | hb
          · have := hpA.2.2 a ha y (List.mem_cons_self ..)
            unfold ltL at this ⊢
            rw [hyp] at this
            exact this
          · exact hpA.2.2 a ha b (List.mem_cons_of_mem _ hb)
    rw [if_pos hok2]
    have hfd := spec_found z p who now A B' y hAB.symm hy
    have hwr : wrap64 (now - y.f2) = now - y.f2 := wrap_in (by omega) (by omega)
    rw [hwr] at hfd
    have hif : (if ¬ y.f1 = who ∧ now - y.f2 < 5 then ((z, false) : List ImLease × Bool) else (A ++ (⟨p, who, now⟩ : ImLease) :: B', true)) = (if ¬ y.f1 = who ∧ now < y.f2 + 5 then (z, false) else (A ++ (⟨p, who, now⟩ : ImLease) :: B', true)) := by
      by_cases c : now - y.f2 < 5
      · have : now < y.f2 + 5 := by omega
        simp only [c, this]
      · have : ¬ now < y.f2 + 5 := by omega
        simp only [c, this]
    rw [hif] at hfd
    exact spec_skip z hz p who now (y :: B') _ A [] (by rw [hAB]; rfl) hneA (by simpa using hfd)
  · have hneB : ∀ x ∈ B, ¬ x.f0.toList = p.toList := by
      intro x hx h
      cases B with
      | nil => cases hx
      | cons y B' =>
        rcases List.mem_cons.1 hx with rfl | hx
        · exact hc ⟨_, _, rfl, h⟩
        · have h1 := (List.pairwise_cons.1 hpA.2.1).1 x hx
          unfold ltL at h1
          rw [h] at h1
          have h2 := hB y (List.mem_cons_self ..)
          unfold aheadL at h2
          rw [h1] at h2
          cases h2
    have hnf : ¬ (tk p z < z.length ∧ (z.getD (tk p z) z54).f0.toList = p.toList) := by
      rintro ⟨h1, h2⟩
      cases B with
      | nil => rw [htk, hAB] at h1; simp at h1
      | cons y B' =>
        have hg : z.getD (tk p z) z54 = y := by rw [htk, hAB, List.getD_eq_getElem?_getD, List.getElem?_append_right (Nat.le_refl _), Nat.sub_self]; rfl
        rw [hg] at h2
        exact hneB y (List.mem_cons_self ..) h2
    rw [if_neg hnf]
    have hall : ∀ x ∈ z, ¬ x.f0.toList = p.toList := by
      rw [hAB]
      intro x hx
      rcases List.mem_append.1 hx with hx | hx
      · exact hneA x hx
      · exact hneB x hx
    refine spec_skip z hz p who now [] _ z [] (by simp) hall (ev_step (fun k => spec_TakeLease.l0.eq_2 _ _ _ _ _ _ k) (ev_neg (by simp) ?_))
    have hlen : (A ++ (⟨p, who, now⟩ : ImLease) :: B).length = z.length + 1 := by rw [hAB]; simp; omega
    by_cases c8 : (z.length : Int) = 8
    · refine ev_pos c8 ?_
      have : ¬ leasesOk (A ++ (⟨p, who, now⟩ : ImLease) :: B) = true := by
        intro h
        have := ((leasesOk_iff _).1 h).1
        omega
      rw [if_neg this]
      exact ev_some _
    · refine ev_neg c8 ?_
      have hbB : ∀ x ∈ B, behindL p x = true := fun x hx => bl_tri _ _ (hB x hx) (hneB x hx)
      have hok2 : leasesOk (A ++ (⟨p, who, now⟩ : ImLease) :: B) = true := by
        refine (leasesOk_iff _).2 ⟨by omega, ?_, ?_⟩
        · intro x hx
          rcases List.mem_append.1 hx with hx | hx
          · exact hok x (by rw [hAB]; exact List.mem_append_left _ hx)
          · rcases List.mem_cons.1 hx with rfl | hx
            · exact hnew
            · exact hok x (by rw [hAB]; exact List.mem_append_right _ hx)
        · refine List.pairwise_append.2 ⟨hpA.1, List.pairwise_cons.2 ⟨fun b hb => hbB b hb, hpA.2.1⟩, fun a ha b hb => ?_⟩
          rcases List.mem_cons.1 hb with rfl | hb
          · exact hA a ha
          · exact hpA.2.2 a ha b hb
      rw [if_pos hok2]
      have f1 : z.filter (aheadL p) = A := by
        rw [hAB, List.filter_append, List.filter_eq_self.2 hA, List.filter_eq_nil_iff.2 (fun x hx => by rw [hB x hx]; decide), List.append_nil]
      have f2 : z.filter (behindL p) = B := by
        rw [hAB, List.filter_append, List.filter_eq_self.2 hbB, List.filter_eq_nil_iff.2 (fun x hx h => by
          have := bl_trans _ _ _ (hA x hx) h
          rw [bl_irr] at this
          cases this), List.nil_append]
      refine spec_l1 z hz p who now _ z [] [] rfl (Nat.le_refl _) ?_
      have h2 := spec_l2 z hz p (z.length + 1) (by omega) z [] ([] ++ z.filter (aheadL p) ++ [(⟨p, who, now⟩ : ImLease)]) rfl (by rw [f1, List.nil_append]; have : A.length ≤ z.length := (by rw [hAB]; simp); simp; omega)
      refine ev_eq h2 ?_
      rw [f1, f2]
      simp
end Go.Proofs.YtfgnaneajonapaaDoor.Pu

namespace Go.Proofs.YtfgnaneajonapaaDoor.Pure
open Go.RowKit Go.Proofs.YtfgnaneajonapaaDoorW.PrintWords Go.Proofs.YtfgnaneajonapaaDoor.Pr Go.Proofs.YtfgnaneajonapaaDoor.Evs Go.Proofs.YtfgnaneajonapaaDoor.Lw Go.Proofs.YtfgnaneajonapaaDoor.Pu
set_option linter.unusedVariables false
open Go.Proofs.YtfgnaneajonapaaDoor.SFnExactTakeLease
theorem law_TakeLease (l : List LLease) (a : ByteArray) (who now : Int) (hl : l.length ≤ maxLen) (ho : ∀ x ∈ l, okLease x) : Ev (fun k => laws_FnExactTakeLease.f k l a who now) true := by
  unfold laws_FnExactTakeLease.f
  by_cases c : (a.size : Int) > 1048576
  · exact ev_pos c (ev_some _)
  refine ev_neg c ?_
  obtain ⟨r, hE, hR⟩ := szLeaseS_ev l hl ho 1048576 (by omega) (by omega)
  refine ev_bind hE ?_
  by_cases c2 : r < 0
  · exact ev_pos c2 (ev_some _)
  refine ev_neg c2 ?_
  have hw : wtLeaseS l ≤ 1048576 := by omega
  have hT := toLeaseS_evw l hw
  have hb := bd_toLeaseS l hw
  generalize l.map toLease = z at *
  have h1 := spec_TakeLease_ev z a who now (by omega) hb.2 (by omega)
  have h2 : impl_TakeLease.f z a who now = some (takeL z54 z a who now) := by
    unfold impl_TakeLease.f
    rw [if_pos ⟨by omega, by omega, hb.2⟩]
  have hlen := takeL_len z a who now
  generalize takeL z54 z a who now = R at *
  obtain ⟨y, b⟩ := R
  have hlen : y.length ≤ z.length + 1 := hlen
  have q1 := eqLeaseS_ev y (by omega)
  have q2 := eqLeaseS_ev z (by omega)
  have m1 := markLeaseS_ev z 1 (by omega) (by omega)
  have m2 := markLeaseS_ev y 1 (by omega) (by omega)
  have m3 := heldLeaseS_ev y 1 (by omega) (by omega)
  have hbb : (b != b) = false := by simp
  refine ev_bind hT (ev_bind h1 (ev_bind hT (ev_call h2 (ev_bind q1 (ev_pos rfl ?_)))))
  refine ev_step (fun k => laws_FnExactTakeLease.j0.eq_2 _ _ _ _ _ _ _ _ _ _ k) (ev_neg (by simp) (ev_bind hT (ev_bind q2 (ev_pos rfl (ev_bind m1 (ev_neg (by simp; omega) (ev_bind q1 (ev_pos rfl ?_))))))))
  refine ev_step (fun k => laws_FnExactTakeLease.j1.eq_2 _ _ _ _ _ _ _ _ k) (ev_neg (by simp) (ev_bind m2 (ev_bind m3 (ev_neg (by omega) (ev_pos rfl (ev_bind hT (ev_call h2 (ev_bind q1 (ev_pos rfl ?_)))))))))
  exact ev_step (fun k => laws_FnExactTakeLease.j2.eq_2 _ _ _ k) (ev_neg (by simp) (ev_bind m3 (ev_neg (by omega) (ev_pos rfl (ev_some _)))))
theorem FnExactTakeLease : Go.Proofs.YtfgnaneajonapaaDoor.SFnExactTakeLease.Pure := by
  intro l a who now hl ha _ _
  exact ev_rounds (law_TakeLease l a who now hl.1 (fun x hx => ok_wfLease (hl.2 x hx)))
end Go.Proofs.YtfgnaneajonapaaDoor.Pure
