/- A part of the proof of the law FnExactReadGroup: its texts, one behind the other. -/
import Derived.Deep.LoopGhost
import Derived.Laws.BitsLemmas
import Derived.Laws.BytesArg
import Derived.Lib.ConvBytes
import Derived.Shelf.Abstract
import Derived.Shelf.RegionOpenPlain
import Derived.Test.YtahimindlnkmoaaBFnExactReadGroup1
import Derived.Test.YtahimindlnkmoaaBFnExactReadGroup2
namespace Go.Proofs.Ytahimindlnkmoaa.Pr
open Go.RowKit Go.Proofs.YtahimindlnkmoaaW.PrintWords Go.Proofs.YtahimindlnkmoaaW.PrintLast Go.Proofs.YtahimindlnkmoaaW.PrintMore
attribute [local go_sem] max2_int min2_int max_two min_two max_three min_three max_four min_four
set_option linter.unusedVariables false
set_option linter.unusedSimpArgs false
mutual
def spec_MatrixOk.l0 : Nat → List (List Int) → Int → Option (Bool)
 | 0, _, _ => none
 | k + 1, x0, x3 => if x3 < (x0.length : Int) then (if 0 ≤ x3 then (if 0 < (x0.length : Int) then (if ((rd_L9 x0 x3).length : Int) = ((rd_L9 x0 0).length : Int) then ((spec_l01In.f ((rd_L9 x0 x3).length : Int) 1 8).bind fun t177 => (spec_MatrixOk.j1 k x0 x3 (!t177))) else (spec_MatrixOk.j1 k x0 x3 true)) else (none)) else (none)) else ((spec_l01In.f (x0.length : Int) 1 8).bind fun t173 => (some t173))
def spec_MatrixOk.j1 : Nat → List (List Int) → Int → Bool → Option (Bool)
 | 0, _, _, _ => none
 | k + 1, x0, x3, x29 => if x29 = true then (some false) else (spec_MatrixOk.l1 k x0 x3 0)
def spec_MatrixOk.l1 : Nat → List (List Int) → Int → Int → Option (Bool)
 | 0, _, _, _ => none
 | k + 1, x0, x3, x4 => if 0 ≤ x3 then (if x3 < (x0.length : Int) then (if x4 < ((rd_L9 x0 x3).length : Int) then (if 0 ≤ x4 then ((spec_l01In.f (rd (rd_L9 x0 x3) x4) 0 255).bind fun t181 => (if t181 = true then (spec_MatrixOk.l1 k x0 x3 (wrap64 (x4 + 1))) else (some false))) else (none)) else (spec_MatrixOk.l0 k x0 (wrap64 (x3 + 1)))) else (none)) else (none)
end
def spec_MatrixOk.f (k : Nat) (l0 : List (List Int)) : Option (Bool) := spec_MatrixOk.l0 k l0 0
theorem spec_MatrixOk.mono_l : ∀ k, (∀ y0 y1, LeO (spec_MatrixOk.l0 k y0 y1) (spec_MatrixOk.l0 (k + 1) y0 y1)) ∧ (∀ y0 y1 y2, LeO (spec_MatrixOk.j1 k y0 y1 y2) (spec_MatrixOk.j1 (k + 1) y0 y1 y2)) ∧ (∀ y0 y1 y2, LeO (spec_MatrixOk.l1 k y0 y1 y2) (spec_MatrixOk.l1 (k + 1) y0 y1 y2))
 | 0 => ⟨fun _ _ r h => by simp [spec_MatrixOk.l0] at h, fun _ _ _ r h => by simp [spec_MatrixOk.j1] at h, fun _ _ _ r h => by simp [spec_MatrixOk.l1] at h⟩
 | k + 1 => by
  obtain ⟨ih0, ih1, ih2⟩ := spec_MatrixOk.mono_l k
  refine ⟨?_, ?_, ?_⟩
  ·intro y0 y1
   unfold spec_MatrixOk.l0
   repeat' first
   | (with_reducible exact ih0 _ _)
   | (with_reducible exact ih1 _ _ _)
   | (with_reducible exact ih2 _ _ _)
   | (with_reducible exact LeO.refl _)
   | (with_reducible exact LeO.none _)
   | (with_reducible refine LeO.ite ?_ ?_)
   | (with_reducible refine LeO.bind ?_ (fun _ => ?_))
   | exact ih0 _ _
   | exact ih1 _ _ _
   | exact ih2 _ _ _
   | exact LeO.none _
   | refine LeO.ite ?_ ?_
   | refine LeO.bind ?_ (fun _ => ?_)
  ·intro y0 y1 y2
   unfold spec_MatrixOk.j1
   repeat' first
   | (with_reducible exact ih0 _ _)
   | (with_reducible exact ih1 _ _ _)
   | (with_reducible exact ih2 _ _ _)
   | (with_reducible exact LeO.refl _)
   | (with_reducible exact LeO.none _)
   | (with_reducible refine LeO.ite ?_ ?_)
   | (with_reducible refine LeO.bind ?_ (fun _ => ?_))
   | exact ih0 _ _
   | exact ih1 _ _ _
   | exact ih2 _ _ _
   | exact LeO.none _
   | refine LeO.ite ?_ ?_
   | refine LeO.bind ?_ (fun _ => ?_)
  ·intro y0 y1 y2
   unfold spec_MatrixOk.l1
   repeat' first
   | (with_reducible exact ih0 _ _)
   | (with_reducible exact ih1 _ _ _)
   | (with_reducible exact ih2 _ _ _)
   | (with_reducible exact LeO.refl _)
   | (with_reducible exact LeO.none _)
   | (with_reducible refine LeO.ite ?_ ?_)
   | (with_reducible refine LeO.bind ?_ (fun _ => ?_))
   | exact ih0 _ _
   | exact ih1 _ _ _
   | exact ih2 _ _ _
   | exact LeO.none _
   | refine LeO.ite ?_ ?_
   | refine LeO.bind ?_ (fun _ => ?_)
theorem spec_MatrixOk.mono : ∀ a0 k, LeO (spec_MatrixOk.f k a0) (spec_MatrixOk.f (k + 1) a0) := by
 intro a0 k
 obtain ⟨ih0, ih1, ih2⟩ := spec_MatrixOk.mono_l k
 unfold spec_MatrixOk.f
 repeat' first
   | (with_reducible exact ih0 _ _)
   | (with_reducible exact ih1 _ _ _)
   | (with_reducible exact ih2 _ _ _)
   | (with_reducible exact LeO.refl _)
   | (with_reducible exact LeO.none _)
   | (with_reducible refine LeO.ite ?_ ?_)
   | (with_reducible refine LeO.bind ?_ (fun _ => ?_))
   | exact ih0 _ _
   | exact ih1 _ _ _
   | exact ih2 _ _ _
   | exact LeO.none _
   | refine LeO.ite ?_ ?_
   | refine LeO.bind ?_ (fun _ => ?_)
set_option maxHeartbeats 8000000 in
set_option maxRecDepth 100000 in
theorem spec_MatrixOk.calls (k : Nat) (A0 : Option Addr) (c0 : Nat) (l0 : List (List Int)) (r : Bool) (w : World) (hr0 : Kd.C (Kd.slice 3 (Kd.int .i64)) w A0 l0.length l0) (hc0 : l0.length ≤ c0) (h : spec_MatrixOk.f k l0 = some r) :
  Calls Try.prog 42 #[.slice A0 l0.length c0] w fun e w' => e = .returned (.bool r) ∧ Drawn0 w w' := by
 have HR0 := Aside0.mk hr0
 have HC0 := Aside0.mk hc0
 clear hr0 hc0
 have H : (spec_MatrixOk.l0 k l0 0) = some r := h
 clear h
 have H' := Aside0.mk H
 clear H
 go_enter Try.func42, Try.ntmps42
 go_wp2
 repeat (go_quiet (fail); try go_wp2)
 go_loopg [3] k (fun kq v3 w' => ∃ (x3_1 : Int), v3 = .int .i64 x3_1 ∧ Aside0 (spec_MatrixOk.l0 kq l0 x3_1 = some r) ∧ Aside0 (kq ≤ k) ∧ Drawn0 w w')
 case atStart => exact ⟨(0), FR, H', ⟨Nat.le_refl _⟩, by repeat (first | exact Drawn0.refl _ | apply Drawn0.step)⟩
 case round =>
  clear H'
  obtain ⟨x3_1, rfl, HA, HK1, ⟨m1, rfl⟩⟩ := hrel
  cases gk with
  | zero => exact absurd HA.out (by simp [spec_MatrixOk.l0])
  | succ k1 =>
   have H := HA.out
   clear HA
   simp only [spec_MatrixOk.l0] at H
   by_cases c2 : x3_1 < (l0.length : Int)
   ·rw [if_pos c2] at H
    have c2b0 : decide (x3_1 < (l0.length : Int)) = true := decide_eq_true c2
    clear c2
    have HC3 := Aside0.mk H
    clear H
    go_upto_region 4 with (fail)
    repeat (go_quiet (fail); go_upto_region 4 with (fail))
    go_cut [29] (fun v29 wc => ∃ (kq : Nat) (x29_2 : Bool), v29 = .bool x29_2 ∧ Aside0 (spec_MatrixOk.j1 kq l0 x3_1 x29_2 = some r) ∧ Aside0 (kq ≤ k1) ∧ Drawn0 w wc)
    case first =>
     have H := HC3.out
     clear HC3
     by_cases c4 : 0 ≤ x3_1
     ·rw [if_pos c4] at H
      have c4b0 : decide (0 ≤ x3_1) = true := decide_eq_true c4
      clear c4
      (first | rw [c4b0] | (simp only [i64_w, i32_w]; rw [c4b0]) | skip)
      by_cases c5 : 0 < (l0.length : Int)
      ·rw [if_pos c5] at H
       have c5b0 : decide (0 < (l0.length : Int)) = true := decide_eq_true c5
       have c5b1 : decide (0 < l0.length) = true := decide_eq_true (by omega)
       clear c5
       by_cases c6 : ((rd_L9 l0 x3_1).length : Int) = ((rd_L9 l0 0).length : Int)
       ·rw [if_pos c6] at H
        have c6b0 : (((rd_L9 l0 x3_1).length : Int) == ((rd_L9 l0 0).length : Int)) = true := beq_iff_eq.mpr c6
        have c6b1 : (((rd_L9 l0 x3_1).length : Int) != ((rd_L9 l0 0).length : Int)) = false := bne_eq_false_iff_eq.mpr c6
        have c6b2 : ((rd_L9 l0 x3_1).length == (rd_L9 l0 0).length) = true := by first | simpa using c6 | (simp at c6 ⊢; omega)
        clear c6
        replace H := Option.bind_eq_some_iff.mp H
        obtain ⟨t177, A70, H⟩ := H
        replace H : (spec_MatrixOk.j1 k1 l0 x3_1 (!t177)) = some r := H
        have A7 := Aside0.mk A70
        clear A70
        have H' := Aside0.mk H
        clear H
        have p174 : 0 ≤ (x3_1 : Int) := DT
        have q174 : x3_1 < (l0.length : Int) := DT
        obtain ⟨ad174, A174_0, c174_0, e174, hx174_0, hl174_0, hi174_0⟩ := at_L9 HR0.out x3_1 p174 q174
        cases e174
        have HR174_0 := Aside0.mk hi174_0
        have HC174_0 := Aside0.mk hl174_0
        clear hi174_0 hl174_0
        replace p174 := eq_true p174
        replace q174 := eq_true q174
        have p175 : 0 ≤ (0 : Int) := (by omega)
        have q175 : 0 < (l0.length : Int) := DT
        obtain ⟨ad175, A175_0, c175_0, e175, hx175_0, hl175_0, hi175_0⟩ := at_L9 HR0.out 0 p175 q175
        obtain rfl : ad174 = ad175 := (by injection e175)
        have qi175 : (0 < l0.length) = True := eq_true (by omega)
        (try rw [show ((0 : Int)).toNat = 0 from rfl] at hx175_0)
        (try rw [Addr.add_zero'] at hx175_0)
        have HR175_0 := Aside0.mk hi175_0
        have HC175_0 := Aside0.mk hl175_0
        clear hi175_0 hl175_0
        replace p175 := eq_true p175
        replace q175 := eq_true q175
        have p176 : 0 ≤ (x3_1 : Int) := DT
        have q176 : x3_1 < (l0.length : Int) := DT
        obtain ⟨ad176, A176_0, c176_0, e176, hx176_0, hl176_0, hi176_0⟩ := at_L9 HR0.out x3_1 p176 q176
        obtain rfl : ad174 = ad176 := (by injection e176)
        have HR176_0 := Aside0.mk hi176_0
        have HC176_0 := Aside0.mk hl176_0
        clear hi176_0 hl176_0
        replace p176 := eq_true p176
        replace q176 := eq_true q176
        have ea_ := Option.some.inj (hx174_0.symm.trans hx176_0)
        injection ea_ with ea_ en_ ec_
        subst ea_
        subst ec_
        clear en_
        go_wp2_with (first | (go_at_call 24; (with_reducible refine (spec_l01In.calls ((rd_L9 l0 x3_1).length : Int) 1 8 t177 _ A7.out).mono ?_); rintro e w' ⟨rfl, ⟨nd, rfl⟩⟩; (try first | exact ⟨rfl, _, World.drewN_drewN _ _ _⟩ | exact ⟨rfl, _, Eq.trans (World.drewN_drewN _ _ _) (congrArg (World.drewN _) (Nat.add_assoc _ _ _))⟩)))
        repeat (go_quiet (first | (go_at_call 24; (with_reducible refine (spec_l01In.calls ((rd_L9 l0 x3_1).length : Int) 1 8 t177 _ A7.out).mono ?_); rintro e w' ⟨rfl, ⟨nd, rfl⟩⟩; (try first | exact ⟨rfl, _, World.drewN_drewN _ _ _⟩ | exact ⟨rfl, _, Eq.trans (World.drewN_drewN _ _ _) (congrArg (World.drewN _) (Nat.add_assoc _ _ _))⟩))); try go_wp2_with (first | (go_at_call 24; (with_reducible refine (spec_l01In.calls ((rd_L9 l0 x3_1).length : Int) 1 8 t177 _ A7.out).mono ?_); rintro e w' ⟨rfl, ⟨nd, rfl⟩⟩; (try first | exact ⟨rfl, _, World.drewN_drewN _ _ _⟩ | exact ⟨rfl, _, Eq.trans (World.drewN_drewN _ _ _) (congrArg (World.drewN _) (Nat.add_assoc _ _ _))⟩))))
        go_meet
        case rel => exact ⟨_, (!t177), FR, H', ⟨by have := HK1.out; first | omega | exact Nat.le_refl _⟩, by repeat (first | exact Drawn0.refl _ | apply Drawn0.step)⟩
       ·rw [if_neg c6] at H
        have c6b0 : (((rd_L9 l0 x3_1).length : Int) == ((rd_L9 l0 0).length : Int)) = false := beq_eq_false_iff_ne.mpr c6
        have c6b1 : (((rd_L9 l0 x3_1).length : Int) != ((rd_L9 l0 0).length : Int)) = true := bne_iff_ne.mpr c6
        have c6b2 : ((rd_L9 l0 x3_1).length == (rd_L9 l0 0).length) = false := by first | simpa using c6 | (simp at c6 ⊢; omega)
        have H' := Aside0.mk H
        clear H
        have p174 : 0 ≤ (x3_1 : Int) := DT
        have q174 : x3_1 < (l0.length : Int) := DT
        obtain ⟨ad174, A174_0, c174_0, e174, hx174_0, hl174_0, hi174_0⟩ := at_L9 HR0.out x3_1 p174 q174
        cases e174
        have HR174_0 := Aside0.mk hi174_0
        have HC174_0 := Aside0.mk hl174_0
        clear hi174_0 hl174_0
        replace p174 := eq_true p174
        replace q174 := eq_true q174
        have p175 : 0 ≤ (0 : Int) := (by omega)
        have q175 : 0 < (l0.length : Int) := DT
        obtain ⟨ad175, A175_0, c175_0, e175, hx175_0, hl175_0, hi175_0⟩ := at_L9 HR0.out 0 p175 q175
        obtain rfl : ad174 = ad175 := (by injection e175)
        have qi175 : (0 < l0.length) = True := eq_true (by omega)
        (try rw [show ((0 : Int)).toNat = 0 from rfl] at hx175_0)
        (try rw [Addr.add_zero'] at hx175_0)
        have HR175_0 := Aside0.mk hi175_0
        have HC175_0 := Aside0.mk hl175_0
        clear hi175_0 hl175_0
        replace p175 := eq_true p175
        replace q175 := eq_true q175
        go_wp2
        repeat (go_quiet (fail); try go_wp2)
        go_meet
        case rel => exact ⟨_, (true), FR, H', ⟨by have := HK1.out; first | omega | exact Nat.le_refl _⟩, by repeat (first | exact Drawn0.refl _ | apply Drawn0.step)⟩
      ·rw [if_neg c5] at H
       exact absurd H (by simp)
     ·rw [if_neg c4] at H
      exact absurd H (by simp)
    case rest =>
     clear HC3
     try clear c1
     try clear p1
     try clear q1
     try clear hx1
     try clear qi1
     try clear c2
     try clear c2b0
     try clear p2
     try clear c4
     try clear c4b0
     try clear c5
     try clear c5b0
     try clear c5b1
     try clear c6
     try clear c6b0
     try clear c6b1
     try clear c6b2
     try clear hx174_0
     try clear hx175_0
     try clear hx176_0
     try clear p174
     try clear p175
     try clear p176
     try clear q174
     try clear q175
     try clear q176
     obtain ⟨kq, x29_2, rfl, HA, HJ2, ⟨mc2, rfl⟩⟩ := hcut
     cases kq with
     | zero => exact absurd HA.out (by simp [spec_MatrixOk.j1])
     | succ kj2 =>
      have H := HA.out
      clear HA
      simp only [spec_MatrixOk.j1] at H
      by_cases c8 : x29_2 = true
      ·subst c8
       have H1 : (some false) = some r := by rw [if_pos rfl] at H; exact H
       clear H
       have H := H1
       clear H1
       obtain rfl := Option.some.inj H
       go_wp2
       repeat (go_quiet (fail); try go_wp2)
       go_ret
       exact ⟨FR, by repeat (first | exact Drawn0.refl _ | apply Drawn0.step)⟩
      ·replace c8 := Bool.eq_false_iff.mpr c8
       subst c8
       have H1 : (spec_MatrixOk.l1 kj2 l0 x3_1 0) = some r := by rw [if_neg (show ¬ (false = true) by decide)] at H; exact H
       clear H
       have H := H1
       clear H1
       have H' := Aside0.mk H
       clear H
       go_wp2
       repeat (go_quiet (fail); try go_wp2)
       go_loopg [4] kj2 (fun kq v4 w' => ∃ (x4_3 : Int), v4 = .int .i64 x4_3 ∧ Aside0 (spec_MatrixOk.l1 kq l0 x3_1 x4_3 = some r) ∧ Aside0 (kq ≤ kj2) ∧ Drawn0 w w')
       case atStart => exact ⟨(0), FR, H', ⟨Nat.le_refl _⟩, by repeat (first | exact Drawn0.refl _ | apply Drawn0.step)⟩
       case round =>
        clear H'
        try clear c1
        try clear p1
        try clear q1
        try clear hx1
        try clear qi1
        try clear c2
        try clear c2b0
        try clear p2
        try clear c4
        try clear c4b0
        try clear c5
        try clear c5b0
        try clear c5b1
        try clear c6
        try clear c6b0
        try clear c6b1
        try clear c6b2
        try clear c8
        try clear hx174_0
        try clear hx175_0
        try clear hx176_0
        try clear p1
        try clear p174
        try clear p175
        try clear p176
        try clear p2
        try clear q1
        try clear q174
        try clear q175
        try clear q176
        obtain ⟨x4_3, rfl, HA, HK3, ⟨m3, rfl⟩⟩ := hrel
        cases gk with
        | zero => exact absurd HA.out (by simp [spec_MatrixOk.l1])
        | succ k3 =>
         have H := HA.out
         clear HA
         simp only [spec_MatrixOk.l1] at H
         by_cases c9 : 0 ≤ x3_1
         ·rw [if_pos c9] at H
          have c9b0 : decide (0 ≤ x3_1) = true := decide_eq_true c9
          clear c9
          by_cases c10 : x3_1 < (l0.length : Int)
          ·rw [if_pos c10] at H
           have c10b0 : decide (x3_1 < (l0.length : Int)) = true := decide_eq_true c10
           clear c10
           by_cases c11 : x4_3 < ((rd_L9 l0 x3_1).length : Int)
           ·rw [if_pos c11] at H
            have c11b0 : decide (x4_3 < ((rd_L9 l0 x3_1).length : Int)) = true := decide_eq_true c11
            clear c11
            by_cases c12 : 0 ≤ x4_3
            ·rw [if_pos c12] at H
             have c12b0 : decide (0 ≤ x4_3) = true := decide_eq_true c12
             clear c12
             replace H := Option.bind_eq_some_iff.mp H
             obtain ⟨t181, A130, H⟩ := H
             replace H : (if t181 = true then (spec_MatrixOk.l1 k3 l0 x3_1 (wrap64 (x4_3 + 1))) else (some false)) = some r := H
             have A13 := Aside0.mk A130
             clear A130
             by_cases c14 : t181 = true
             ·subst c14
              have H1 : (spec_MatrixOk.l1 k3 l0 x3_1 (wrap64 (x4_3 + 1))) = some r := by rw [if_pos rfl] at H; exact H
              clear H
              have H := H1
              clear H1
              have H' := Aside0.mk H
              clear H
              have p178 : 0 ≤ (x3_1 : Int) := DT
              have q178 : x3_1 < (l0.length : Int) := DT
              obtain ⟨ad178, A178_0, c178_0, e178, hx178_0, hl178_0, hi178_0⟩ := at_L9 HR0.out x3_1 p178 q178
              cases e178
              have HR178_0 := Aside0.mk hi178_0
              have HC178_0 := Aside0.mk hl178_0
              clear hi178_0 hl178_0
              replace p178 := eq_true p178
              replace q178 := eq_true q178
              have p179 : 0 ≤ (x3_1 : Int) := DT
              have q179 : x3_1 < (l0.length : Int) := DT
              obtain ⟨ad179, A179_0, c179_0, e179, hx179_0, hl179_0, hi179_0⟩ := at_L9 HR0.out x3_1 p179 q179
              obtain rfl : ad178 = ad179 := (by injection e179)
              have HR179_0 := Aside0.mk hi179_0
              have HC179_0 := Aside0.mk hl179_0
              clear hi179_0 hl179_0
              replace p179 := eq_true p179
              replace q179 := eq_true q179
              have ea_ := Option.some.inj (hx178_0.symm.trans hx179_0)
              injection ea_ with ea_ en_ ec_
              subst ea_
              subst ec_
              clear en_
              have p180 : 0 ≤ (x4_3 : Int) := DT
              have q180 : x4_3 < ((rd_L9 l0 x3_1).length : Int) := DT
              obtain ⟨ad180, e180, hx180_0⟩ := Kd.at_int HR179_0.out x4_3 p180 q180
              cases e180
              replace p180 := eq_true p180
              replace q180 := eq_true q180
              go_wp2_with (first | (go_at_call 24; (with_reducible refine (spec_l01In.calls (rd (rd_L9 l0 x3_1) x4_3) 0 255 true _ A13.out).mono ?_); rintro e w' ⟨rfl, ⟨nd, rfl⟩⟩; (try first | exact ⟨rfl, _, World.drewN_drewN _ _ _⟩ | exact ⟨rfl, _, Eq.trans (World.drewN_drewN _ _ _) (congrArg (World.drewN _) (Nat.add_assoc _ _ _))⟩)))
              repeat (go_quiet (first | (go_at_call 24; (with_reducible refine (spec_l01In.calls (rd (rd_L9 l0 x3_1) x4_3) 0 255 true _ A13.out).mono ?_); rintro e w' ⟨rfl, ⟨nd, rfl⟩⟩; (try first | exact ⟨rfl, _, World.drewN_drewN _ _ _⟩ | exact ⟨rfl, _, Eq.trans (World.drewN_drewN _ _ _) (congrArg (World.drewN _) (Nat.add_assoc _ _ _))⟩))); try go_wp2_with (first | (go_at_call 24; (with_reducible refine (spec_l01In.calls (rd (rd_L9 l0 x3_1) x4_3) 0 255 true _ A13.out).mono ?_); rintro e w' ⟨rfl, ⟨nd, rfl⟩⟩; (try first | exact ⟨rfl, _, World.drewN_drewN _ _ _⟩ | exact ⟨rfl, _, Eq.trans (World.drewN_drewN _ _ _) (congrArg (World.drewN _) (Nat.add_assoc _ _ _))⟩))))
              go_roundg k3
              case measure => have := HK1.out; have := HJ2.out; have := HK3.out; omega
              case rel => exact ⟨(wrap64 (x4_3 + 1)), FR, H', ⟨by have := HK1.out; have := HJ2.out; have := HK3.out; omega⟩, by repeat (first | exact Drawn0.refl _ | apply Drawn0.step)⟩
             ·replace c14 := Bool.eq_false_iff.mpr c14
              subst c14
              have H1 : (some false) = some r := by rw [if_neg (show ¬ (false = true) by decide)] at H; exact H
              clear H
              have H := H1
              clear H1
              obtain rfl := Option.some.inj H
              have p178 : 0 ≤ (x3_1 : Int) := DT
              have q178 : x3_1 < (l0.length : Int) := DT
              obtain ⟨ad178, A178_0, c178_0, e178, hx178_0, hl178_0, hi178_0⟩ := at_L9 HR0.out x3_1 p178 q178
              cases e178
              have HR178_0 := Aside0.mk hi178_0
              have HC178_0 := Aside0.mk hl178_0
              clear hi178_0 hl178_0
              replace p178 := eq_true p178
              replace q178 := eq_true q178
              have p179 : 0 ≤ (x3_1 : Int) := DT
              have q179 : x3_1 < (l0.length : Int) := DT
              obtain ⟨ad179, A179_0, c179_0, e179, hx179_0, hl179_0, hi179_0⟩ := at_L9 HR0.out x3_1 p179 q179
              obtain rfl : ad178 = ad179 := (by injection e179)
              have HR179_0 := Aside0.mk hi179_0
              have HC179_0 := Aside0.mk hl179_0
              clear hi179_0 hl179_0
              replace p179 := eq_true p179
              replace q179 := eq_true q179
              have ea_ := Option.some.inj (hx178_0.symm.trans hx179_0)
              injection ea_ with ea_ en_ ec_
              subst ea_
              subst ec_
              clear en_
              have p180 : 0 ≤ (x4_3 : Int) := DT
              have q180 : x4_3 < ((rd_L9 l0 x3_1).length : Int) := DT
              obtain ⟨ad180, e180, hx180_0⟩ := Kd.at_int HR179_0.out x4_3 p180 q180
              cases e180
              replace p180 := eq_true p180
              replace q180 := eq_true q180
              go_wp2_with (first | (go_at_call 24; (with_reducible refine (spec_l01In.calls (rd (rd_L9 l0 x3_1) x4_3) 0 255 false _ A13.out).mono ?_); rintro e w' ⟨rfl, ⟨nd, rfl⟩⟩; (try first | exact ⟨rfl, _, World.drewN_drewN _ _ _⟩ | exact ⟨rfl, _, Eq.trans (World.drewN_drewN _ _ _) (congrArg (World.drewN _) (Nat.add_assoc _ _ _))⟩)))
              repeat (go_quiet (first | (go_at_call 24; (with_reducible refine (spec_l01In.calls (rd (rd_L9 l0 x3_1) x4_3) 0 255 false _ A13.out).mono ?_); rintro e w' ⟨rfl, ⟨nd, rfl⟩⟩; (try first | exact ⟨rfl, _, World.drewN_drewN _ _ _⟩ | exact ⟨rfl, _, Eq.trans (World.drewN_drewN _ _ _) (congrArg (World.drewN _) (Nat.add_assoc _ _ _))⟩))); try go_wp2_with (first | (go_at_call 24; (with_reducible refine (spec_l01In.calls (rd (rd_L9 l0 x3_1) x4_3) 0 255 false _ A13.out).mono ?_); rintro e w' ⟨rfl, ⟨nd, rfl⟩⟩; (try first | exact ⟨rfl, _, World.drewN_drewN _ _ _⟩ | exact ⟨rfl, _, Eq.trans (World.drewN_drewN _ _ _) (congrArg (World.drewN _) (Nat.add_assoc _ _ _))⟩))))
              go_ret
              exact ⟨FR, by repeat (first | exact Drawn0.refl _ | apply Drawn0.step)⟩
            ·rw [if_neg c12] at H
             exact absurd H (by simp)
           ·rw [if_neg c11] at H
            have c11b0 : decide (x4_3 < ((rd_L9 l0 x3_1).length : Int)) = false := decide_eq_false c11
            clear c11
            have H' := Aside0.mk H
            clear H
            have p178 : 0 ≤ (x3_1 : Int) := DT
            have q178 : x3_1 < (l0.length : Int) := DT
            obtain ⟨ad178, A178_0, c178_0, e178, hx178_0, hl178_0, hi178_0⟩ := at_L9 HR0.out x3_1 p178 q178
            cases e178
            have HR178_0 := Aside0.mk hi178_0
            have HC178_0 := Aside0.mk hl178_0
            clear hi178_0 hl178_0
            replace p178 := eq_true p178
            replace q178 := eq_true q178
            go_wp2
            repeat (go_quiet (fail); try go_wp2)
            go_roundg k3
            case measure => have := HK1.out; have := HJ2.out; have := HK3.out; omega
            case rel => exact ⟨(wrap64 (x3_1 + 1)), FR, H', ⟨by have := HK1.out; have := HJ2.out; have := HK3.out; omega⟩, by repeat (first | exact Drawn0.refl _ | apply Drawn0.step)⟩
          ·rw [if_neg c10] at H
           exact absurd H (by simp)
         ·rw [if_neg c9] at H
          exact absurd H (by simp)
   ·rw [if_neg c2] at H
    have c2b0 : decide (x3_1 < (l0.length : Int)) = false := decide_eq_false c2
    clear c2
    replace H := Option.bind_eq_some_iff.mp H
    obtain ⟨t173, A150, H⟩ := H
    replace H : (some t173) = some r := H
    have A15 := Aside0.mk A150
    clear A150
    obtain rfl := Option.some.inj H
    go_wp2_with (first | (go_at_call 24; (with_reducible refine (spec_l01In.calls (l0.length : Int) 1 8 t173 _ A15.out).mono ?_); rintro e w' ⟨rfl, ⟨nd, rfl⟩⟩; (try first | exact ⟨rfl, _, World.drewN_drewN _ _ _⟩ | exact ⟨rfl, _, Eq.trans (World.drewN_drewN _ _ _) (congrArg (World.drewN _) (Nat.add_assoc _ _ _))⟩)))
    repeat (go_quiet (first | (go_at_call 24; (with_reducible refine (spec_l01In.calls (l0.length : Int) 1 8 t173 _ A15.out).mono ?_); rintro e w' ⟨rfl, ⟨nd, rfl⟩⟩; (try first | exact ⟨rfl, _, World.drewN_drewN _ _ _⟩ | exact ⟨rfl, _, Eq.trans (World.drewN_drewN _ _ _) (congrArg (World.drewN _) (Nat.add_assoc _ _ _))⟩))); try go_wp2_with (first | (go_at_call 24; (with_reducible refine (spec_l01In.calls (l0.length : Int) 1 8 t173 _ A15.out).mono ?_); rintro e w' ⟨rfl, ⟨nd, rfl⟩⟩; (try first | exact ⟨rfl, _, World.drewN_drewN _ _ _⟩ | exact ⟨rfl, _, Eq.trans (World.drewN_drewN _ _ _) (congrArg (World.drewN _) (Nat.add_assoc _ _ _))⟩))))
    go_ret
    exact ⟨FR, by repeat (first | exact Drawn0.refl _ | apply Drawn0.step)⟩

end Go.Proofs.Ytahimindlnkmoaa.Pr

namespace Go.Proofs.Ytahimindlnkmoaa.Pr
open Go.RowKit Go.Proofs.YtahimindlnkmoaaW.PrintWords Go.Proofs.YtahimindlnkmoaaW.PrintLast Go.Proofs.YtahimindlnkmoaaW.PrintMore
attribute [local go_sem] max2_int min2_int max_two min_two max_three min_three max_four min_four
set_option linter.unusedVariables false
set_option linter.unusedSimpArgs false
def spec_l06Times.l0 : Nat → List Int → Int → List Int → Int → Option (List Int)
 | 0, _, _, _, _ => none
 | k + 1, x0, x1, x5, x6 => if x6 < (x0.length : Int) then (if 0 ≤ x6 then ((spec_MulG.f k x1 (rd x0 x6)).bind fun t186 => (if x5.length < 17592186044416 then (spec_l06Times.l0 k x0 x1 (x5 ++ [t186]) (wrap64 (x6 + 1))) else (none))) else (none)) else (some x5)
def spec_l06Times.f (k : Nat) (l0 : List Int) (a1 : Int) : Option (List Int) := spec_l06Times.l0 k l0 a1 (([] : List Int)) 0
theorem spec_l06Times.mono_l : ∀ k, (∀ y0 y1 y2 y3, LeO (spec_l06Times.l0 k y0 y1 y2 y3) (spec_l06Times.l0 (k + 1) y0 y1 y2 y3))
 | 0 => fun _ _ _ _ r h => by simp [spec_l06Times.l0] at h
 | k + 1 => by
  have ih0 := spec_l06Times.mono_l k
  ·intro y0 y1 y2 y3
   unfold spec_l06Times.l0
   repeat' first
   | (with_reducible exact ih0 _ _ _ _)
   | (with_reducible exact spec_MulG.mono _ _ _)
   | (with_reducible exact LeO.refl _)
   | (with_reducible exact LeO.none _)
   | (with_reducible refine LeO.ite ?_ ?_)
   | (with_reducible refine LeO.bind ?_ (fun _ => ?_))
   | exact ih0 _ _ _ _
   | exact spec_MulG.mono _ _ _
   | exact LeO.none _
   | refine LeO.ite ?_ ?_
   | refine LeO.bind ?_ (fun _ => ?_)
theorem spec_l06Times.mono : ∀ a0 a1 k, LeO (spec_l06Times.f k a0 a1) (spec_l06Times.f (k + 1) a0 a1) := by
 intro a0 a1 k
 have ih0 := spec_l06Times.mono_l k
 unfold spec_l06Times.f
 repeat' first
   | (with_reducible exact ih0 _ _ _ _)
   | (with_reducible exact spec_MulG.mono _ _ _)
   | (with_reducible exact LeO.refl _)
   | (with_reducible exact LeO.none _)
   | (with_reducible refine LeO.ite ?_ ?_)
   | (with_reducible refine LeO.bind ?_ (fun _ => ?_))
   | exact ih0 _ _ _ _
   | exact spec_MulG.mono _ _ _
   | exact LeO.none _
   | refine LeO.ite ?_ ?_
   | refine LeO.bind ?_ (fun _ => ?_)
set_option maxHeartbeats 8000000 in
set_option maxRecDepth 100000 in
theorem spec_l06Times.calls (k : Nat) (A0 : Option Addr) (c0 : Nat) (l0 : List Int) (a1 : Int) (r : List Int) (w : World) (hr0 : Kd.C (Kd.int .i64) w A0 l0.length l0) (hc0 : l0.length ≤ c0) (h : spec_l06Times.f k l0 a1 = some r) :
  Calls Try.prog 43 #[.slice A0 l0.length c0, .int .i64 a1] w fun e w' => ∃ v0_ : Value, e = .returned (v0_) ∧ Kd.R (Kd.int .i64) 3 w' w.heap.size (fun _ => True) v0_ r ∧ Below w.heap.size w w' := by
 have HR0 := Aside0.mk hr0
 have HC0 := Aside0.mk hc0
 clear hr0 hc0
 have HB := Aside0.mk (Below.refl w.heap.size w)
 have H : (spec_l06Times.l0 k l0 a1 (([] : List Int)) 0) = some r := h
 clear h
 obtain ⟨y182, hy182⟩ : ∃ y_ : List Int, y_ = (([] : List Int)) := ⟨_, rfl⟩
 replace H : (spec_l06Times.l0 k l0 a1 y182 0) = some r := by first | (rw [hy182]; with_reducible exact H) | (have H2_ := (Option.bind_some _ _).symm.trans H; rw [hy182]; with_reducible exact H2_) | (have H2_ := (Option.bind_some _ _).symm.trans H; with_reducible exact H2_) | with_reducible exact H | (rw [hy182]; exact H) | exact H
 have Ny182 := Aside0.mk hy182
 clear hy182
 have H' := Aside0.mk H
 clear H
 go_enter Try.func43, Try.ntmps43
 go_wp2_with (first | ((with_reducible refine gate_dst (N := 7) rfl ?_); refine Kd.R_lit (Kd.int .i64) _ 3 ?hg (N := 7) ?hd (xs := ([] : List Int)) (inner := []) (ok := fun _ => True) (okp := fun _ => True) ?hr ?hp (fun _ hk => hk) trivial (Below.refl _ _) (Nat.le_refl _) (by simp) ?_; (case hd => rfl); (case hg => rfl); (case hr => first | (go_simp; done) | (go_simp; rfl)); (case hp => exact (Reps.none _ _)); intro v183 w3 ho4 hb hg_ hnew_; clear hg_ hnew_; (first | rw [← Ny182.out] at ho4 | (simp only [Int.reduceToNat] at ho4; rw [← Ny182.out] at ho4)); have HO184 := Aside0.mk (Kd.R_lower ho4 (below_size (BB HB.out))); replace HB := Aside0.mk (below_step (BB HB.out) hb); clear hb ho4))
 go_loopg [5, 6] k (fun kq v5 v6 w' => ∃ (x5_1 : List Int) (x6_1 : Int), v6 = .int .i64 x6_1 ∧ Aside0 (spec_l06Times.l0 kq l0 a1 x5_1 x6_1 = some r) ∧ Aside0 (kq ≤ k) ∧ Aside0 (Kd.R (Kd.int .i64) 3 w' w.heap.size (fun _ => True) v5 x5_1) ∧ Aside0 (Below w.heap.size w w'))
 case atStart => exact ⟨(y182), (0), FR, H', ⟨Nat.le_refl _⟩, ⟨(RR HO184.out)⟩, ⟨(BB HB.out)⟩⟩
 case round =>
  clear H'
  try clear p2
  try clear c4
  obtain ⟨x5_1, x6_1, rfl, HA, HK1, HO_5, HB⟩ := hrel
  cases gk with
  | zero => exact absurd HA.out (by simp [spec_l06Times.l0])
  | succ k1 =>
   have H := HA.out
   clear HA
   simp only [spec_l06Times.l0] at H
   by_cases c5 : x6_1 < (l0.length : Int)
   ·rw [if_pos c5] at H
    have c5b0 : decide (x6_1 < (l0.length : Int)) = true := decide_eq_true c5
    clear c5
    by_cases c6 : 0 ≤ x6_1
    ·rw [if_pos c6] at H
     have c6b0 : decide (0 ≤ x6_1) = true := decide_eq_true c6
     clear c6
     replace H := Option.bind_eq_some_iff.mp H
     obtain ⟨t186, A70, H⟩ := H
     replace H : (if x5_1.length < 17592186044416 then (spec_l06Times.l0 k1 l0 a1 (x5_1 ++ [t186]) (wrap64 (x6_1 + 1))) else (none)) = some r := H
     have A7 := Aside0.mk A70
     clear A70
     by_cases c8 : x5_1.length < 17592186044416
     ·rw [if_pos c8] at H
      have LMc8 := Aside0.mk c8
      clear c8
      obtain ⟨y187, hy187⟩ : ∃ y_ : List Int, y_ = (x5_1 ++ [t186]) := ⟨_, rfl⟩
      replace H : (spec_l06Times.l0 k1 l0 a1 y187 (wrap64 (x6_1 + 1))) = some r := by first | (rw [hy187]; with_reducible exact H) | (have H2_ := (Option.bind_some _ _).symm.trans H; rw [hy187]; with_reducible exact H2_) | (have H2_ := (Option.bind_some _ _).symm.trans H; with_reducible exact H2_) | with_reducible exact H | (rw [hy187]; exact H) | exact H
      have Ny187 := Aside0.mk hy187
      clear hy187
      have H' := Aside0.mk H
      clear H
      have p185 : 0 ≤ (x6_1 : Int) := DT
      have q185 : x6_1 < (l0.length : Int) := DT
      obtain ⟨ad185, e185, hx185_0⟩ := Kd.at_int HR0.out x6_1 p185 q185
      cases e185
      replace hx185_0 := (HB.out.cell (World.block_lt_of_cell? w _ hx185_0)).trans hx185_0
      replace p185 := eq_true p185
      replace q185 := eq_true q185
      go_wp2_with (first | ((with_reducible refine gate_callee (f := 62) rfl ?_); refine GL (some 20) rfl rfl Try.func62 #[.int .i64 a1, .int .i64 (rd l0 x6_1)] rfl ?_; (with_reducible refine (spec_MulG.calls k1 a1 (rd l0 x6_1) t186 _ A7.out).mono ?_); rintro e w' ⟨rfl, ⟨nd, rfl⟩⟩; refine ⟨_, rfl, ?_⟩) | ((with_reducible refine gate_builtin (b := .append) (xs := #[.tmp 14, .tmp 21]) rfl ?_); at_builtin; refine Kd.R_append (Kd.int .i64) (w0 := w) w.heap.size rfl (.tmp 14) (.tmp 21) 52 3 (.int .i64 0) 8 rfl Try.underlying52 info3 rfl (by decide) (by omega) u5 x5_1 t186 [.int .i64 t186] (fun _ => True) (fun _ => False) rfl rfl ?aP (fun _ hk => hk.elim) ?aF ?aO ?aB ?aS ?aL ?_; (case aP => exact rfl); (case aB => exact (BB HB.out)); (case aF => exact (fun _ _ => trivial)); (case aO => exact (RR HO_5.out)); (case aS => exact (below_size (BB HB.out))); (case aL => have := LMc8.out; omega); intro v188 w9 ho hb hg hat; rw [← Ny187.out] at ho; have HO189 := Aside0.mk (ho); replace HB := Aside0.mk (hb); clear HO_5; clear ho hb hg hat))
      go_roundg k1
      case measure => have := HK1.out; omega
      case rel => exact ⟨(y187), (wrap64 (x6_1 + 1)), FR, H', ⟨by have := HK1.out; omega⟩, ⟨(RR HO189.out)⟩, ⟨(BB HB.out)⟩⟩
     ·rw [if_neg c8] at H
      exact absurd H (by simp)
    ·rw [if_neg c6] at H
     exact absurd H (by simp)
   ·rw [if_neg c5] at H
    have c5b0 : decide (x6_1 < (l0.length : Int)) = false := decide_eq_false c5
    clear c5
    obtain rfl := Option.some.inj H
    go_wp2
    go_ret
    exact ⟨_, ER, by (with_reducible repeat (first | apply Kd.R_alloc | apply Kd.R_drewN | apply Kd.R_drew)); exact HO_5.out, (BB HB.out)⟩

end Go.Proofs.Ytahimindlnkmoaa.Pr

namespace Go.Proofs.Ytahimindlnkmoaa.Pr
open Go.RowKit Go.Proofs.YtahimindlnkmoaaW.PrintWords Go.Proofs.YtahimindlnkmoaaW.PrintLast Go.Proofs.YtahimindlnkmoaaW.PrintMore
attribute [local go_sem] max2_int min2_int max_two min_two max_three min_three max_four min_four
set_option linter.unusedVariables false
set_option linter.unusedSimpArgs false
def spec_l06Row.l0 : Nat → List Int → List Int → Int → List Int → Int → Option (List Int)
 | 0, _, _, _, _, _ => none
 | k + 1, x0, x1, x2, x7, x8 => if x8 < (x0.length : Int) then (if 0 ≤ x8 then (if x8 < (x1.length : Int) then ((spec_MulG.f k x2 (rd x1 x8)).bind fun t195 => (if x7.length < 17592186044416 then (spec_l06Row.l0 k x0 x1 x2 (x7 ++ [Go.bits .xor .i64 (rd x0 x8) t195]) (wrap64 (x8 + 1))) else (none))) else (none)) else (none)) else (some x7)
def spec_l06Row.f (k : Nat) (l0 : List Int) (l1 : List Int) (a2 : Int) : Option (List Int) := spec_l06Row.l0 k l0 l1 a2 (([] : List Int)) 0
theorem spec_l06Row.mono_l : ∀ k, (∀ y0 y1 y2 y3 y4, LeO (spec_l06Row.l0 k y0 y1 y2 y3 y4) (spec_l06Row.l0 (k + 1) y0 y1 y2 y3 y4))
 | 0 => fun _ _ _ _ _ r h => by simp [spec_l06Row.l0] at h
 | k + 1 => by
  have ih0 := spec_l06Row.mono_l k
  ·intro y0 y1 y2 y3 y4
   unfold spec_l06Row.l0
   repeat' first
   | (with_reducible exact ih0 _ _ _ _ _)
   | (with_reducible exact spec_MulG.mono _ _ _)
   | (with_reducible exact LeO.refl _)
   | (with_reducible exact LeO.none _)
   | (with_reducible refine LeO.ite ?_ ?_)
   | (with_reducible refine LeO.bind ?_ (fun _ => ?_))
   | exact ih0 _ _ _ _ _
   | exact spec_MulG.mono _ _ _
   | exact LeO.none _
   | refine LeO.ite ?_ ?_
   | refine LeO.bind ?_ (fun _ => ?_)
theorem spec_l06Row.mono : ∀ a0 a1 a2 k, LeO (spec_l06Row.f k a0 a1 a2) (spec_l06Row.f (k + 1) a0 a1 a2) := by
 intro a0 a1 a2 k
 have ih0 := spec_l06Row.mono_l k
 unfold spec_l06Row.f
 repeat' first
   | (with_reducible exact ih0 _ _ _ _ _)
   | (with_reducible exact spec_MulG.mono _ _ _)
   | (with_reducible exact LeO.refl _)
   | (with_reducible exact LeO.none _)
   | (with_reducible refine LeO.ite ?_ ?_)
   | (with_reducible refine LeO.bind ?_ (fun _ => ?_))
   | exact ih0 _ _ _ _ _
   | exact spec_MulG.mono _ _ _
   | exact LeO.none _
   | refine LeO.ite ?_ ?_
   | refine LeO.bind ?_ (fun _ => ?_)
def spec_l06Row.T5 : Bool × List (List Nat × List Nat) := (true, [([], []), ([], []), ([], []), ([1, 2], [1, 2]), ([3], [3]), ([], []), ([], []), ([], []), ([6, 7], [6, 7]), ([8], [8]), ([5, 9], [5, 9]), ([4, 10], [4, 10]), ([11], [11]), ([0, 12, 10], [0, 12]), ([13, 13, 0, 1, 2, 3, 4, 5, 6, 7, 8, 9, 10, 11, 12, 13], [0, 13])])
def spec_l06Row.B5 : List Nat := [0, 0, 0, 6, 14, 0, 0, 0, 192, 448, 992, 2046, 4094, 8191, 16383]
theorem spec_l06Row.tab5 : rtab .any (opsOf Try.f44 5) = spec_l06Row.T5 := by kernel_rfl
theorem spec_l06Row.bits5 : waitsOk spec_l06Row.T5.2 spec_l06Row.B5 = true := by kernel_rfl
set_option maxHeartbeats 8000000 in
set_option maxRecDepth 100000 in
theorem spec_l06Row.calls (k : Nat) (A0 : Option Addr) (c0 : Nat) (l0 : List Int) (A1 : Option Addr) (c1 : Nat) (l1 : List Int) (a2 : Int) (r : List Int) (w : World) (hr0 : Kd.C (Kd.int .i64) w A0 l0.length l0) (hc0 : l0.length ≤ c0) (hr1 : Kd.C (Kd.int .i64) w A1 l1.length l1) (hc1 : l1.length ≤ c1) (h : spec_l06Row.f k l0 l1 a2 = some r) :
  Calls Try.prog 44 #[.slice A0 l0.length c0, .slice A1 l1.length c1, .int .i64 a2] w fun e w' => ∃ v0_ : Value, e = .returned (v0_) ∧ Kd.R (Kd.int .i64) 3 w' w.heap.size (fun _ => True) v0_ r ∧ Below w.heap.size w w' := by
 have HR0 := Aside0.mk hr0
 have HC0 := Aside0.mk hc0
 clear hr0 hc0
 have HR1 := Aside0.mk hr1
 have HC1 := Aside0.mk hc1
 clear hr1 hc1
 have HB := Aside0.mk (Below.refl w.heap.size w)
 have H : (spec_l06Row.l0 k l0 l1 a2 (([] : List Int)) 0) = some r := h
 clear h
 obtain ⟨y190, hy190⟩ : ∃ y_ : List Int, y_ = (([] : List Int)) := ⟨_, rfl⟩
 replace H : (spec_l06Row.l0 k l0 l1 a2 y190 0) = some r := by first | (rw [hy190]; with_reducible exact H) | (have H2_ := (Option.bind_some _ _).symm.trans H; rw [hy190]; with_reducible exact H2_) | (have H2_ := (Option.bind_some _ _).symm.trans H; with_reducible exact H2_) | with_reducible exact H | (rw [hy190]; exact H) | exact H
 have Ny190 := Aside0.mk hy190
 clear hy190
 have H' := Aside0.mk H
 clear H
 go_enter Try.func44, Try.ntmps44
 go_wp2_with (first | ((with_reducible refine gate_dst (N := 9) rfl ?_); refine Kd.R_lit (Kd.int .i64) _ 3 ?hg (N := 9) ?hd (xs := ([] : List Int)) (inner := []) (ok := fun _ => True) (okp := fun _ => True) ?hr ?hp (fun _ hk => hk) trivial (Below.refl _ _) (Nat.le_refl _) (by simp) ?_; (case hd => rfl); (case hg => rfl); (case hr => first | (go_simp; done) | (go_simp; rfl)); (case hp => exact (Reps.none _ _)); intro v191 w4 ho5 hb hg_ hnew_; clear hg_ hnew_; (first | rw [← Ny190.out] at ho5 | (simp only [Int.reduceToNat] at ho5; rw [← Ny190.out] at ho5)); have HO192 := Aside0.mk (Kd.R_lower ho5 (below_size (BB HB.out))); replace HB := Aside0.mk (below_step (BB HB.out) hb); clear hb ho5))
 go_loopg [7, 8] k (fun kq v7 v8 w' => ∃ (x7_1 : List Int) (x8_1 : Int), v8 = .int .i64 x8_1 ∧ Aside0 (spec_l06Row.l0 kq l0 l1 a2 x7_1 x8_1 = some r) ∧ Aside0 (kq ≤ k) ∧ Aside0 (Kd.R (Kd.int .i64) 3 w' w.heap.size (fun _ => True) v7 x7_1) ∧ Aside0 (Below w.heap.size w w'))
 case atStart => exact ⟨(y190), (0), FR, H', ⟨Nat.le_refl _⟩, ⟨(RR HO192.out)⟩, ⟨(BB HB.out)⟩⟩
 case round =>
  clear H'
  try clear c1
  try clear p2
  try clear c4
  obtain ⟨x7_1, x8_1, rfl, HA, HK1, HO_7, HB⟩ := hrel
  cases gk with
  | zero => exact absurd HA.out (by simp [spec_l06Row.l0])
  | succ k1 =>
   have H := HA.out
   clear HA
   simp only [spec_l06Row.l0] at H
   by_cases c6 : x8_1 < (l0.length : Int)
   ·rw [if_pos c6] at H
    have c6b0 : decide (x8_1 < (l0.length : Int)) = true := decide_eq_true c6
    clear c6
    by_cases c7 : 0 ≤ x8_1
    ·rw [if_pos c7] at H
     have c7b0 : decide (0 ≤ x8_1) = true := decide_eq_true c7
     clear c7
     by_cases c8 : x8_1 < (l1.length : Int)
     ·rw [if_pos c8] at H
      have c8b0 : decide (x8_1 < (l1.length : Int)) = true := decide_eq_true c8
      clear c8
      replace H := Option.bind_eq_some_iff.mp H
      obtain ⟨t195, A90, H⟩ := H
      replace H : (if x7_1.length < 17592186044416 then (spec_l06Row.l0 k1 l0 l1 a2 (x7_1 ++ [Go.bits .xor .i64 (rd l0 x8_1) t195]) (wrap64 (x8_1 + 1))) else (none)) = some r := H
      have A9 := Aside0.mk A90
      clear A90
      by_cases c10 : x7_1.length < 17592186044416
      ·rw [if_pos c10] at H
       have LMc10 := Aside0.mk c10
       clear c10
       obtain ⟨y196, hy196⟩ : ∃ y_ : List Int, y_ = (x7_1 ++ [Go.bits .xor .i64 (rd l0 x8_1) t195]) := ⟨_, rfl⟩
       replace H : (spec_l06Row.l0 k1 l0 l1 a2 y196 (wrap64 (x8_1 + 1))) = some r := by first | (rw [hy196]; with_reducible exact H) | (have H2_ := (Option.bind_some _ _).symm.trans H; rw [hy196]; with_reducible exact H2_) | (have H2_ := (Option.bind_some _ _).symm.trans H; with_reducible exact H2_) | with_reducible exact H | (rw [hy196]; exact H) | exact H
       have Ny196 := Aside0.mk hy196
       clear hy196
       have H' := Aside0.mk H
       clear H
       try go_wp2
       have n0_ := Aside0.mk (Kd.R_drew HO_7.out)
       have n1_ := Aside0.mk (below_drew1 HB.out)
       clear HO_7
       clear HB
       have HO_7 := n0_
       have HB := n1_
       clear n0_ n1_
       have p193 : 0 ≤ (x8_1 : Int) := DT
       have q193 : x8_1 < (l0.length : Int) := DT
       obtain ⟨ad193, e193, hx193_0⟩ := Kd.at_int HR0.out x8_1 p193 q193
       have hw193_0 := hx193_0
       cases e193
       replace hx193_0 := (HB.out.cell (World.block_lt_of_cell? w _ hx193_0)).trans hx193_0
       replace p193 := eq_true p193
       replace q193 := eq_true q193
       have p194 : 0 ≤ (x8_1 : Int) := DT
       have q194 : x8_1 < (l1.length : Int) := DT
       obtain ⟨ad194, e194, hx194_0⟩ := Kd.at_int HR1.out x8_1 p194 q194
       have hw194_0 := hx194_0
       cases e194
       replace hx194_0 := (HB.out.cell (World.block_lt_of_cell? w _ hx194_0)).trans hx194_0
       replace p194 := eq_true p194
       replace q194 := eq_true q194
       refine start_ (n := 15) (S := fun w' => w'.cell? (ad193.add (x8_1).toNat) = some (.int .i64 (rd l0 x8_1)) ∧ w'.cell? (ad194.add (x8_1).toNat) = some (.int .i64 (rd l1 x8_1))) (ds := []) #[false, false, false, false, false, false, false, false, false, false, false, false, false, false, false] (by kernel_rfl) rfl rfl ⟨((HB.out.cell (World.block_lt_of_cell? w _ hw193_0)).trans hw193_0), ((HB.out.cell (World.block_lt_of_cell? w _ hw194_0)).trans hw194_0)⟩ (fun hHeld => ?_); refine with_tabW spec_l06Row.tab5 spec_l06Row.bits5 (fun HT_ HW_ => ?_)
       generalize wr.drew = w11 at HO_7 HB hx193_0 hx194_0 hHeld ⊢
       refine pure_ (i := 0) (N := some 16) (v := ?_) (a' := ?_) #[true, false, false, false, false, false, false, false, false, false, false, false, false, false, false] rfl rfl (any_of HT_.out (by kernel_rfl)) (fun _ _ _ h => h) (Or.inl ⟨by rfl, ?_⟩) ?_ ?_
       rotate_left
       ·intro w'
        go_simp
        with_reducible rfl
       rotate_left
       ·simp only [Act.put, List.setIfInBounds_toArray, List.set_cons_zero, List.set_cons_succ, i64_w, i32_w]
        rfl
       refine pure_ (i := 1) (N := some 17) (v := ?_) (a' := ?_) #[true, true, false, false, false, false, false, false, false, false, false, false, false, false, false] rfl rfl (any_of HT_.out (by kernel_rfl)) (fun _ _ _ h => h) (Or.inl ⟨by rfl, ?_⟩) ?_ ?_
       rotate_left
       ·intro w'
        go_simp
        with_reducible rfl
       rotate_left
       ·simp only [Act.put, List.setIfInBounds_toArray, List.set_cons_zero, List.set_cons_succ, i64_w, i32_w]
        rfl
       refine pure_ (i := 2) (N := some 18) (v := ?_) (a' := ?_) #[true, true, true, false, false, false, false, false, false, false, false, false, false, false, false] rfl rfl (any_of HT_.out (by kernel_rfl)) (fun _ _ _ h => h) (Or.inl ⟨by rfl, ?_⟩) ?_ ?_
       rotate_left
       ·intro w'
        go_simp
        with_reducible rfl
       rotate_left
       ·simp only [Act.put, List.setIfInBounds_toArray, List.set_cons_zero, List.set_cons_succ, i64_w, i32_w]
        rfl
       refine pure_ (i := 3) (N := some 19) (v := ?_) (a' := ?_) #[true, true, true, true, false, false, false, false, false, false, false, false, false, false, false] rfl rfl (any_of HT_.out (by kernel_rfl)) (fun _ _ _ h => h) (Or.inl ⟨by rfl, ?_⟩) ?_ ?_
       rotate_left
       ·intro w'
        go_simp
        with_reducible rfl
       rotate_left
       ·simp only [Act.put, List.setIfInBounds_toArray, List.set_cons_zero, List.set_cons_succ, i64_w, i32_w]
        rfl
       refine pure_ (i := 5) (N := some 21) (v := ?_) (a' := ?_) #[true, true, true, true, false, true, false, false, false, false, false, false, false, false, false] rfl rfl (any_of HT_.out (by kernel_rfl)) (fun _ _ _ h => h) (Or.inl ⟨by rfl, ?_⟩) ?_ ?_
       rotate_left
       ·intro w'
        go_simp
        with_reducible rfl
       rotate_left
       ·simp only [Act.put, List.setIfInBounds_toArray, List.set_cons_zero, List.set_cons_succ, i64_w, i32_w]
        rfl
       refine pure_ (i := 6) (N := some 22) (v := ?_) (a' := ?_) #[true, true, true, true, false, true, true, false, false, false, false, false, false, false, false] rfl rfl (any_of HT_.out (by kernel_rfl)) (fun _ _ _ h => h) (Or.inl ⟨by rfl, ?_⟩) ?_ ?_
       rotate_left
       ·intro w'
        go_simp
        with_reducible rfl
       rotate_left
       ·simp only [Act.put, List.setIfInBounds_toArray, List.set_cons_zero, List.set_cons_succ, i64_w, i32_w]
        rfl
       refine pure_ (i := 7) (N := some 23) (v := ?_) (a' := ?_) #[true, true, true, true, false, true, true, true, false, false, false, false, false, false, false] rfl rfl (any_of HT_.out (by kernel_rfl)) (fun _ _ _ h => h) (Or.inl ⟨by rfl, ?_⟩) ?_ ?_
       rotate_left
       ·intro w'
        go_simp
        with_reducible rfl
       rotate_left
       ·simp only [Act.put, List.setIfInBounds_toArray, List.set_cons_zero, List.set_cons_succ, i64_w, i32_w]
        rfl
       refine pure_ (i := 8) (N := some 24) (v := ?_) (a' := ?_) #[true, true, true, true, false, true, true, true, true, false, false, false, false, false, false] rfl rfl (any_of HT_.out (by kernel_rfl)) (fun _ _ _ h => h) (Or.inl ⟨by rfl, ?_⟩) ?_ ?_
       rotate_left
       ·intro w'
        go_simp
        with_reducible rfl
       rotate_left
       ·simp only [Act.put, List.setIfInBounds_toArray, List.set_cons_zero, List.set_cons_succ, i64_w, i32_w]
        rfl
       refine take_ (i := 4) (N := some 20) (v := ?_) (a' := ?_) #[true, true, true, true, true, true, true, true, true, false, false, false, false, false, false] rfl rfl (take_ofW HT_.out HW_.out (by kernel_rfl)) (fun _ _ _ h => h) (Or.inl ⟨by rfl, ?_⟩) hHeld ?_ ?_
       rotate_left
       ·rintro w' ⟨s0, s1⟩
        go_simp
        with_reducible rfl
       rotate_left
       ·simp only [Act.put, List.setIfInBounds_toArray, List.set_cons_zero, List.set_cons_succ, i64_w, i32_w]
        rfl
       refine take_ (i := 9) (N := some 25) (v := ?_) (a' := ?_) #[true, true, true, true, true, true, true, true, true, true, false, false, false, false, false] rfl rfl (take_ofW HT_.out HW_.out (by kernel_rfl)) (fun _ _ _ h => h) (Or.inl ⟨by rfl, ?_⟩) hHeld ?_ ?_
       rotate_left
       ·rintro w' ⟨s0, s1⟩
        go_simp
        with_reducible rfl
       rotate_left
       ·simp only [Act.put, List.setIfInBounds_toArray, List.set_cons_zero, List.set_cons_succ, i64_w, i32_w]
        rfl
       refine one_ (i := 10) (N := some 26) #[true, true, true, true, true, true, true, true, true, true, true, false, false, false, false] rfl rfl (one_of HT_.out (by kernel_rfl)) (by decide) (fun K hK => ?_)
       refine goes_ Try.func62 (by kernel_rfl) rfl #[.int .i64 a2, .int .i64 (rd l1 x8_1)] (by rfl) rfl rfl (by (try simp only [List.map_toArray, List.map_cons, List.map_nil]); first | done | rfl | (simp only [List.length_drop, List.length_take]; rfl)) ?_
       with_reducible refine (spec_MulG.calls k1 a2 (rd l1 x8_1) t195 _ A9.out).mono ?_
       rintro e w' ⟨rfl, ⟨nd, rfl⟩⟩
       refine ⟨_, rfl, ?_⟩
       refine hK.out _ _ ⟨((HB.out.cell (World.block_lt_of_cell? w _ hw193_0)).trans hw193_0), ((HB.out.cell (World.block_lt_of_cell? w _ hw194_0)).trans hw194_0)⟩ (fun hHeld => ?_)
       clear hK K
       refine norm_ (a' := ?_) ?_ ?_
       rotate_left
       ·show Act.put _ (some 26) _ = _
        simp only [Act.put, List.setIfInBounds_toArray, List.set_cons_zero, List.set_cons_succ, i64_w, i32_w]
        rfl
       refine pure_ (i := 11) (N := some 27) (v := ?_) (a' := ?_) #[true, true, true, true, true, true, true, true, true, true, true, true, false, false, false] rfl rfl (any_of HT_.out (by kernel_rfl)) (fun _ _ _ h => h) (Or.inl ⟨by rfl, ?_⟩) ?_ ?_
       rotate_left
       ·intro w'
        go_simp
        with_reducible rfl
       rotate_left
       ·simp only [Act.put, List.setIfInBounds_toArray, List.set_cons_zero, List.set_cons_succ, i64_w, i32_w]
        rfl
       refine one_ (i := 12) (N := some 28) #[true, true, true, true, true, true, true, true, true, true, true, true, true, false, false] rfl rfl (one_of HT_.out (by kernel_rfl)) (by decide) (fun K hK => ?_)
       refine value_ (w1 := ?_) (v := ?_) (by rfl) rfl ?_ ?_
       rotate_left 2
       ·go_simp
        constructor
        ·rfl
        ·rfl
       refine hK.out _ _ ⟨(World.cell?_alloc_lt _ _ _ (World.block_lt_of_cell? _ _ (((HB.out.cell (World.block_lt_of_cell? w _ hw193_0)).trans hw193_0)))).trans (((HB.out.cell (World.block_lt_of_cell? w _ hw193_0)).trans hw193_0)), (World.cell?_alloc_lt _ _ _ (World.block_lt_of_cell? _ _ (((HB.out.cell (World.block_lt_of_cell? w _ hw194_0)).trans hw194_0)))).trans (((HB.out.cell (World.block_lt_of_cell? w _ hw194_0)).trans hw194_0))⟩ (fun hHeld => ?_)
       clear hK K
       refine norm_ (a' := ?_) ?_ ?_
       rotate_left
       ·show Act.put _ (some 28) _ = _
        simp only [Act.put, List.setIfInBounds_toArray, List.set_cons_zero, List.set_cons_succ, i64_w, i32_w]
        rfl
       refine one_ (i := 13) (N := some 29) #[true, true, true, true, true, true, true, true, true, true, true, true, true, true, false] rfl rfl (one_of HT_.out (by kernel_rfl)) (by decide) (fun K hK => ?_)
       refine Kd.R_append_step (Kd.int .i64) (w0 := w) w.heap.size (by rfl) (.tmp 16) (.tmp 28) 52 3 (.int .i64 0) 8 rfl Try.underlying52 info3 rfl (by decide) (by omega) u7 x7_1 (Go.bits .xor .i64 (rd l0 x8_1) t195) [.int .i64 (Go.bits .xor .i64 (rd l0 x8_1) t195)] (fun _ => True) (fun _ => False) rfl rfl ?aP (fun _ hk => hk.elim) ?aF ?aO ?aB ?aS ?aL ?_
       (case aP => exact rfl)
       (case aB => exact (BB HB.out))
       (case aF => exact (fun _ _ => trivial))
       (case aO => exact (RR HO_7.out))
       (case aS => exact (below_size (BB HB.out)))
       (case aL => have := LMc10.out; omega)
       intro v197 w12 ho hb hg hat
       rw [← Ny196.out] at ho
       have n0_ := Aside0.mk (hb)
       have n1_ := Aside0.mk (ho)
       clear HB
       clear HO_7
       have HB := n0_
       have HO198 := n1_
       clear n0_ n1_
       clear ho hb hg hat
       refine hK.out _ _ ⟨((HB.out.cell (World.block_lt_of_cell? w _ hw193_0)).trans hw193_0), ((HB.out.cell (World.block_lt_of_cell? w _ hw194_0)).trans hw194_0)⟩ (fun hHeld => ?_)
       clear hK K
       refine norm_ (a' := ?_) ?_ ?_
       rotate_left
       ·show Act.put _ (some 29) _ = _
        simp only [Act.put, List.setIfInBounds_toArray, List.set_cons_zero, List.set_cons_succ, i64_w, i32_w]
        rfl
       refine pure_ (i := 14) (N := some 7) (v := ?_) (a' := ?_) #[true, true, true, true, true, true, true, true, true, true, true, true, true, true, true] rfl rfl (any_of HT_.out (by kernel_rfl)) (fun _ _ _ h => h) (Or.inl ⟨by rfl, ?_⟩) ?_ ?_
       rotate_left
       ·intro w'
        go_simp
        with_reducible rfl
       rotate_left
       ·simp only [Act.put, List.setIfInBounds_toArray, List.set_cons_zero, List.set_cons_succ, i64_w, i32_w]
        rfl
       refine done_ (done_of HT_.out (by kernel_rfl)) ?_
       try go_wp2
       go_roundg k1
       case measure => have := HK1.out; omega
       case rel => exact ⟨(y196), (wrap64 (x8_1 + 1)), FR, H', ⟨by have := HK1.out; omega⟩, ⟨(RR HO198.out)⟩, ⟨(BB HB.out)⟩⟩
      ·rw [if_neg c10] at H
       exact absurd H (by simp)
     ·rw [if_neg c8] at H
      exact absurd H (by simp)
    ·rw [if_neg c7] at H
     exact absurd H (by simp)
   ·rw [if_neg c6] at H
    have c6b0 : decide (x8_1 < (l0.length : Int)) = false := decide_eq_false c6
    clear c6
    obtain rfl := Option.some.inj H
    go_wp2
    go_ret
    exact ⟨_, ER, by (with_reducible repeat (first | apply Kd.R_alloc | apply Kd.R_drewN | apply Kd.R_drew)); exact HO_7.out, (BB HB.out)⟩

end Go.Proofs.Ytahimindlnkmoaa.Pr

namespace Go.Proofs.Ytahimindlnkmoaa.Pr
open Go.RowKit Go.Proofs.YtahimindlnkmoaaW.PrintWords Go.Proofs.YtahimindlnkmoaaW.PrintLast Go.Proofs.YtahimindlnkmoaaW.PrintMore
attribute [local go_sem] max2_int min2_int max_two min_two max_three min_three max_four min_four
set_option linter.unusedVariables false
set_option linter.unusedSimpArgs false
mutual
def spec_InvM.j0 : Nat → List (List Int) → Bool → Option ((List (List Int)) × Bool)
 | 0, _, _ => none
 | k + 1, x0, x26 => if x26 = true then (some ((([] : List (List Int))), false)) else (spec_InvM.l0 k x0 (x0.length : Int) (([] : List (List Int))) 0)
def spec_InvM.l0 : Nat → List (List Int) → Int → List (List Int) → Int → Option ((List (List Int)) × Bool)
 | 0, _, _, _, _ => none
 | k + 1, x0, x4, x5, x6 => if x6 < x4 then ((some (([] : List Int) : List Int)).bind fun y207 => (if 0 ≤ x6 then (if x6 < (x0.length : Int) then (if y207.length + (rd_L9 x0 x6).length < 17592186044416 then (if x5.length < 5864062014805 then (spec_InvM.l0 k x0 x4 (x5 ++ [(y207 ++ (rd_L9 x0 x6))]) (wrap64 (x6 + 1))) else (none)) else (none)) else (none)) else (none))) else ((spec_OneM.f k x4).bind fun t217 => (spec_InvM.l1 k x4 x5 t217 0))
def spec_InvM.l1 : Nat → Int → List (List Int) → List (List Int) → Int → Option ((List (List Int)) × Bool)
 | 0, _, _, _, _ => none
 | k + 1, x4, x5, x7, x8 => if x8 < x4 then (spec_InvM.l2 k x4 x5 x7 x8 x8) else (some (x7, true))
def spec_InvM.j4 : Nat → Int → List (List Int) → List (List Int) → Int → Int → Option ((List (List Int)) × Bool)
 | 0, _, _, _, _, _ => none
 | k + 1, x4, x5, x7, x8, x9 => if x9 = x4 then (some ((([] : List (List Int))), false)) else (if 0 ≤ x9 then (if x9 < (x5.length : Int) then (if 0 ≤ x8 then (if x8 < (x5.length : Int) then ((some ((x5.set (x9 : Int).toNat (rd_L9 x5 x8)).set (x8 : Int).toNat (rd_L9 x5 x9) : List (List Int))).bind fun y228 => (if x9 < (x7.length : Int) then (if x8 < (x7.length : Int) then ((some ((x7.set (x9 : Int).toNat (rd_L9 x7 x8)).set (x8 : Int).toNat (rd_L9 x7 x9) : List (List Int))).bind fun y232 => (if x8 < ((rd_L9 y228 x8).length : Int) then ((spec_InvG.f k (rd (rd_L9 y228 x8) x8)).bind fun t235 => ((spec_l06Times.f k (rd_L9 y228 x8) t235).bind fun t237 => ((spec_l06Times.f k (rd_L9 y232 x8) t235).bind fun t242 => (spec_InvM.l3 k x4 (y228.set (x8 : Int).toNat t237) (y232.set (x8 : Int).toNat t242) x8 0)))) else (none))) else (none)) else (none))) else (none)) else (none)) else (none)) else (none))
def spec_InvM.l3 : Nat → Int → List (List Int) → List (List Int) → Int → Int → Option ((List (List Int)) × Bool)
 | 0, _, _, _, _, _ => none
 | k + 1, x4, x5, x7, x8, x13 => if x13 < x4 then (if x13 = x8 then (spec_InvM.j6 k x4 x5 x7 x8 x13 false) else (if 0 ≤ x13 then (if x13 < (x5.length : Int) then (if 0 ≤ x8 then (if x8 < ((rd_L9 x5 x13).length : Int) then (spec_InvM.j6 k x4 x5 x7 x8 x13 ((rd (rd_L9 x5 x13) x8) != 0)) else (none)) else (none)) else (none)) else (none))) else (spec_InvM.l1 k x4 x5 x7 (wrap64 (x8 + 1)))
def spec_InvM.j6 : Nat → Int → List (List Int) → List (List Int) → Int → Int → Bool → Option ((List (List Int)) × Bool)
 | 0, _, _, _, _, _, _ => none
 | k + 1, x4, x5, x7, x8, x13, x145 => if x145 = true then (if 0 ≤ x13 then (if x13 < (x5.length : Int) then (if 0 ≤ x8 then (if x8 < ((rd_L9 x5 x13).length : Int) then (if x8 < (x5.length : Int) then ((spec_l06Row.f k (rd_L9 x5 x13) (rd_L9 x5 x8) (rd (rd_L9 x5 x13) x8)).bind fun t252 => (if x13 < (x7.length : Int) then (if x8 < (x7.length : Int) then ((spec_l06Row.f k (rd_L9 x7 x13) (rd_L9 x7 x8) (rd (rd_L9 x5 x13) x8)).bind fun t258 => (spec_InvM.l3 k x4 (x5.set (x13 : Int).toNat t252) (x7.set (x13 : Int).toNat t258) x8 (wrap64 (x13 + 1)))) else (none)) else (none))) else (none)) else (none)) else (none)) else (none)) else (none)) else (spec_InvM.l3 k x4 x5 x7 x8 (wrap64 (x13 + 1)))
def spec_InvM.l2 : Nat → Int → List (List Int) → List (List Int) → Int → Int → Option ((List (List Int)) × Bool)
 | 0, _, _, _, _, _ => none
 | k + 1, x4, x5, x7, x8, x9 => if x9 < x4 then (if 0 ≤ x9 then (if x9 < (x5.length : Int) then (if 0 ≤ x8 then (if x8 < ((rd_L9 x5 x9).length : Int) then (if (rd (rd_L9 x5 x9) x8) = 0 then (spec_InvM.l2 k x4 x5 x7 x8 (wrap64 (x9 + 1))) else (spec_InvM.j4 k x4 x5 x7 x8 x9)) else (none)) else (none)) else (none)) else (none)) else (spec_InvM.j4 k x4 x5 x7 x8 x9)
end
def spec_InvM.f (k : Nat) (l0 : List (List Int)) : Option ((List (List Int)) × Bool) := (spec_MatrixOk.f k l0).bind fun t199 => (if t199 = true then (if 0 < (l0.length : Int) then (spec_InvM.j0 k l0 ((l0.length : Int) != ((rd_L9 l0 0).length : Int))) else (none)) else (spec_InvM.j0 k l0 true))
theorem spec_InvM.mono_l : ∀ k, (∀ y0 y1, LeO (spec_InvM.j0 k y0 y1) (spec_InvM.j0 (k + 1) y0 y1)) ∧ (∀ y0 y1 y2 y3, LeO (spec_InvM.l0 k y0 y1 y2 y3) (spec_InvM.l0 (k + 1) y0 y1 y2 y3)) ∧ (∀ y0 y1 y2 y3, LeO (spec_InvM.l1 k y0 y1 y2 y3) (spec_InvM.l1 (k + 1) y0 y1 y2 y3)) ∧ (∀ y0 y1 y2 y3 y4, LeO (spec_InvM.j4 k y0 y1 y2 y3 y4) (spec_InvM.j4 (k + 1) y0 y1 y2 y3 y4)) ∧ (∀ y0 y1 y2 y3 y4, LeO (spec_InvM.l3 k y0 y1 y2 y3 y4) (spec_InvM.l3 (k + 1) y0 y1 y2 y3 y4)) ∧ (∀ y0 y1 y2 y3 y4 y5, LeO (spec_InvM.j6 k y0 y1 y2 y3 y4 y5) (spec_InvM.j6 (k + 1) y0 y1 y2 y3 y4 y5)) ∧ (∀ y0 y1 y2 y3 y4, LeO (spec_InvM.l2 k y0 y1 y2 y3 y4) (spec_InvM.l2 (k + 1) y0 y1 y2 y3 y4))
 | 0 => ⟨fun _ _ r h => by simp [spec_InvM.j0] at h, fun _ _ _ _ r h => by simp [spec_InvM.l0] at h, fun _ _ _ _ r h => by simp [spec_InvM.l1] at h, fun _ _ _ _ _ r h => by simp [spec_InvM.j4] at h, fun _ _ _ _ _ r h => by simp [spec_InvM.l3] at h, fun _ _ _ _ _ _ r h => by simp [spec_InvM.j6] at h, fun _ _ _ _ _ r h => by simp [spec_InvM.l2] at h⟩
 | k + 1 => by
  obtain ⟨ih0, ih1, ih2, ih3, ih4, ih5, ih6⟩ := spec_InvM.mono_l k
  refine ⟨?_, ?_, ?_, ?_, ?_, ?_, ?_⟩
  ·intro y0 y1
   unfold spec_InvM.j0
   repeat' first
   | (with_reducible exact ih0 _ _)
   | (with_reducible exact ih1 _ _ _ _)
   | (with_reducible exact ih2 _ _ _ _)
   | (with_reducible exact ih3 _ _ _ _ _)
   | (with_reducible exact ih4 _ _ _ _ _)
   | (with_reducible exact ih5 _ _ _ _ _ _)
   | (with_reducible exact ih6 _ _ _ _ _)
   | (with_reducible exact spec_InvG.mono _ _)
   | (with_reducible exact spec_MatrixOk.mono _ _)
   | (with_reducible exact spec_OneM.mono _ _)
   | (with_reducible exact spec_l06Row.mono _ _ _ _)
   | (with_reducible exact spec_l06Times.mono _ _ _)
   | (with_reducible exact LeO.refl _)
   | (with_reducible exact LeO.none _)
   | (with_reducible refine LeO.ite ?_ ?_)
   | (with_reducible refine LeO.bind ?_ (fun _ => ?_))
   | exact ih0 _ _
   | exact ih1 _ _ _ _
   | exact ih2 _ _ _ _
   | exact ih3 _ _ _ _ _
   | exact ih4 _ _ _ _ _
   | exact ih5 _ _ _ _ _ _
   | exact ih6 _ _ _ _ _
   | exact spec_InvG.mono _ _
   | exact spec_MatrixOk.mono _ _
   | exact spec_OneM.mono _ _
   | exact spec_l06Row.mono _ _ _ _
   | exact spec_l06Times.mono _ _ _
   | exact LeO.none _
   | refine LeO.ite ?_ ?_
   | refine LeO.bind ?_ (fun _ => ?_)
  ·intro y0 y1 y2 y3
   unfold spec_InvM.l0
   repeat' first
   | (with_reducible exact ih0 _ _)
   | (with_reducible exact ih1 _ _ _ _)
   | (with_reducible exact ih2 _ _ _ _)
   | (with_reducible exact ih3 _ _ _ _ _)
   | (with_reducible exact ih4 _ _ _ _ _)
   | (with_reducible exact ih5 _ _ _ _ _ _)
   | (with_reducible exact ih6 _ _ _ _ _)
   | (with_reducible exact spec_InvG.mono _ _)
   | (with_reducible exact spec_MatrixOk.mono _ _)
   | (with_reducible exact spec_OneM.mono _ _)
   | (with_reducible exact spec_l06Row.mono _ _ _ _)
   | (with_reducible exact spec_l06Times.mono _ _ _)
   | (with_reducible exact LeO.refl _)
   | (with_reducible exact LeO.none _)
   | (with_reducible refine LeO.ite ?_ ?_)
   | (with_reducible refine LeO.bind ?_ (fun _ => ?_))
   | exact ih0 _ _
   | exact ih1 _ _ _ _
   | exact ih2 _ _ _ _
   | exact ih3 _ _ _ _ _
   | exact ih4 _ _ _ _ _
   | exact ih5 _ _ _ _ _ _
   | exact ih6 _ _ _ _ _
   | exact spec_InvG.mono _ _
   | exact spec_MatrixOk.mono _ _
   | exact spec_OneM.mono _ _
   | exact spec_l06Row.mono _ _ _ _
   | exact spec_l06Times.mono _ _ _
   | exact LeO.none _
   | refine LeO.ite ?_ ?_
   | refine LeO.bind ?_ (fun _ => ?_)
  ·intro y0 y1 y2 y3
   unfold spec_InvM.l1
   repeat' first
   | (with_reducible exact ih0 _ _)
   | (with_reducible exact ih1 _ _ _ _)
   | (with_reducible exact ih2 _ _ _ _)
   | (with_reducible exact ih3 _ _ _ _ _)
   | (with_reducible exact ih4 _ _ _ _ _)
   | (with_reducible exact ih5 _ _ _ _ _ _)
   | (with_reducible exact ih6 _ _ _ _ _)
   | (with_reducible exact spec_InvG.mono _ _)
   | (with_reducible exact spec_MatrixOk.mono _ _)
   | (with_reducible exact spec_OneM.mono _ _)
   | (with_reducible exact spec_l06Row.mono _ _ _ _)
   | (with_reducible exact spec_l06Times.mono _ _ _)
   | (with_reducible exact LeO.refl _)
   | (with_reducible exact LeO.none _)
   | (with_reducible refine LeO.ite ?_ ?_)
   | (with_reducible refine LeO.bind ?_ (fun _ => ?_))
   | exact ih0 _ _
   | exact ih1 _ _ _ _
   | exact ih2 _ _ _ _
   | exact ih3 _ _ _ _ _
   | exact ih4 _ _ _ _ _
   | exact ih5 _ _ _ _ _ _
   | exact ih6 _ _ _ _ _
   | exact spec_InvG.mono _ _
   | exact spec_MatrixOk.mono _ _
   | exact spec_OneM.mono _ _
   | exact spec_l06Row.mono _ _ _ _
   | exact spec_l06Times.mono _ _ _
   | exact LeO.none _
   | refine LeO.ite ?_ ?_
   | refine LeO.bind ?_ (fun _ => ?_)
  ·intro y0 y1 y2 y3 y4
   unfold spec_InvM.j4
   repeat' first
   | (with_reducible exact ih0 _ _)
   | (with_reducible exact ih1 _ _ _ _)
   | (with_reducible exact ih2 _ _ _ _)
   | (with_reducible exact ih3 _ _ _ _ _)
   | (with_reducible exact ih4 _ _ _ _ _)
   | (with_reducible exact ih5 _ _ _ _ _ _)
   | (with_reducible exact ih6 _ _ _ _ _)
   | (with_reducible exact spec_InvG.mono _ _)
   | (with_reducible exact spec_MatrixOk.mono _ _)
   | (with_reducible exact spec_OneM.mono _ _)
   | (with_reducible exact spec_l06Row.mono _ _ _ _)
   | (with_reducible exact spec_l06Times.mono _ _ _)
   | (with_reducible exact LeO.refl _)
   | (with_reducible exact LeO.none _)
   | (with_reducible refine LeO.ite ?_ ?_)
   | (with_reducible refine LeO.bind ?_ (fun _ => ?_))
   | exact ih0 _ _
   | exact ih1 _ _ _ _
   | exact ih2 _ _ _ _
   | exact ih3 _ _ _ _ _
   | exact ih4 _ _ _ _ _
   | exact ih5 _ _ _ _ _ _
   | exact ih6 _ _ _ _ _
   | exact spec_InvG.mono _ _
   | exact spec_MatrixOk.mono _ _
   | exact spec_OneM.mono _ _
   | exact spec_l06Row.mono _ _ _ _
   | exact spec_l06Times.mono _ _ _
   | exact LeO.none _
   | refine LeO.ite ?_ ?_
   | refine LeO.bind ?_ (fun _ => ?_)
  ·intro y0 y1 y2 y3 y4
   unfold spec_InvM.l3
   repeat' first
   | (with_reducible exact ih0 _ _)
   | (with_reducible exact ih1 _ _ _ _)
   | (with_reducible exact ih2 _ _ _ _)
   | (with_reducible exact ih3 _ _ _ _ _)
   | (with_reducible exact ih4 _ _ _ _ _)
   | (with_reducible exact ih5 _ _ _ _ _ _)
   | (with_reducible exact ih6 _ _ _ _ _)
   | (with_reducible exact spec_InvG.mono _ _)
   | (with_reducible exact spec_MatrixOk.mono _ _)
   | (with_reducible exact spec_OneM.mono _ _)
   | (with_reducible exact spec_l06Row.mono _ _ _ _)
   | (with_reducible exact spec_l06Times.mono _ _ _)
   | (with_reducible exact LeO.refl _)
   | (with_reducible exact LeO.none _)
   | (with_reducible refine LeO.ite ?_ ?_)
   | (with_reducible refine LeO.bind ?_ (fun _ => ?_))
   | exact ih0 _ _
   | exact ih1 _ _ _ _
   | exact ih2 _ _ _ _
   | exact ih3 _ _ _ _ _
   | exact ih4 _ _ _ _ _
   | exact ih5 _ _ _ _ _ _
   | exact ih6 _ _ _ _ _
   | exact spec_InvG.mono _ _
   | exact spec_MatrixOk.mono _ _
   | exact spec_OneM.mono _ _
   | exact spec_l06Row.mono _ _ _ _
   | exact spec_l06Times.mono _ _ _
   | exact LeO.none _
   | refine LeO.ite ?_ ?_
   | refine LeO.bind ?_ (fun _ => ?_)
  ·intro y0 y1 y2 y3 y4 y5
   unfold spec_InvM.j6
   repeat' first
   | (with_reducible exact ih0 _ _)
   | (with_reducible exact ih1 _ _ _ _)
   | (with_reducible exact ih2 _ _ _ _)
   | (with_reducible exact ih3 _ _ _ _ _)
   | (with_reducible exact ih4 _ _ _ _ _)
   | (with_reducible exact ih5 _ _ _ _ _ _)
   | (with_reducible exact ih6 _ _ _ _ _)
   | (with_reducible exact spec_InvG.mono _ _)
   | (with_reducible exact spec_MatrixOk.mono _ _)
   | (with_reducible exact spec_OneM.mono _ _)
   | (with_reducible exact spec_l06Row.mono _ _ _ _)
   | (with_reducible exact spec_l06Times.mono _ _ _)
   | (with_reducible exact LeO.refl _)
   | (with_reducible exact LeO.none _)
   | (with_reducible refine LeO.ite ?_ ?_)
   | (with_reducible refine LeO.bind ?_ (fun _ => ?_))
   | exact ih0 _ _
   | exact ih1 _ _ _ _
   | exact ih2 _ _ _ _
   | exact ih3 _ _ _ _ _
   | exact ih4 _ _ _ _ _
   | exact ih5 _ _ _ _ _ _
   | exact ih6 _ _ _ _ _
   | exact spec_InvG.mono _ _
   | exact spec_MatrixOk.mono _ _
   | exact spec_OneM.mono _ _
   | exact spec_l06Row.mono _ _ _ _
   | exact spec_l06Times.mono _ _ _
   | exact LeO.none _
   | refine LeO.ite ?_ ?_
   | refine LeO.bind ?_ (fun _ => ?_)
  ·intro y0 y1 y2 y3 y4
   unfold spec_InvM.l2
   repeat' first
   | (with_reducible exact ih0 _ _)
   | (with_reducible exact ih1 _ _ _ _)
   | (with_reducible exact ih2 _ _ _ _)
   | (with_reducible exact ih3 _ _ _ _ _)
   | (with_reducible exact ih4 _ _ _ _ _)
   | (with_reducible exact ih5 _ _ _ _ _ _)
   | (with_reducible exact ih6 _ _ _ _ _)
   | (with_reducible exact spec_InvG.mono _ _)
   | (with_reducible exact spec_MatrixOk.mono _ _)
   | (with_reducible exact spec_OneM.mono _ _)
   | (with_reducible exact spec_l06Row.mono _ _ _ _)
   | (with_reducible exact spec_l06Times.mono _ _ _)
   | (with_reducible exact LeO.refl _)
   | (with_reducible exact LeO.none _)
   | (with_reducible refine LeO.ite ?_ ?_)
   | (with_reducible refine LeO.bind ?_ (fun _ => ?_))
   | exact ih0 _ _
   | exact ih1 _ _ _ _
   | exact ih2 _ _ _ _
   | exact ih3 _ _ _ _ _
   | exact ih4 _ _ _ _ _
   | exact ih5 _ _ _ _ _ _
   | exact ih6 _ _ _ _ _
   | exact spec_InvG.mono _ _
   | exact spec_MatrixOk.mono _ _
   | exact spec_OneM.mono _ _
   | exact spec_l06Row.mono _ _ _ _
   | exact spec_l06Times.mono _ _ _
   | exact LeO.none _
   | refine LeO.ite ?_ ?_
   | refine LeO.bind ?_ (fun _ => ?_)
theorem spec_InvM.mono : ∀ a0 k, LeO (spec_InvM.f k a0) (spec_InvM.f (k + 1) a0) := by
 intro a0 k
 obtain ⟨ih0, ih1, ih2, ih3, ih4, ih5, ih6⟩ := spec_InvM.mono_l k
 unfold spec_InvM.f
 repeat' first
   | (with_reducible exact ih0 _ _)
   | (with_reducible exact ih1 _ _ _ _)
   | (with_reducible exact ih2 _ _ _ _)
   | (with_reducible exact ih3 _ _ _ _ _)
   | (with_reducible exact ih4 _ _ _ _ _)
   | (with_reducible exact ih5 _ _ _ _ _ _)
   | (with_reducible exact ih6 _ _ _ _ _)
   | (with_reducible exact spec_InvG.mono _ _)
   | (with_reducible exact spec_MatrixOk.mono _ _)
   | (with_reducible exact spec_OneM.mono _ _)
   | (with_reducible exact spec_l06Row.mono _ _ _ _)
   | (with_reducible exact spec_l06Times.mono _ _ _)
   | (with_reducible exact LeO.refl _)
   | (with_reducible exact LeO.none _)
   | (with_reducible refine LeO.ite ?_ ?_)
   | (with_reducible refine LeO.bind ?_ (fun _ => ?_))
   | exact ih0 _ _
   | exact ih1 _ _ _ _
   | exact ih2 _ _ _ _
   | exact ih3 _ _ _ _ _
   | exact ih4 _ _ _ _ _
   | exact ih5 _ _ _ _ _ _
   | exact ih6 _ _ _ _ _
   | exact spec_InvG.mono _ _
   | exact spec_MatrixOk.mono _ _
   | exact spec_OneM.mono _ _
   | exact spec_l06Row.mono _ _ _ _
   | exact spec_l06Times.mono _ _ _
   | exact LeO.none _
   | refine LeO.ite ?_ ?_
   | refine LeO.bind ?_ (fun _ => ?_)
def spec_InvM.T32 : Bool × List (List Nat × List Nat) := (true, [([], []), ([], []), ([], []), ([], []), ([2, 3], [2, 3]), ([4], [4]), ([], []), ([], []), ([6, 7], [6, 7]), ([8], [8]), ([], []), ([5, 9, 10], [5, 9, 10]), ([0, 1, 0, 1, 2, 3, 4, 5, 6, 7, 8, 9, 10, 11], [0, 1]), ([12, 11, 11, 0, 1, 2, 3, 4, 5, 6, 7, 8, 9, 10, 11], [11, 12])])
def spec_InvM.B32 : List Nat := [0, 0, 0, 0, 12, 28, 0, 0, 192, 448, 0, 2044, 4095, 8191]
theorem spec_InvM.tab32 : rtab .any (opsOf Try.f22 32) = spec_InvM.T32 := by kernel_rfl
theorem spec_InvM.bits32 : waitsOk spec_InvM.T32.2 spec_InvM.B32 = true := by kernel_rfl
def spec_InvM.T33 : Bool × List (List Nat × List Nat) := (true, [([], []), ([], []), ([], []), ([], []), ([2, 3], [2, 3]), ([4], [4]), ([], []), ([], []), ([6, 7], [6, 7]), ([8], [8]), ([], []), ([5, 9, 10], [5, 9, 10]), ([0, 1, 0, 1, 2, 3, 4, 5, 6, 7, 8, 9, 10, 11], [0, 1]), ([12, 11, 11, 0, 1, 2, 3, 4, 5, 6, 7, 8, 9, 10, 11], [11, 12])])
def spec_InvM.B33 : List Nat := [0, 0, 0, 0, 12, 28, 0, 0, 192, 448, 0, 2044, 4095, 8191]
theorem spec_InvM.tab33 : rtab .any (opsOf Try.f22 33) = spec_InvM.T33 := by kernel_rfl
theorem spec_InvM.bits33 : waitsOk spec_InvM.T33.2 spec_InvM.B33 = true := by kernel_rfl
set_option maxHeartbeats 8000000 in
set_option maxRecDepth 100000 in
theorem spec_InvM.calls (k : Nat) (A0 : Option Addr) (c0 : Nat) (l0 : List (List Int)) (r1 : List (List Int)) (r2 : Bool) (w : World) (hr0 : Kd.C (Kd.slice 3 (Kd.int .i64)) w A0 l0.length l0) (hc0 : l0.length ≤ c0) (h : spec_InvM.f k l0 = some (r1, r2)) :
  Calls Try.prog 22 #[.slice A0 l0.length c0] w fun e w' => ∃ v0_ : Value, e = .returned (.tuple #[v0_, .bool r2]) ∧ Kd.N (Kd.slice 3 (Kd.int .i64)) 52 w' w.heap.size (fun k_ => (w.heap.size ≤ k_)) v0_ r1 ∧ Below w.heap.size w w' := by
 have HR0 := Aside0.mk hr0
 have HC0 := Aside0.mk hc0
 clear hr0 hc0
 have HB := Aside0.mk (Below.refl w.heap.size w)
 have H : ((spec_MatrixOk.f k l0).bind fun t199 => (if t199 = true then (if 0 < (l0.length : Int) then (spec_InvM.j0 k l0 ((l0.length : Int) != ((rd_L9 l0 0).length : Int))) else (none)) else (spec_InvM.j0 k l0 true))) = some (r1, r2) := h
 clear h
 have HC2 := Aside0.mk H
 clear H
 go_enter Try.func22, Try.ntmps22
 go_upto_region 1 with (fail)
 go_cut [26] (fun v26 wc => ∃ (kq : Nat) (x26_1 : Bool), v26 = .bool x26_1 ∧ Aside0 (spec_InvM.j0 kq l0 x26_1 = some (r1, r2)) ∧ Aside0 (kq ≤ k) ∧ Aside0 (Below w.heap.size w wc))
 case first =>
  have H := HC2.out
  clear HC2
  replace H := Option.bind_eq_some_iff.mp H
  obtain ⟨t199, A30, H⟩ := H
  replace H : (if t199 = true then (if 0 < (l0.length : Int) then (spec_InvM.j0 k l0 ((l0.length : Int) != ((rd_L9 l0 0).length : Int))) else (none)) else (spec_InvM.j0 k l0 true)) = some (r1, r2) := H
  have A3 := Aside0.mk A30
  clear A30
  by_cases c4 : t199 = true
  ·subst c4
   have H1 : (if 0 < (l0.length : Int) then (spec_InvM.j0 k l0 ((l0.length : Int) != ((rd_L9 l0 0).length : Int))) else (none)) = some (r1, r2) := by rw [if_pos rfl] at H; exact H
   clear H
   have H := H1
   clear H1
   by_cases c5 : 0 < (l0.length : Int)
   ·rw [if_pos c5] at H
    have c5b0 : decide (0 < (l0.length : Int)) = true := decide_eq_true c5
    have c5b1 : decide (0 < l0.length) = true := decide_eq_true (by omega)
    clear c5
    (first | rw [c5b0] | (simp only [i64_w, i32_w]; rw [c5b0]) | skip)
    have H' := Aside0.mk H
    clear H
    go_wp2_with (first | ((with_reducible refine gate_callee (f := 42) rfl ?_); refine GL (some 16) rfl rfl Try.func42 #[.slice A0 l0.length c0] rfl ?_; (with_reducible refine (spec_MatrixOk.calls k _ _ l0 true _ ?side1 ?side2 A3.out).mono ?_); (case side1 => exact CC (Kd.C_below HR0.out HB.out)); (case side2 => exact HC0.out); rintro e w' ⟨rfl, ⟨nd, rfl⟩⟩; refine ⟨_, rfl, ?_⟩; have p200 : 0 ≤ (0 : Int) := (by omega); have q200 : 0 < (l0.length : Int) := DT; obtain ⟨ad200, A200_0, c200_0, e200, hx200_0, hl200_0, hi200_0⟩ := at_L9 HR0.out 0 p200 q200; cases e200; have qi200 : (0 < l0.length) = True := eq_true (by omega); (try rw [show ((0 : Int)).toNat = 0 from rfl] at hx200_0); (try rw [Addr.add_zero'] at hx200_0); replace hx200_0 := (HB.out.cell (World.block_lt_of_cell? w _ hx200_0)).trans hx200_0; have HR200_0 := Aside0.mk hi200_0; have HC200_0 := Aside0.mk hl200_0; clear hi200_0 hl200_0; replace p200 := eq_true p200; replace q200 := eq_true q200))
    go_meet
    case rel => exact ⟨_, (((l0.length : Int) != ((rd_L9 l0 0).length : Int))), FR, H', ⟨by first | omega | exact Nat.le_refl _⟩, ⟨(BB HB.out)⟩⟩
   ·rw [if_neg c5] at H
    exact absurd H (by simp)
  ·replace c4 := Bool.eq_false_iff.mpr c4
   subst c4
   have H1 : (spec_InvM.j0 k l0 true) = some (r1, r2) := by rw [if_neg (show ¬ (false = true) by decide)] at H; exact H
   clear H
   have H := H1
   clear H1
   have H' := Aside0.mk H
   clear H
   go_wp2_with (first | ((with_reducible refine gate_callee (f := 42) rfl ?_); refine GL (some 16) rfl rfl Try.func42 #[.slice A0 l0.length c0] rfl ?_; (with_reducible refine (spec_MatrixOk.calls k _ _ l0 false _ ?side1 ?side2 A3.out).mono ?_); (case side1 => exact CC (Kd.C_below HR0.out HB.out)); (case side2 => exact HC0.out); rintro e w' ⟨rfl, ⟨nd, rfl⟩⟩; refine ⟨_, rfl, ?_⟩))
   go_meet
   case rel => exact ⟨_, (true), FR, H', ⟨by first | omega | exact Nat.le_refl _⟩, ⟨(BB HB.out)⟩⟩
 case rest =>
  clear HC2
  try clear c2
  try clear p2
  try clear q2
  try clear hx2
  try clear qi2
  try clear c4
  try clear c5
  try clear c5b0
  try clear c5b1
  try clear hx200_0
  try clear p200
  try clear q200
  obtain ⟨kq, x26_1, rfl, HA, HJ1, HB⟩ := hcut
  cases kq with
  | zero => exact absurd HA.out (by simp [spec_InvM.j0])
  | succ kj1 =>
   have H := HA.out
   clear HA
   simp only [spec_InvM.j0] at H
   by_cases c6 : x26_1 = true
   ·subst c6
    have H1 : (some ((([] : List (List Int))), false)) = some (r1, r2) := by rw [if_pos rfl] at H; exact H
    clear H
    have H := H1
    clear H1
    obtain ⟨y201, hy201⟩ : ∃ y_ : List (List Int), y_ = (([] : List (List Int))) := ⟨_, rfl⟩
    replace H : (some (y201, false)) = some (r1, r2) := by first | (rw [hy201]; with_reducible exact H) | (have H2_ := (Option.bind_some _ _).symm.trans H; rw [hy201]; with_reducible exact H2_) | (have H2_ := (Option.bind_some _ _).symm.trans H; with_reducible exact H2_) | with_reducible exact H | (rw [hy201]; exact H) | exact H
    have Ny201 := Aside0.mk hy201
    clear hy201
    simp only [Option.some.injEq, Prod.mk.injEq] at H
    obtain ⟨rfl, rfl⟩ := H
    go_wp2_with (first | ((with_reducible refine gate_dst (N := 27) rfl ?_); (try (refine gate_guard (by rfl) ?_; dsimp only)); refine Kd.N_lit (Kd.slice 3 (Kd.int .i64)) _ 52 ?hg (N' := 27) ?hd (xs := ([] : List (List Int))) (inner := []) (ok := (fun k_ => (w.heap.size ≤ k_))) (okp := (fun k_ => (w.heap.size ≤ k_))) ?hr ?hp (fun _ hk => hk) ((show ∀ k_, wc.heap.size ≤ k_ → (fun k_ => (w.heap.size ≤ k_)) k_ from fun k_ hk => (Nat.le_trans (below_size (BB HB.out)) hk)) _ (Nat.le_refl _)) (Below.refl _ _) (Nat.le_refl _) (by simp) ?_; (case hd => rfl); (case hg => rfl); (case hr => first | (go_simp; done) | (go_simp; rfl)); (case hp => exact (Reps.none _ _)); intro v202 w7 ho8 hb hg_ hnew_; clear hg_ hnew_; (first | rw [← Ny201.out] at ho8 | (simp only [Int.reduceToNat] at ho8; rw [← Ny201.out] at ho8)); have HO203 := Aside0.mk (Kd.N_lower ho8 (below_size (BB HB.out))); replace HB := Aside0.mk (below_step (BB HB.out) hb); clear hb ho8))
    go_ret2
    exact ⟨_, ER, by (with_reducible repeat (first | apply Kd.N_alloc | apply Kd.N_drewN | apply Kd.N_drew)); exact HO203.out, (BB HB.out)⟩
   ·replace c6 := Bool.eq_false_iff.mpr c6
    subst c6
    have H1 : (spec_InvM.l0 kj1 l0 (l0.length : Int) (([] : List (List Int))) 0) = some (r1, r2) := by rw [if_neg (show ¬ (false = true) by decide)] at H; exact H
    clear H
    have H := H1
    clear H1
    obtain ⟨y204, hy204⟩ : ∃ y_ : List (List Int), y_ = (([] : List (List Int))) := ⟨_, rfl⟩
    replace H : (spec_InvM.l0 kj1 l0 (l0.length : Int) y204 0) = some (r1, r2) := by first | (rw [hy204]; with_reducible exact H) | (have H2_ := (Option.bind_some _ _).symm.trans H; rw [hy204]; with_reducible exact H2_) | (have H2_ := (Option.bind_some _ _).symm.trans H; with_reducible exact H2_) | with_reducible exact H | (rw [hy204]; exact H) | exact H
    have Ny204 := Aside0.mk hy204
    clear hy204
    have H' := Aside0.mk H
    clear H
    go_wp2_with (first | ((with_reducible refine gate_dst (N := 30) rfl ?_); (try (refine gate_guard (by rfl) ?_; dsimp only)); refine Kd.N_lit (Kd.slice 3 (Kd.int .i64)) _ 52 ?hg (N' := 30) ?hd (xs := ([] : List (List Int))) (inner := []) (ok := (fun k_ => (w.heap.size ≤ k_))) (okp := (fun k_ => (w.heap.size ≤ k_))) ?hr ?hp (fun _ hk => hk) ((show ∀ k_, wc.heap.size ≤ k_ → (fun k_ => (w.heap.size ≤ k_)) k_ from fun k_ hk => (Nat.le_trans (below_size (BB HB.out)) hk)) _ (Nat.le_refl _)) (Below.refl _ _) (Nat.le_refl _) (by simp) ?_; (case hd => rfl); (case hg => rfl); (case hr => first | (go_simp; done) | (go_simp; rfl)); (case hp => exact (Reps.none _ _)); intro v205 w9 ho10 hb hg_ hnew_; clear hg_ hnew_; (first | rw [← Ny204.out] at ho10 | (simp only [Int.reduceToNat] at ho10; rw [← Ny204.out] at ho10)); have HO206 := Aside0.mk (Kd.N_lower ho10 (below_size (BB HB.out))); replace HB := Aside0.mk (below_step (BB HB.out) hb); clear hb ho10))
    go_loopg [5, 6] kj1 (fun kq v5 v6 w' => ∃ (x5_2 : List (List Int)) (x6_2 : Int), v6 = .int .i64 x6_2 ∧ Aside0 (spec_InvM.l0 kq l0 (l0.length : Int) x5_2 x6_2 = some (r1, r2)) ∧ Aside0 (kq ≤ kj1) ∧ Aside0 (Kd.N (Kd.slice 3 (Kd.int .i64)) 52 w' w.heap.size (fun k_ => (w.heap.size ≤ k_)) v5 x5_2) ∧ Aside0 (Below w.heap.size w w'))
    case atStart => exact ⟨(y204), (0), FR, H', ⟨Nat.le_refl _⟩, ⟨by (with_reducible repeat (first | apply Kd.N_alloc | apply Kd.N_drewN | apply Kd.N_drew)); exact HO206.out⟩, ⟨(BB HB.out)⟩⟩
    case round =>
     clear H'
     try clear c2
     try clear p2
     try clear q2
     try clear hx2
     try clear qi2
     try clear c4
     try clear c5
     try clear c5b0
     try clear c5b1
     try clear c6
     try clear hx200_0
     try clear p2
     try clear p200
     try clear q2
     try clear q200
     obtain ⟨x5_2, x6_2, rfl, HA, HK2, HO_5, HB⟩ := hrel
     cases gk with
     | zero => exact absurd HA.out (by simp [spec_InvM.l0])
     | succ k2 =>
      have H := HA.out
      clear HA
      simp only [spec_InvM.l0] at H
      by_cases c11 : x6_2 < (l0.length : Int)
      ·rw [if_pos c11] at H
       have c11b0 : decide (x6_2 < (l0.length : Int)) = true := decide_eq_true c11
       clear c11
       obtain ⟨y207, hy207⟩ : ∃ y_ : List Int, y_ = (([] : List Int)) := ⟨_, rfl⟩
       replace H : (if 0 ≤ x6_2 then (if x6_2 < (l0.length : Int) then (if y207.length + (rd_L9 l0 x6_2).length < 17592186044416 then (if x5_2.length < 5864062014805 then (spec_InvM.l0 k2 l0 (l0.length : Int) (x5_2 ++ [(y207 ++ (rd_L9 l0 x6_2))]) (wrap64 (x6_2 + 1))) else (none)) else (none)) else (none)) else (none)) = some (r1, r2) := by first | (rw [hy207]; with_reducible exact H) | (have H2_ := (Option.bind_some _ _).symm.trans H; rw [hy207]; with_reducible exact H2_) | (have H2_ := (Option.bind_some _ _).symm.trans H; with_reducible exact H2_) | with_reducible exact H | (rw [hy207]; exact H) | exact H
       have Ny207 := Aside0.mk hy207
       clear hy207
       by_cases c12 : 0 ≤ x6_2
       ·rw [if_pos c12] at H
        have c12b0 : decide (0 ≤ x6_2) = true := decide_eq_true c12
        clear c12
        by_cases c13 : x6_2 < (l0.length : Int)
        ·rw [if_pos c13] at H
         have c13b0 : decide (x6_2 < (l0.length : Int)) = true := decide_eq_true c13
         clear c13
         by_cases c14 : y207.length + (rd_L9 l0 x6_2).length < 17592186044416
         ·rw [if_pos c14] at H
          have LMc14 := Aside0.mk c14
          clear c14
          obtain ⟨y211, hy211⟩ : ∃ y_ : List Int, y_ = (y207 ++ (rd_L9 l0 x6_2)) := ⟨_, rfl⟩
          replace H : (if x5_2.length < 5864062014805 then (spec_InvM.l0 k2 l0 (l0.length : Int) (x5_2 ++ [y211]) (wrap64 (x6_2 + 1))) else (none)) = some (r1, r2) := by first | (rw [hy211]; with_reducible exact H) | (have H2_ := (Option.bind_some _ _).symm.trans H; rw [hy211]; with_reducible exact H2_) | (have H2_ := (Option.bind_some _ _).symm.trans H; with_reducible exact H2_) | with_reducible exact H | (rw [hy211]; exact H) | exact H
          have Ny211 := Aside0.mk hy211
          clear hy211
          by_cases c15 : x5_2.length < 5864062014805
          ·rw [if_pos c15] at H
           have LMc15 := Aside0.mk c15
           clear c15
           obtain ⟨y214, hy214⟩ : ∃ y_ : List (List Int), y_ = (x5_2 ++ [y211]) := ⟨_, rfl⟩
           replace H : (spec_InvM.l0 k2 l0 (l0.length : Int) y214 (wrap64 (x6_2 + 1))) = some (r1, r2) := by first | (rw [hy214]; with_reducible exact H) | (have H2_ := (Option.bind_some _ _).symm.trans H; rw [hy214]; with_reducible exact H2_) | (have H2_ := (Option.bind_some _ _).symm.trans H; with_reducible exact H2_) | with_reducible exact H | (rw [hy214]; exact H) | exact H
           have Ny214 := Aside0.mk hy214
           clear hy214
           have H' := Aside0.mk H
           clear H
           go_wp2_with (first | ((with_reducible refine gate_dst (N := 37) rfl ?_); (try (refine gate_guard (by rfl) ?_; dsimp only)); refine Kd.R_lit (Kd.int .i64) _ 3 ?hg (N := 37) ?hd (xs := ([] : List Int)) (inner := []) (ok := fun _ => True) (okp := fun _ => True) ?hr ?hp (fun _ hk => hk) trivial (Below.refl _ _) (Nat.le_refl _) (by simp) ?_; (case hd => rfl); (case hg => rfl); (case hr => first | (go_simp; done) | (go_simp; rfl)); (case hp => exact (Reps.none _ _)); intro v208 w16 ho17 hb hg_ hnew_; clear hg_ hnew_; (first | rw [← Ny207.out] at ho17 | (simp only [Int.reduceToNat] at ho17; rw [← Ny207.out] at ho17)); have n0_ := Aside0.mk (Kd.N_elder' (by (with_reducible repeat (first | apply Kd.N_alloc | apply Kd.N_drewN | apply Kd.N_drew)); exact HO_5.out) (Kd.R_base ho17) hb); have n1_ := Aside0.mk (Kd.R_lower (Kd.R_newM (M := fun k_ => (w.heap.size ≤ k_)) ho17 (below_size (BB HB.out)) (fun k_ h_ => h_)) (below_size (BB HB.out))); have n2_ := Aside0.mk (below_step (BB HB.out) hb); clear HO_5; clear HB; have HO_5 := n0_; have HO209 := n1_; have HB := n2_; clear n0_ n1_ n2_; clear hb ho17; have p210 : 0 ≤ (x6_2 : Int) := DT; have q210 : x6_2 < (l0.length : Int) := DT; obtain ⟨ad210, A210_0, c210_0, e210, hx210_0, hl210_0, hi210_0⟩ := at_L9 HR0.out x6_2 p210 q210; cases e210; replace hx210_0 := (HB.out.cell (World.block_lt_of_cell? w _ hx210_0)).trans hx210_0; have HR210_0 := Aside0.mk hi210_0; have HC210_0 := Aside0.mk hl210_0; clear hi210_0 hl210_0; replace p210 := eq_true p210; replace q210 := eq_true q210) | ((with_reducible refine gate_builtin (b := .append) (xs := #[.tmp 37, .tmp 41]) rfl ?_); (try (refine gate_guard (by rfl) ?_; dsimp only)); at_builtin; refine Kd.R_append_rows (Kd.int .i64) (w0 := w) w.heap.size rfl (.tmp 37) (.tmp 41) 52 3 (.int .i64 0) 8 rfl Try.underlying52 info3 rfl (by decide) (by omega) v208 y207 (rd_L9 l0 x6_2) _ _ _ (fun k_ => (w.heap.size ≤ k_)) (fun _ => False) rfl rfl ?aO ?aR (fun _ _ h => h) (fun _ h => h.elim) ?aF ?aB ?aS ?aL ?_; (case aR => exact CC (Kd.C_below HR210_0.out HB.out)); (case aB => exact (BB HB.out)); (case aF => exact (fun k_ hk => (Nat.le_trans (below_size (BB HB.out)) hk))); (case aO => exact (by (with_reducible repeat (first | apply Kd.R_alloc | apply Kd.R_drewN | apply Kd.R_drew)); exact Kd.R_mono HO209.out (fun _ hk => hk.1))); (case aS => exact (below_size (BB HB.out))); (case aL => have := LMc14.out; omega); intro v212 w18 ho hb hg hat; rw [← Ny211.out] at ho; have n0_ := Aside0.mk (Kd.N_afterv (ok := (fun k_ => (w.heap.size ≤ k_))) (by (with_reducible repeat (first | apply Kd.N_alloc | apply Kd.N_drewN | apply Kd.N_drew)); exact HO_5.out) hg hat); have n1_ := Aside0.mk (hb); have n2_ := Aside0.mk (ho); clear HO_5; clear HB; clear HO209; have HO_5 := n0_; have HB := n1_; have HO213 := n2_; clear n0_ n1_ n2_; clear ho hb hg hat; obtain ⟨Ao20, co20, eo20⟩ := Kd.R_slice HO213.out; subst eo20) | ((with_reducible refine gate_builtin (b := .append) (xs := #[.tmp 36, .tmp 43]) rfl ?_); (try (refine gate_guard (by rfl) ?_; dsimp only)); at_builtin; refine Kd.N_append (Kd.slice 3 (Kd.int .i64)) (w0 := w) w.heap.size rfl (.tmp 36) (.tmp 43) 50 52 (.slice none 0 0) 24 rfl Try.underlying50 info52 rfl (by decide) (by omega) u5 x5_2 y211 [.slice Ao20 y211.length co20] (fun k_ => (w.heap.size ≤ k_)) (fun k_ => ((fun k_ => (w.heap.size ≤ k_))) k_ ∧ some k_ ≠ (u5 : Value).ownBlock) rfl rfl ?aP (fun _ hk => hk) ?aF ?aO ?aB ?aS ?aL ?_; (case aP => exact (fk_of_R (Kd.R_mono (ok' := (fun k_ => ((fun k_ => (w.heap.size ≤ k_))) k_ ∧ some k_ ≠ (u5 : Value).ownBlock)) (Kd.R_apart' (HO213.out) (Kd.N_typed HO_5.out) (by decide)) (fun k_ hk => ⟨hk.1, hk.2⟩)))); (case aB => exact (BB HB.out)); (case aF => exact (fun k_ hk => (Nat.le_trans (below_size (BB HB.out)) hk))); (case aO => exact (by (with_reducible repeat (first | apply Kd.N_alloc | apply Kd.N_drewN | apply Kd.N_drew)); exact Kd.N_mono HO_5.out (fun _ hk => hk.1))); (case aS => exact (below_size (BB HB.out))); (case aL => have := LMc15.out; omega); intro v215 w19 ho hb hg hat; rw [← Ny214.out] at ho; have HO216 := Aside0.mk (ho); replace HB := Aside0.mk (hb); clear HO_5; clear HO213; clear ho hb hg hat))
           go_roundg k2
           case measure => have := HJ1.out; have := HK2.out; omega
           case rel => exact ⟨(y214), (wrap64 (x6_2 + 1)), FR, H', ⟨by have := HJ1.out; have := HK2.out; omega⟩, ⟨by (with_reducible repeat (first | apply Kd.N_alloc | apply Kd.N_drewN | apply Kd.N_drew)); exact HO216.out⟩, ⟨(BB HB.out)⟩⟩
          ·rw [if_neg c15] at H
           exact absurd H (by simp)
         ·rw [if_neg c14] at H
          exact absurd H (by simp)
        ·rw [if_neg c13] at H
         exact absurd H (by simp)
       ·rw [if_neg c12] at H
        exact absurd H (by simp)
      ·rw [if_neg c11] at H
       have c11b0 : decide (x6_2 < (l0.length : Int)) = false := decide_eq_false c11
       clear c11
       replace H := Option.bind_eq_some_iff.mp H
       obtain ⟨t217, A210, H⟩ := H
       replace H : (spec_InvM.l1 k2 (l0.length : Int) x5_2 t217 0) = some (r1, r2) := H
       have A21 := Aside0.mk A210
       clear A210
       have H' := Aside0.mk H
       clear H
       go_wp2_with (first | ((with_reducible refine gate_callee (f := 40) rfl ?_); refine GL (some 46) rfl rfl Try.func40 #[.int .i64 (l0.length : Int)] rfl ?_; (with_reducible refine (spec_OneM.calls k2 (l0.length : Int) t217 _ A21.out).mono ?_); rintro e w22 ⟨v218, rfl, ho0, hb⟩; refine ⟨_, rfl, ?_⟩; have n0_ := Aside0.mk (Kd.N_elder' (by (with_reducible repeat (first | apply Kd.N_alloc | apply Kd.N_drewN | apply Kd.N_drew)); exact HO_5.out) (by first | exact Kd.N_base ho0 | exact Kd.S_base ho0) hb); have n1_ := Aside0.mk (Kd.N_lower (Kd.N_mono (ok' := fun k_ => (w.heap.size ≤ k_) ∧ some k_ ≠ (u5 : Value).ownBlock) (Kd.S_N (Kd.S_bound ho0)) (fun k_ hk_ => ⟨(Nat.le_trans (below_size (BB HB.out)) hk_.2.1), (Kd.fresh' (Kd.N_lt (by (with_reducible repeat (first | apply Kd.N_alloc | apply Kd.N_drewN | apply Kd.N_drew)); exact HO_5.out)) k_ hk_.2.1)⟩)) (below_size (BB HB.out))); have n2_ := Aside0.mk (below_step (BB HB.out) hb); clear HO_5; clear HB; have HO_5 := n0_; have HO219 := n1_; have HB := n2_; clear n0_ n1_ n2_; (try clear hb); (try clear ho0)))
       go_loopg [8] k2 (fun kq v8 w' => ∃ (x5_3 : List (List Int)) (x7_3 : List (List Int)) (x8_3 : Int), v8 = .int .i64 x8_3 ∧ Aside0 (spec_InvM.l1 kq (l0.length : Int) x5_3 x7_3 x8_3 = some (r1, r2)) ∧ Aside0 (kq ≤ k2) ∧ Aside0 (Kd.N (Kd.slice 3 (Kd.int .i64)) 52 w' w.heap.size (fun k_ => (w.heap.size ≤ k_) ∧ some k_ ≠ (v218 : Value).ownBlock) u5 x5_3) ∧ Aside0 (Kd.N (Kd.slice 3 (Kd.int .i64)) 52 w' w.heap.size (fun k_ => (w.heap.size ≤ k_) ∧ some k_ ≠ (u5 : Value).ownBlock) v218 x7_3) ∧ Aside0 (Below w.heap.size w w'))
       case atStart => exact ⟨(x5_2), (t217), (0), FR, H', ⟨Nat.le_refl _⟩, ⟨by (with_reducible repeat (first | apply Kd.N_alloc | apply Kd.N_drewN | apply Kd.N_drew)); exact HO_5.out⟩, ⟨by (with_reducible repeat (first | apply Kd.N_alloc | apply Kd.N_drewN | apply Kd.N_drew)); exact HO219.out⟩, ⟨(BB HB.out)⟩⟩
       case round =>
        clear H'
        try clear c1
        try clear c2
        try clear p2
        try clear q2
        try clear hx2
        try clear qi2
        try clear c4
        try clear c5
        try clear c5b0
        try clear c5b1
        try clear c6
        try clear p6
        try clear c11
        try clear c11b0
        try clear c12
        try clear c12b0
        try clear c13
        try clear c13b0
        try clear c14
        try clear c15
        try clear c20
        try clear p20
        try clear q20
        try clear hx20
        try clear qi20
        try clear c21
        try clear p21
        try clear q21
        try clear hx21
        try clear c22
        try clear hx200_0
        try clear hx210_0
        try clear p2
        try clear p200
        try clear p210
        try clear q2
        try clear q200
        try clear q210
        obtain ⟨x5_3, x7_3, x8_3, rfl, HA, HK3, HO_5, HO_7, HB⟩ := hrel
        cases gk with
        | zero => exact absurd HA.out (by simp [spec_InvM.l1])
        | succ k3 =>
         have H := HA.out
         clear HA
         simp only [spec_InvM.l1] at H
         by_cases c23 : x8_3 < (l0.length : Int)
         ·rw [if_pos c23] at H
          have c23b0 : decide (x8_3 < (l0.length : Int)) = true := decide_eq_true c23
          clear c23
          have HC24 := Aside0.mk H
          clear H
          go_upto_block 4 with (fail)
          go_cut [9] (fun v9 wc => ∃ (kq : Nat) (x9_23 : Int), v9 = .int .i64 x9_23 ∧ Aside0 (spec_InvM.j4 kq (l0.length : Int) x5_3 x7_3 x8_3 x9_23 = some (r1, r2)) ∧ Aside0 (kq ≤ k3) ∧ Aside0 (Kd.N (Kd.slice 3 (Kd.int .i64)) 52 wc w.heap.size (fun k_ => (w.heap.size ≤ k_) ∧ some k_ ≠ (v218 : Value).ownBlock) u5 x5_3) ∧ Aside0 (Kd.N (Kd.slice 3 (Kd.int .i64)) 52 wc w.heap.size (fun k_ => (w.heap.size ≤ k_) ∧ some k_ ≠ (u5 : Value).ownBlock) v218 x7_3) ∧ Aside0 (Below w.heap.size w wc))
          case first =>
           have H := HC24.out
           clear HC24
           have H' := Aside0.mk H
           clear H
           go_wp2
           go_loopg [9] k3 (fun kq v9 w' => ∃ (x9_4 : Int), v9 = .int .i64 x9_4 ∧ Aside0 (spec_InvM.l2 kq (l0.length : Int) x5_3 x7_3 x8_3 x9_4 = some (r1, r2)) ∧ Aside0 (kq ≤ k3) ∧ Aside0 (Kd.N (Kd.slice 3 (Kd.int .i64)) 52 w' w.heap.size (fun k_ => (w.heap.size ≤ k_) ∧ some k_ ≠ (v218 : Value).ownBlock) u5 x5_3) ∧ Aside0 (Kd.N (Kd.slice 3 (Kd.int .i64)) 52 w' w.heap.size (fun k_ => (w.heap.size ≤ k_) ∧ some k_ ≠ (u5 : Value).ownBlock) v218 x7_3) ∧ Aside0 (Below w.heap.size w w'))
           case atStart => exact ⟨(x8_3), FR, H', ⟨Nat.le_refl _⟩, ⟨by (with_reducible repeat (first | apply Kd.N_alloc | apply Kd.N_drewN | apply Kd.N_drew)); exact HO_5.out⟩, ⟨by (with_reducible repeat (first | apply Kd.N_alloc | apply Kd.N_drewN | apply Kd.N_drew)); exact HO_7.out⟩, ⟨(BB HB.out)⟩⟩
           case round =>
            clear H'
            try clear c1
            try clear c2
            try clear p2
            try clear q2
            try clear hx2
            try clear qi2
            try clear c4
            try clear c5
            try clear c5b0
            try clear c5b1
            try clear c6
            try clear p6
            try clear c11
            try clear c11b0
            try clear c12
            try clear c12b0
            try clear c13
            try clear c13b0
            try clear c14
            try clear c15
            try clear c20
            try clear p20
            try clear q20
            try clear hx20
            try clear qi20
            try clear c21
            try clear p21
            try clear q21
            try clear hx21
            try clear c22
            try clear c23
            try clear c23b0
            try clear hx200_0
            try clear hx210_0
            try clear p2
            try clear p20
            try clear p200
            try clear p21
            try clear p210
            try clear p6
            try clear q2
            try clear q20
            try clear q200
            try clear q21
            try clear q210
            obtain ⟨x9_4, rfl, HA, HK4, HO_5, HO_7, HB⟩ := hrel
            cases gk with
            | zero => exact absurd HA.out (by simp [spec_InvM.l2])
            | succ k4 =>
             have H := HA.out
             clear HA
             simp only [spec_InvM.l2] at H
             by_cases c25 : x9_4 < (l0.length : Int)
             ·rw [if_pos c25] at H
              have c25b0 : decide (x9_4 < (l0.length : Int)) = true := decide_eq_true c25
              clear c25
              (first | rw [c25b0] | (simp only [i64_w, i32_w]; rw [c25b0]) | skip)
              by_cases c26 : 0 ≤ x9_4
              ·rw [if_pos c26] at H
               have c26b0 : decide (0 ≤ x9_4) = true := decide_eq_true c26
               clear c26
               by_cases c27 : x9_4 < (x5_3.length : Int)
               ·rw [if_pos c27] at H
                have c27b0 : decide (x9_4 < (x5_3.length : Int)) = true := decide_eq_true c27
                clear c27
                by_cases c28 : 0 ≤ x8_3
                ·rw [if_pos c28] at H
                 have c28b0 : decide (0 ≤ x8_3) = true := decide_eq_true c28
                 clear c28
                 by_cases c29 : x8_3 < ((rd_L9 x5_3 x9_4).length : Int)
                 ·rw [if_pos c29] at H
                  have c29b0 : decide (x8_3 < ((rd_L9 x5_3 x9_4).length : Int)) = true := decide_eq_true c29
                  clear c29
                  by_cases c30 : (rd (rd_L9 x5_3 x9_4) x8_3) = 0
                  ·rw [if_pos c30] at H
                   have c30b0 : ((rd (rd_L9 x5_3 x9_4) x8_3) == 0) = true := beq_iff_eq.mpr c30
                   have c30b1 : ((rd (rd_L9 x5_3 x9_4) x8_3) != 0) = false := bne_eq_false_iff_eq.mpr c30
                   clear c30
                   have H' := Aside0.mk H
                   clear H
                   obtain ⟨Ao31, co31, eo31⟩ := Kd.N_slice HO_5.out
                   subst eo31
                   have p220 : 0 ≤ (x9_4 : Int) := DT
                   have q220 : x9_4 < (x5_3.length : Int) := DT
                   obtain ⟨ad220, A220_0, c220_0, e220, hx220_0, hl220_0, hi220_0⟩ := at_L9 (Kd.N_reads' HO_5.out).2.2 x9_4 p220 q220
                   cases e220
                   obtain ⟨ce220, hce220, hMe220, hcc220⟩ := Kd.N_get HO_5.out [] x9_4 p220 (by first | exact q220 | exact DT | (have e_ := (Kd.N_reads' HO_5.out).1; omega))
                   obtain ⟨ua220_0, uc220_0, rfl, ul220_0, ge220_0⟩ := Kd.FK_slice_open hMe220
                   have hv220_0 := hcc220 0 _ rfl
                   rw [Nat.add_zero, show ((Kd.slice 3 (Kd.int .i64))).sz = 1 from rfl, Nat.mul_one] at hv220_0
                   replace hv220_0 := Option.some.inj (hv220_0.symm.trans hx220_0)
                   injection hv220_0 with hva_ hvn_ hvc_
                   rw [hva_] at ge220_0
                   rw [hvc_] at ul220_0
                   have HL220_0 := Aside0.mk (show Kd.V (Kd.int .i64) 3 _ w.heap.size _ _ (rd_L9 x5_3 x9_4) from Kd.V_mk ul220_0 ge220_0)
                   clear hva_ hvn_ hvc_ ge220_0 ul220_0
                   clear hcc220 hce220
                   have HR220_0 := Aside0.mk hi220_0
                   have HC220_0 := Aside0.mk hl220_0
                   clear hi220_0 hl220_0
                   replace p220 := eq_true p220
                   replace q220 := eq_true q220
                   have p221 : 0 ≤ (x8_3 : Int) := DT
                   have q221 : x8_3 < ((rd_L9 x5_3 x9_4).length : Int) := DT
                   obtain ⟨ad221, e221, hx221_0⟩ := Kd.at_int (by repeat (first | (with_reducible exact HR220_0.out) | (with_reducible refine Kd.C_alloc ?_ _) | (with_reducible refine Kd.C_drewN ?_ _) | (with_reducible refine Kd.C_drew ?_) | exact HR220_0.out)) x8_3 p221 q221
                   cases e221
                   replace p221 := eq_true p221
                   replace q221 := eq_true q221
                   go_wp2
                   go_roundg k4
                   case measure => have := HJ1.out; have := HK2.out; have := HK3.out; have := HK4.out; omega
                   case rel => exact ⟨(wrap64 (x9_4 + 1)), FR, H', ⟨by have := HJ1.out; have := HK2.out; have := HK3.out; have := HK4.out; omega⟩, ⟨by (with_reducible repeat (first | apply Kd.N_alloc | apply Kd.N_drewN | apply Kd.N_drew)); exact HO_5.out⟩, ⟨by (with_reducible repeat (first | apply Kd.N_alloc | apply Kd.N_drewN | apply Kd.N_drew)); exact HO_7.out⟩, ⟨(BB HB.out)⟩⟩
                  ·rw [if_neg c30] at H
                   have c30b0 : ((rd (rd_L9 x5_3 x9_4) x8_3) == 0) = false := beq_eq_false_iff_ne.mpr c30
                   have c30b1 : ((rd (rd_L9 x5_3 x9_4) x8_3) != 0) = true := bne_iff_ne.mpr c30
                   have H' := Aside0.mk H
                   clear H
                   obtain ⟨Ao32, co32, eo32⟩ := Kd.N_slice HO_5.out
                   subst eo32
                   have p220 : 0 ≤ (x9_4 : Int) := DT
                   have q220 : x9_4 < (x5_3.length : Int) := DT
                   obtain ⟨ad220, A220_0, c220_0, e220, hx220_0, hl220_0, hi220_0⟩ := at_L9 (Kd.N_reads' HO_5.out).2.2 x9_4 p220 q220
                   cases e220
                   obtain ⟨ce220, hce220, hMe220, hcc220⟩ := Kd.N_get HO_5.out [] x9_4 p220 (by first | exact q220 | exact DT | (have e_ := (Kd.N_reads' HO_5.out).1; omega))
                   obtain ⟨ua220_0, uc220_0, rfl, ul220_0, ge220_0⟩ := Kd.FK_slice_open hMe220
                   have hv220_0 := hcc220 0 _ rfl
                   rw [Nat.add_zero, show ((Kd.slice 3 (Kd.int .i64))).sz = 1 from rfl, Nat.mul_one] at hv220_0
                   replace hv220_0 := Option.some.inj (hv220_0.symm.trans hx220_0)
                   injection hv220_0 with hva_ hvn_ hvc_
                   rw [hva_] at ge220_0
                   rw [hvc_] at ul220_0
                   have HL220_0 := Aside0.mk (show Kd.V (Kd.int .i64) 3 _ w.heap.size _ _ (rd_L9 x5_3 x9_4) from Kd.V_mk ul220_0 ge220_0)
                   clear hva_ hvn_ hvc_ ge220_0 ul220_0
                   clear hcc220 hce220
                   have HR220_0 := Aside0.mk hi220_0
                   have HC220_0 := Aside0.mk hl220_0
                   clear hi220_0 hl220_0
                   replace p220 := eq_true p220
                   replace q220 := eq_true q220
                   have p221 : 0 ≤ (x8_3 : Int) := DT
                   have q221 : x8_3 < ((rd_L9 x5_3 x9_4).length : Int) := DT
                   obtain ⟨ad221, e221, hx221_0⟩ := Kd.at_int (by repeat (first | (with_reducible exact HR220_0.out) | (with_reducible refine Kd.C_alloc ?_ _) | (with_reducible refine Kd.C_drewN ?_ _) | (with_reducible refine Kd.C_drew ?_) | exact HR220_0.out)) x8_3 p221 q221
                   cases e221
                   replace p221 := eq_true p221
                   replace q221 := eq_true q221
                   go_wp2
                   go_meet
                   case rel => exact ⟨_, (x9_4), FR, H', ⟨by have := HJ1.out; have := HK2.out; have := HK3.out; have := HK4.out; first | omega | exact Nat.le_refl _⟩, ⟨by (with_reducible repeat (first | apply Kd.N_alloc | apply Kd.N_drewN | apply Kd.N_drew)); exact HO_5.out⟩, ⟨by (with_reducible repeat (first | apply Kd.N_alloc | apply Kd.N_drewN | apply Kd.N_drew)); exact HO_7.out⟩, ⟨(BB HB.out)⟩⟩
                 ·rw [if_neg c29] at H
                  exact absurd H (by simp)
                ·rw [if_neg c28] at H
                 exact absurd H (by simp)
               ·rw [if_neg c27] at H
                exact absurd H (by simp)
              ·rw [if_neg c26] at H
               exact absurd H (by simp)
             ·rw [if_neg c25] at H
              have c25b0 : decide (x9_4 < (l0.length : Int)) = false := decide_eq_false c25
              clear c25
              (first | rw [c25b0] | (simp only [i64_w, i32_w]; rw [c25b0]) | skip)
              have H' := Aside0.mk H
              clear H
              go_wp2
              go_meet
              case rel => exact ⟨_, (x9_4), FR, H', ⟨by have := HJ1.out; have := HK2.out; have := HK3.out; have := HK4.out; first | omega | exact Nat.le_refl _⟩, ⟨by (with_reducible repeat (first | apply Kd.N_alloc | apply Kd.N_drewN | apply Kd.N_drew)); exact HO_5.out⟩, ⟨by (with_reducible repeat (first | apply Kd.N_alloc | apply Kd.N_drewN | apply Kd.N_drew)); exact HO_7.out⟩, ⟨(BB HB.out)⟩⟩
          case rest =>
           clear HC24
           try clear c1
           try clear c2
           try clear p2
           try clear q2
           try clear hx2
           try clear qi2
           try clear c3
           try clear c4
           try clear c5
           try clear c5b0
           try clear c5b1
           try clear c6
           try clear p6
           try clear c11
           try clear c11b0
           try clear c12
           try clear c12b0
           try clear c13
           try clear c13b0
           try clear c14
           try clear c15
           try clear c20
           try clear p20
           try clear q20
           try clear hx20
           try clear qi20
           try clear c21
           try clear p21
           try clear q21
           try clear hx21
           try clear c22
           try clear p22
           try clear q22
           try clear hx22
           try clear c23
           try clear c23b0
           try clear c25
           try clear c25b0
           try clear c26
           try clear c26b0
           try clear c27
           try clear c27b0
           try clear c28
           try clear c28b0
           try clear c29
           try clear c29b0
           try clear c30
           try clear c30b0
           try clear c30b1
           try clear hx200_0
           try clear hx210_0
           try clear hx220_0
           try clear hx221_0
           try clear p2
           try clear p20
           try clear p200
           try clear p21
           try clear p210
           try clear p220
           try clear p221
           try clear p6
           try clear q2
           try clear q20
           try clear q200
           try clear q21
           try clear q210
           try clear q220
           try clear q221
           obtain ⟨kq, x9_23, rfl, HA, HJ23, HO_5, HO_7, HB⟩ := hcut
           cases kq with
           | zero => exact absurd HA.out (by simp [spec_InvM.j4])
           | succ kj23 =>
            have H := HA.out
            clear HA
            simp only [spec_InvM.j4] at H
            by_cases c33 : x9_23 = (l0.length : Int)
            ·rw [if_pos c33] at H
             have c33b0 : (x9_23 == (l0.length : Int)) = true := beq_iff_eq.mpr c33
             have c33b1 : (x9_23 != (l0.length : Int)) = false := bne_eq_false_iff_eq.mpr c33
             clear c33
             obtain ⟨y222, hy222⟩ : ∃ y_ : List (List Int), y_ = (([] : List (List Int))) := ⟨_, rfl⟩
             replace H : (some (y222, false)) = some (r1, r2) := by first | (rw [hy222]; with_reducible exact H) | (have H2_ := (Option.bind_some _ _).symm.trans H; rw [hy222]; with_reducible exact H2_) | (have H2_ := (Option.bind_some _ _).symm.trans H; with_reducible exact H2_) | with_reducible exact H | (rw [hy222]; exact H) | exact H
             have Ny222 := Aside0.mk hy222
             clear hy222
             simp only [Option.some.injEq, Prod.mk.injEq] at H
             obtain ⟨rfl, rfl⟩ := H
             go_wp2_with (first | ((with_reducible refine gate_dst (N := 71) rfl ?_); (try (refine gate_guard (by rfl) ?_; dsimp only)); refine Kd.N_lit (Kd.slice 3 (Kd.int .i64)) _ 52 ?hg (N' := 71) ?hd (xs := ([] : List (List Int))) (inner := []) (ok := (fun k_ => (w.heap.size ≤ k_) ∧ some k_ ≠ (u5 : Value).ownBlock ∧ some k_ ≠ (v218 : Value).ownBlock)) (okp := (fun k_ => (w.heap.size ≤ k_) ∧ some k_ ≠ (u5 : Value).ownBlock ∧ some k_ ≠ (v218 : Value).ownBlock)) ?hr ?hp (fun _ hk => hk) ((show ∀ k_, wc.heap.size ≤ k_ → (fun k_ => (w.heap.size ≤ k_) ∧ some k_ ≠ (u5 : Value).ownBlock ∧ some k_ ≠ (v218 : Value).ownBlock) k_ from fun k_ hk => ⟨(Nat.le_trans (below_size (BB HB.out)) hk), Kd.fresh' (Kd.N_lt (by (with_reducible repeat (first | apply Kd.N_alloc | apply Kd.N_drewN | apply Kd.N_drew)); exact HO_5.out)) k_ hk, Kd.fresh' (Kd.N_lt (by (with_reducible repeat (first | apply Kd.N_alloc | apply Kd.N_drewN | apply Kd.N_drew)); exact HO_7.out)) k_ hk⟩) _ (Nat.le_refl _)) (Below.refl _ _) (Nat.le_refl _) (by simp) ?_; (case hd => rfl); (case hg => rfl); (case hr => first | (go_simp; done) | (go_simp; rfl)); (case hp => exact (Reps.none _ _)); intro v223 w34 ho35 hb hg_ hnew_; clear hg_ hnew_; (first | rw [← Ny222.out] at ho35 | (simp only [Int.reduceToNat] at ho35; rw [← Ny222.out] at ho35)); have n0_ := Aside0.mk (Kd.N_elder' (by (with_reducible repeat (first | apply Kd.N_alloc | apply Kd.N_drewN | apply Kd.N_drew)); exact HO_5.out) (Kd.N_base ho35) hb); have n1_ := Aside0.mk (Kd.N_elder' (by (with_reducible repeat (first | apply Kd.N_alloc | apply Kd.N_drewN | apply Kd.N_drew)); exact HO_7.out) (Kd.N_base ho35) hb); have n2_ := Aside0.mk (Kd.N_lower ho35 (below_size (BB HB.out))); have n3_ := Aside0.mk (below_step (BB HB.out) hb); clear HO_5; clear HO_7; clear HB; have HO_5 := n0_; have HO_7 := n1_; have HO224 := n2_; have HB := n3_; clear n0_ n1_ n2_ n3_; clear hb ho35))
             go_ret2
             exact ⟨_, ER, by (with_reducible repeat (first | apply Kd.N_alloc | apply Kd.N_drewN | apply Kd.N_drew)); exact Kd.N_mono HO224.out (fun _ hk => hk.1), (BB HB.out)⟩
            ·rw [if_neg c33] at H
             have c33b0 : (x9_23 == (l0.length : Int)) = false := beq_eq_false_iff_ne.mpr c33
             have c33b1 : (x9_23 != (l0.length : Int)) = true := bne_iff_ne.mpr c33
             by_cases c36 : 0 ≤ x9_23
             ·rw [if_pos c36] at H
              have c36b0 : decide (0 ≤ x9_23) = true := decide_eq_true c36
              clear c36
              by_cases c37 : x9_23 < (x5_3.length : Int)
              ·rw [if_pos c37] at H
               have c37b0 : decide (x9_23 < (x5_3.length : Int)) = true := decide_eq_true c37
               clear c37
               by_cases c38 : 0 ≤ x8_3
               ·rw [if_pos c38] at H
                have c38b0 : decide (0 ≤ x8_3) = true := decide_eq_true c38
                clear c38
                by_cases c39 : x8_3 < (x5_3.length : Int)
                ·rw [if_pos c39] at H
                 have c39b0 : decide (x8_3 < (x5_3.length : Int)) = true := decide_eq_true c39
                 clear c39
                 obtain ⟨y227, hy227⟩ : ∃ y_ : List (List Int), y_ = (x5_3.set (x9_23 : Int).toNat (rd_L9 x5_3 x8_3)) := ⟨_, rfl⟩
                 replace H : ((some (y227.set (x8_3 : Int).toNat (rd_L9 x5_3 x9_23) : List (List Int))).bind fun y228 => (if x9_23 < (x7_3.length : Int) then (if x8_3 < (x7_3.length : Int) then ((some ((x7_3.set (x9_23 : Int).toNat (rd_L9 x7_3 x8_3)).set (x8_3 : Int).toNat (rd_L9 x7_3 x9_23) : List (List Int))).bind fun y232 => (if x8_3 < ((rd_L9 y228 x8_3).length : Int) then ((spec_InvG.f kj23 (rd (rd_L9 y228 x8_3) x8_3)).bind fun t235 => ((spec_l06Times.f kj23 (rd_L9 y228 x8_3) t235).bind fun t237 => ((spec_l06Times.f kj23 (rd_L9 y232 x8_3) t235).bind fun t242 => (spec_InvM.l3 kj23 (l0.length : Int) (y228.set (x8_3 : Int).toNat t237) (y232.set (x8_3 : Int).toNat t242) x8_3 0)))) else (none))) else (none)) else (none))) = some (r1, r2) := by first | (rw [hy227]; with_reducible exact H) | (have H2_ := (Option.bind_some _ _).symm.trans H; rw [hy227]; with_reducible exact H2_) | (have H2_ := (Option.bind_some _ _).symm.trans H; with_reducible exact H2_) | with_reducible exact H | (rw [hy227]; exact H) | exact H
                 have Ny227 := Aside0.mk hy227
                 clear hy227
                 obtain ⟨y228, hy228⟩ : ∃ y_ : List (List Int), y_ = (y227.set (x8_3 : Int).toNat (rd_L9 x5_3 x9_23)) := ⟨_, rfl⟩
                 replace H : (if x9_23 < (x7_3.length : Int) then (if x8_3 < (x7_3.length : Int) then ((some ((x7_3.set (x9_23 : Int).toNat (rd_L9 x7_3 x8_3)).set (x8_3 : Int).toNat (rd_L9 x7_3 x9_23) : List (List Int))).bind fun y232 => (if x8_3 < ((rd_L9 y228 x8_3).length : Int) then ((spec_InvG.f kj23 (rd (rd_L9 y228 x8_3) x8_3)).bind fun t235 => ((spec_l06Times.f kj23 (rd_L9 y228 x8_3) t235).bind fun t237 => ((spec_l06Times.f kj23 (rd_L9 y232 x8_3) t235).bind fun t242 => (spec_InvM.l3 kj23 (l0.length : Int) (y228.set (x8_3 : Int).toNat t237) (y232.set (x8_3 : Int).toNat t242) x8_3 0)))) else (none))) else (none)) else (none)) = some (r1, r2) := by first | (rw [hy228]; with_reducible exact H) | (have H2_ := (Option.bind_some _ _).symm.trans H; rw [hy228]; with_reducible exact H2_) | (have H2_ := (Option.bind_some _ _).symm.trans H; with_reducible exact H2_) | with_reducible exact H | (rw [hy228]; exact H) | exact H
                 have Ny228 := Aside0.mk hy228
                 clear hy228
                 by_cases c42 : x9_23 < (x7_3.length : Int)
                 ·rw [if_pos c42] at H
                  have c42b0 : decide (x9_23 < (x7_3.length : Int)) = true := decide_eq_true c42
                  clear c42
                  by_cases c43 : x8_3 < (x7_3.length : Int)
                  ·rw [if_pos c43] at H
                   have c43b0 : decide (x8_3 < (x7_3.length : Int)) = true := decide_eq_true c43
                   clear c43
                   obtain ⟨y231, hy231⟩ : ∃ y_ : List (List Int), y_ = (x7_3.set (x9_23 : Int).toNat (rd_L9 x7_3 x8_3)) := ⟨_, rfl⟩
                   replace H : ((some (y231.set (x8_3 : Int).toNat (rd_L9 x7_3 x9_23) : List (List Int))).bind fun y232 => (if x8_3 < ((rd_L9 y228 x8_3).length : Int) then ((spec_InvG.f kj23 (rd (rd_L9 y228 x8_3) x8_3)).bind fun t235 => ((spec_l06Times.f kj23 (rd_L9 y228 x8_3) t235).bind fun t237 => ((spec_l06Times.f kj23 (rd_L9 y232 x8_3) t235).bind fun t242 => (spec_InvM.l3 kj23 (l0.length : Int) (y228.set (x8_3 : Int).toNat t237) (y232.set (x8_3 : Int).toNat t242) x8_3 0)))) else (none))) = some (r1, r2) := by first | (rw [hy231]; with_reducible exact H) | (have H2_ := (Option.bind_some _ _).symm.trans H; rw [hy231]; with_reducible exact H2_) | (have H2_ := (Option.bind_some _ _).symm.trans H; with_reducible exact H2_) | with_reducible exact H | (rw [hy231]; exact H) | exact H
                   have Ny231 := Aside0.mk hy231
                   clear hy231
                   obtain ⟨y232, hy232⟩ : ∃ y_ : List (List Int), y_ = (y231.set (x8_3 : Int).toNat (rd_L9 x7_3 x9_23)) := ⟨_, rfl⟩
                   replace H : (if x8_3 < ((rd_L9 y228 x8_3).length : Int) then ((spec_InvG.f kj23 (rd (rd_L9 y228 x8_3) x8_3)).bind fun t235 => ((spec_l06Times.f kj23 (rd_L9 y228 x8_3) t235).bind fun t237 => ((spec_l06Times.f kj23 (rd_L9 y232 x8_3) t235).bind fun t242 => (spec_InvM.l3 kj23 (l0.length : Int) (y228.set (x8_3 : Int).toNat t237) (y232.set (x8_3 : Int).toNat t242) x8_3 0)))) else (none)) = some (r1, r2) := by first | (rw [hy232]; with_reducible exact H) | (have H2_ := (Option.bind_some _ _).symm.trans H; rw [hy232]; with_reducible exact H2_) | (have H2_ := (Option.bind_some _ _).symm.trans H; with_reducible exact H2_) | with_reducible exact H | (rw [hy232]; exact H) | exact H
                   have Ny232 := Aside0.mk hy232
                   clear hy232
                   by_cases c46 : x8_3 < ((rd_L9 y228 x8_3).length : Int)
                   ·rw [if_pos c46] at H
                    have c46b0 : decide (x8_3 < ((rd_L9 y228 x8_3).length : Int)) = true := decide_eq_true c46
                    clear c46
                    replace H := Option.bind_eq_some_iff.mp H
                    obtain ⟨t235, A470, H⟩ := H
                    replace H : ((spec_l06Times.f kj23 (rd_L9 y228 x8_3) t235).bind fun t237 => ((spec_l06Times.f kj23 (rd_L9 y232 x8_3) t235).bind fun t242 => (spec_InvM.l3 kj23 (l0.length : Int) (y228.set (x8_3 : Int).toNat t237) (y232.set (x8_3 : Int).toNat t242) x8_3 0))) = some (r1, r2) := H
                    have A47 := Aside0.mk A470
                    clear A470
                    replace H := Option.bind_eq_some_iff.mp H
                    obtain ⟨t237, A480, H⟩ := H
                    replace H : ((spec_l06Times.f kj23 (rd_L9 y232 x8_3) t235).bind fun t242 => (spec_InvM.l3 kj23 (l0.length : Int) (y228.set (x8_3 : Int).toNat t237) (y232.set (x8_3 : Int).toNat t242) x8_3 0)) = some (r1, r2) := H
                    have A48 := Aside0.mk A480
                    clear A480
                    obtain ⟨y240, hy240⟩ : ∃ y_ : List (List Int), y_ = (y228.set (x8_3 : Int).toNat t237) := ⟨_, rfl⟩
                    replace H : ((spec_l06Times.f kj23 (rd_L9 y232 x8_3) t235).bind fun t242 => (spec_InvM.l3 kj23 (l0.length : Int) y240 (y232.set (x8_3 : Int).toNat t242) x8_3 0)) = some (r1, r2) := by first | (rw [hy240]; with_reducible exact H) | (have H2_ := (Option.bind_some _ _).symm.trans H; rw [hy240]; with_reducible exact H2_) | (have H2_ := (Option.bind_some _ _).symm.trans H; with_reducible exact H2_) | with_reducible exact H | (rw [hy240]; exact H) | exact H
                    have Ny240 := Aside0.mk hy240
                    clear hy240
                    replace H := Option.bind_eq_some_iff.mp H
                    obtain ⟨t242, A500, H⟩ := H
                    replace H : (spec_InvM.l3 kj23 (l0.length : Int) y240 (y232.set (x8_3 : Int).toNat t242) x8_3 0) = some (r1, r2) := H
                    have A50 := Aside0.mk A500
                    clear A500
                    obtain ⟨y245, hy245⟩ : ∃ y_ : List (List Int), y_ = (y232.set (x8_3 : Int).toNat t242) := ⟨_, rfl⟩
                    replace H : (spec_InvM.l3 kj23 (l0.length : Int) y240 y245 x8_3 0) = some (r1, r2) := by first | (rw [hy245]; with_reducible exact H) | (have H2_ := (Option.bind_some _ _).symm.trans H; rw [hy245]; with_reducible exact H2_) | (have H2_ := (Option.bind_some _ _).symm.trans H; with_reducible exact H2_) | with_reducible exact H | (rw [hy245]; exact H) | exact H
                    have Ny245 := Aside0.mk hy245
                    clear hy245
                    have H' := Aside0.mk H
                    clear H
                    obtain ⟨Ao52, co52, eo52⟩ := Kd.N_slice HO_5.out
                    subst eo52
                    have p225 : 0 ≤ (x9_23 : Int) := DT
                    have q225 : x9_23 < (x5_3.length : Int) := DT
                    obtain ⟨ad225, A225_0, c225_0, e225, hx225_0, hl225_0, hi225_0⟩ := at_L9 (Kd.N_reads' HO_5.out).2.2 x9_23 p225 q225
                    cases e225
                    obtain ⟨ce225, hce225, hMe225, hcc225⟩ := Kd.N_get HO_5.out [] x9_23 p225 (by first | exact q225 | exact DT | (have e_ := (Kd.N_reads' HO_5.out).1; omega))
                    obtain ⟨ua225_0, uc225_0, rfl, ul225_0, ge225_0⟩ := Kd.FK_slice_open hMe225
                    have hv225_0 := hcc225 0 _ rfl
                    rw [Nat.add_zero, show ((Kd.slice 3 (Kd.int .i64))).sz = 1 from rfl, Nat.mul_one] at hv225_0
                    replace hv225_0 := Option.some.inj (hv225_0.symm.trans hx225_0)
                    injection hv225_0 with hva_ hvn_ hvc_
                    rw [hva_] at ge225_0
                    rw [hvc_] at ul225_0
                    have HL225_0 := Aside0.mk (show Kd.V (Kd.int .i64) 3 _ w.heap.size _ _ (rd_L9 x5_3 x9_23) from Kd.V_mk ul225_0 ge225_0)
                    clear hva_ hvn_ hvc_ ge225_0 ul225_0
                    clear hcc225 hce225
                    have HR225_0 := Aside0.mk hi225_0
                    have HC225_0 := Aside0.mk hl225_0
                    clear hi225_0 hl225_0
                    replace p225 := eq_true p225
                    replace q225 := eq_true q225
                    have p226 : 0 ≤ (x8_3 : Int) := DT
                    have q226 : x8_3 < (x5_3.length : Int) := DT
                    obtain ⟨ad226, A226_0, c226_0, e226, hx226_0, hl226_0, hi226_0⟩ := at_L9 (Kd.N_reads' HO_5.out).2.2 x8_3 p226 q226
                    obtain rfl : ad225 = ad226 := (by injection e226)
                    obtain ⟨ce226, hce226, hMe226, hcc226⟩ := Kd.N_get HO_5.out [] x8_3 p226 (by first | exact q226 | exact DT | (have e_ := (Kd.N_reads' HO_5.out).1; omega))
                    obtain ⟨ua226_0, uc226_0, rfl, ul226_0, ge226_0⟩ := Kd.FK_slice_open hMe226
                    have hv226_0 := hcc226 0 _ rfl
                    rw [Nat.add_zero, show ((Kd.slice 3 (Kd.int .i64))).sz = 1 from rfl, Nat.mul_one] at hv226_0
                    replace hv226_0 := Option.some.inj (hv226_0.symm.trans hx226_0)
                    injection hv226_0 with hva_ hvn_ hvc_
                    rw [hva_] at ge226_0
                    rw [hvc_] at ul226_0
                    have HL226_0 := Aside0.mk (show Kd.V (Kd.int .i64) 3 _ w.heap.size _ _ (rd_L9 x5_3 x8_3) from Kd.V_mk ul226_0 ge226_0)
                    clear hva_ hvn_ hvc_ ge226_0 ul226_0
                    clear hcc226 hce226
                    have HR226_0 := Aside0.mk hi226_0
                    have HC226_0 := Aside0.mk hl226_0
                    clear hi226_0 hl226_0
                    replace p226 := eq_true p226
                    replace q226 := eq_true q226
                    have p40 : 0 ≤ (x9_23 : Int) := DT
                    have q40 : (x9_23 : Int) < ((x5_3.length : Int) : Int) := DT
                    obtain ⟨go40, co40, eo40, gb40, gl40, cl40, HG40⟩ := Kd.N_form HO_5.out (by omega)
                    (first | cases eo40 | (injection eo40 with ea_ en_ ec_; (first | subst ea_ | (injection ea_ with ea_; subst ea_)); subst ec_; clear en_))
                    have GB40 := Aside0.mk gb40
                    have GG40 := Aside0.mk HG40
                    clear gb40 gl40 HG40
                    (first | simp only [add_plain] at hx225_0 | skip)
                    (first | simp only [add_plain] at hx226_0 | skip)
                    obtain ⟨ce40, hcl40, hM40, hcc40, hfr40⟩ := Kd.N_elem HO_5.out [] (x9_23 : Int) p40 q40
                    obtain ⟨ua40_0, uc40_0, rfl, ul40_0, ge40_0⟩ := Kd.FK_slice_open hM40
                    have hx40_0 := hcc40 0 _ rfl
                    have hf40_0 := hfr40 0
                    (try simp only [show ((Kd.slice 3 (Kd.int .i64))).sz = 1 from rfl, Nat.mul_one, Nat.add_zero] at hx40_0)
                    (try simp only [show ((Kd.slice 3 (Kd.int .i64))).sz = 1 from rfl, Nat.mul_one, Nat.add_zero] at hf40_0)
                    clear hcl40 hcc40 hfr40 hM40
                    replace p40 := eq_true p40
                    replace q40 := eq_true q40
                    have HX53 := Aside0.mk (show Kd.N (Kd.slice 3 (Kd.int .i64)) 52 wc w.heap.size (fun k_ => (w.heap.size ≤ k_) ∧ some k_ ≠ (v218 : Value).ownBlock) (.slice (some ⟨go40, 0, none⟩) x5_3.length co52) x5_3 from (by (with_reducible repeat (first | apply Kd.N_alloc | apply Kd.N_drewN | apply Kd.N_drew)); exact HO_5.out))
                    obtain ⟨ce53, hcl53, hM53, hcc53, hfr53⟩ := Kd.N_elem HX53.out [] (x9_23 : Int) DT (by have h_ : (x9_23 : Int) < ((x5_3.length : Int) : Int) := DT; first | exact h_ | (have e_ := (Kd.N_reads' HO_5.out).1; omega) | simpa using h_)
                    obtain ⟨ua53_0, uc53_0, rfl, ul53_0, ge53_0⟩ := Kd.FK_slice_open hM53
                    have HP53 := Kd.N_seg HX53.out (x9_23 : Int) DT (by have h_ : (x9_23 : Int) < ((x5_3.length : Int) : Int) := DT; first | exact h_ | (have e_ := (Kd.N_reads' HO_5.out).1; omega) | simpa using h_) (seg := [.slice A226_0 (rd_L9 x5_3 x8_3).length c226_0]) (j := 0) hcl53 hcc53 (show 1 ≤ 1 from by decide) (x' := rd_L9 x5_3 x8_3) (Kd.FK_slice_mk (Kd.V_reads' (Kd.V_mono (ok' := (fun k_ => ((fun k_ => (w.heap.size ≤ k_) ∧ some k_ ≠ (v218 : Value).ownBlock)) k_ ∧ k_ ≠ go40)) (HL226_0.out) (fun k_ hk => ⟨⟨hk.1.1, hk.1.2⟩, fun e_ => (hk.2) (by rw [e_]; rfl)⟩))).2.1 (Kd.V_F (Kd.V_mono (ok' := (fun k_ => ((fun k_ => (w.heap.size ≤ k_) ∧ some k_ ≠ (v218 : Value).ownBlock)) k_ ∧ k_ ≠ go40)) (HL226_0.out) (fun k_ hk => ⟨⟨hk.1.1, hk.1.2⟩, fun e_ => (hk.2) (by rw [e_]; rfl)⟩)))) (fun _ hk => hk)
                    have hx53_0 := hcc53 0 _ rfl
                    (try simp only [show ((Kd.slice 3 (Kd.int .i64))).sz = 1 from rfl, Nat.mul_one, Nat.add_zero] at hx53_0)
                    have hf53_0 := hfr53 0
                    (try simp only [show ((Kd.slice 3 (Kd.int .i64))).sz = 1 from rfl, Nat.mul_one, Nat.add_zero] at hf53_0)
                    clear hcl53 hcc53 hfr53 hM53
                    (try simp only [show ((Kd.slice 3 (Kd.int .i64))).sz = 1 from rfl, Nat.mul_one, Nat.add_zero] at HP53)
                    (try simp only [show ((Kd.slice 3 (Kd.int .i64))).sz = 1 from rfl, Nat.mul_one, Nat.add_zero] at HP53)
                    go_wp2_with (first | ((with_reducible refine gate_store (t := 52) (p := 82) rfl ?_); refine store_event (t := 52) (p := 82) (v := ?vo_w54) (w1 := (wc.setCell ⟨go40, (x9_23 : Int).toNat, none⟩ (.slice A226_0 (rd_L9 x5_3 x8_3).length c226_0))) ?hg ?ho ?hn ?hr ?_; (case ho => rfl); (case hg => rfl); (case hn => rfl); (case hr => first | (go_simp; done) | (go_simp; rfl)); intro w54 hw; have hg : wc.grownBy w54 (some go40) := (by rw [hw]; exact HP53.2); have hp_ : Kd.N (Kd.slice 3 (Kd.int .i64)) 52 w54 w.heap.size (fun k_ => (w.heap.size ≤ k_) ∧ some k_ ≠ (v218 : Value).ownBlock) (.slice (some ⟨go40, 0, none⟩) x5_3.length co52) y227 := (by rw [hw, Ny227.out]; exact HP53.1); clear HP53; have n0_ := Aside0.mk (hp_); have n1_ := Aside0.mk (Kd.N_afterv (v := (.slice (some ⟨go40, 0, none⟩) x5_3.length co52)) (v1 := (.slice (some ⟨go40, 0, none⟩) x5_3.length co52)) (ok := (fun k_ => (w.heap.size ≤ k_))) (by (with_reducible repeat (first | apply Kd.N_alloc | apply Kd.N_drewN | apply Kd.N_drew)); exact HO_7.out) hg (.inl rfl)); have n2_ := Aside0.mk (Kd.V_afterv (v := (.slice (some ⟨go40, 0, none⟩) x5_3.length co52)) (v1 := (.slice (some ⟨go40, 0, none⟩) x5_3.length co52)) (ok := (fun k_ => (w.heap.size ≤ k_) ∧ some k_ ≠ (v218 : Value).ownBlock)) (by (with_reducible repeat (first | apply Kd.V_alloc | apply Kd.V_drewN | apply Kd.V_drew)); exact HL225_0.out) hg (.inl rfl)); have n3_ := Aside0.mk (Kd.V_afterv (v := (.slice (some ⟨go40, 0, none⟩) x5_3.length co52)) (v1 := (.slice (some ⟨go40, 0, none⟩) x5_3.length co52)) (ok := (fun k_ => (w.heap.size ≤ k_) ∧ some k_ ≠ (v218 : Value).ownBlock)) (by (with_reducible repeat (first | apply Kd.V_alloc | apply Kd.V_drewN | apply Kd.V_drew)); exact HL226_0.out) hg (.inl rfl)); have n4_ := Aside0.mk ((by rw [hw]; exact below_set (HB.out) GB40.out : Below w.heap.size w w54)); clear HO_5; clear HO_7; clear HL225_0; clear HL226_0; clear HB; have HO_5 := n0_; have HO_7 := n1_; have HL225_0 := n2_; have HL226_0 := n3_; have HB := n4_; clear n0_ n1_ n2_ n3_ n4_; clear hg hw hp_; have p41 : 0 ≤ (x8_3 : Int) := DT; have q41 : (x8_3 : Int) < ((x5_3.length : Int) : Int) := DT; obtain ⟨ce41, hcl41, hM41, hcc41, hfr41⟩ := Kd.N_elem HO_5.out [] (x8_3 : Int) p41 q41; obtain ⟨ua41_0, uc41_0, rfl, ul41_0, ge41_0⟩ := Kd.FK_slice_open hM41; have hx41_0 := hcc41 0 _ rfl; have hf41_0 := hfr41 0; (try simp only [show ((Kd.slice 3 (Kd.int .i64))).sz = 1 from rfl, Nat.mul_one, Nat.add_zero] at hx41_0); (try simp only [show ((Kd.slice 3 (Kd.int .i64))).sz = 1 from rfl, Nat.mul_one, Nat.add_zero] at hf41_0); clear hcl41 hcc41 hfr41 hM41; replace p41 := eq_true p41; replace q41 := eq_true q41; have HX55 := Aside0.mk (show Kd.N (Kd.slice 3 (Kd.int .i64)) 52 w54 w.heap.size (fun k_ => (w.heap.size ≤ k_) ∧ some k_ ≠ (v218 : Value).ownBlock) (.slice (some ⟨go40, 0, none⟩) x5_3.length co52) y227 from (by (with_reducible repeat (first | apply Kd.N_alloc | apply Kd.N_drewN | apply Kd.N_drew)); exact HO_5.out)); obtain ⟨ce55, hcl55, hM55, hcc55, hfr55⟩ := Kd.N_elem HX55.out [] (x8_3 : Int) DT (by have h_ : (x8_3 : Int) < ((x5_3.length : Int) : Int) := DT; first | exact h_ | (have e_ := (Kd.N_reads' HO_5.out).1; omega) | simpa using h_); obtain ⟨ua55_0, uc55_0, rfl, ul55_0, ge55_0⟩ := Kd.FK_slice_open hM55; have HP55 := Kd.N_seg HX55.out (x8_3 : Int) DT (by have h_ : (x8_3 : Int) < ((x5_3.length : Int) : Int) := DT; first | exact h_ | (have e_ := (Kd.N_reads' HO_5.out).1; omega) | simpa using h_) (seg := [.slice A225_0 (rd_L9 x5_3 x9_23).length c225_0]) (j := 0) hcl55 hcc55 (show 1 ≤ 1 from by decide) (x' := rd_L9 x5_3 x9_23) (Kd.FK_slice_mk (Kd.V_reads' (Kd.V_mono (ok' := (fun k_ => ((fun k_ => (w.heap.size ≤ k_) ∧ some k_ ≠ (v218 : Value).ownBlock)) k_ ∧ k_ ≠ go40)) (HL225_0.out) (fun k_ hk => ⟨⟨hk.1.1, hk.1.2⟩, fun e_ => (hk.2) (by rw [e_]; rfl)⟩))).2.1 (Kd.V_F (Kd.V_mono (ok' := (fun k_ => ((fun k_ => (w.heap.size ≤ k_) ∧ some k_ ≠ (v218 : Value).ownBlock)) k_ ∧ k_ ≠ go40)) (HL225_0.out) (fun k_ hk => ⟨⟨hk.1.1, hk.1.2⟩, fun e_ => (hk.2) (by rw [e_]; rfl)⟩)))) (fun _ hk => hk); have hx55_0 := hcc55 0 _ rfl; (try simp only [show ((Kd.slice 3 (Kd.int .i64))).sz = 1 from rfl, Nat.mul_one, Nat.add_zero] at hx55_0); have hf55_0 := hfr55 0; (try simp only [show ((Kd.slice 3 (Kd.int .i64))).sz = 1 from rfl, Nat.mul_one, Nat.add_zero] at hf55_0); clear hcl55 hcc55 hfr55 hM55; (try simp only [show ((Kd.slice 3 (Kd.int .i64))).sz = 1 from rfl, Nat.mul_one, Nat.add_zero] at HP55); (try simp only [show ((Kd.slice 3 (Kd.int .i64))).sz = 1 from rfl, Nat.mul_one, Nat.add_zero] at HP55)) | ((with_reducible refine gate_store (t := 52) (p := 86) rfl ?_); refine store_event (t := 52) (p := 86) (v := ?vo_w56) (w1 := (w54.setCell ⟨go40, (x8_3 : Int).toNat, none⟩ (.slice A225_0 (rd_L9 x5_3 x9_23).length c225_0))) ?hg ?ho ?hn ?hr ?_; (case ho => rfl); (case hg => rfl); (case hn => rfl); (case hr => first | (go_simp; done) | (go_simp; rfl)); intro w56 hw; have hg : w54.grownBy w56 (some go40) := (by rw [hw]; exact HP55.2); have hp_ : Kd.N (Kd.slice 3 (Kd.int .i64)) 52 w56 w.heap.size (fun k_ => (w.heap.size ≤ k_) ∧ some k_ ≠ (v218 : Value).ownBlock) (.slice (some ⟨go40, 0, none⟩) x5_3.length co52) y228 := (by rw [hw, Ny228.out]; exact HP55.1); clear HP55; have n0_ := Aside0.mk (hp_); have n1_ := Aside0.mk (Kd.N_afterv (v := (.slice (some ⟨go40, 0, none⟩) x5_3.length co52)) (v1 := (.slice (some ⟨go40, 0, none⟩) x5_3.length co52)) (ok := (fun k_ => (w.heap.size ≤ k_))) (by (with_reducible repeat (first | apply Kd.N_alloc | apply Kd.N_drewN | apply Kd.N_drew)); exact HO_7.out) hg (.inl rfl)); have n2_ := Aside0.mk (Kd.V_afterv (v := (.slice (some ⟨go40, 0, none⟩) x5_3.length co52)) (v1 := (.slice (some ⟨go40, 0, none⟩) x5_3.length co52)) (ok := (fun k_ => (w.heap.size ≤ k_) ∧ some k_ ≠ (v218 : Value).ownBlock)) (by (with_reducible repeat (first | apply Kd.V_alloc | apply Kd.V_drewN | apply Kd.V_drew)); exact HL225_0.out) hg (.inl rfl)); have n3_ := Aside0.mk (Kd.V_afterv (v := (.slice (some ⟨go40, 0, none⟩) x5_3.length co52)) (v1 := (.slice (some ⟨go40, 0, none⟩) x5_3.length co52)) (ok := (fun k_ => (w.heap.size ≤ k_) ∧ some k_ ≠ (v218 : Value).ownBlock)) (by (with_reducible repeat (first | apply Kd.V_alloc | apply Kd.V_drewN | apply Kd.V_drew)); exact HL226_0.out) hg (.inl rfl)); have n4_ := Aside0.mk ((by rw [hw]; exact below_set (HB.out) GB40.out : Below w.heap.size w w56)); clear HO_5; clear HO_7; clear HL225_0; clear HL226_0; clear HB; have HO_5 := n0_; have HO_7 := n1_; have HL225_0 := n2_; have HL226_0 := n3_; have HB := n4_; clear n0_ n1_ n2_ n3_ n4_; clear hg hw hp_; obtain ⟨Ao57, co57, eo57⟩ := Kd.N_slice HO_7.out; subst eo57; have p229 : 0 ≤ (x9_23 : Int) := DT; have q229 : x9_23 < (x7_3.length : Int) := DT; obtain ⟨ad229, A229_0, c229_0, e229, hx229_0, hl229_0, hi229_0⟩ := at_L9 (Kd.N_reads' HO_7.out).2.2 x9_23 p229 q229; cases e229; obtain ⟨ce229, hce229, hMe229, hcc229⟩ := Kd.N_get HO_7.out [] x9_23 p229 (by first | exact q229 | exact DT | (have e_ := (Kd.N_reads' HO_7.out).1; omega)); obtain ⟨ua229_0, uc229_0, rfl, ul229_0, ge229_0⟩ := Kd.FK_slice_open hMe229; have hv229_0 := hcc229 0 _ rfl; rw [Nat.add_zero, show ((Kd.slice 3 (Kd.int .i64))).sz = 1 from rfl, Nat.mul_one] at hv229_0; replace hv229_0 := Option.some.inj (hv229_0.symm.trans hx229_0); injection hv229_0 with hva_ hvn_ hvc_; rw [hva_] at ge229_0; rw [hvc_] at ul229_0; have HL229_0 := Aside0.mk (show Kd.V (Kd.int .i64) 3 _ w.heap.size _ _ (rd_L9 x7_3 x9_23) from Kd.V_mk ul229_0 ge229_0); clear hva_ hvn_ hvc_ ge229_0 ul229_0; clear hcc229 hce229; have HR229_0 := Aside0.mk hi229_0; have HC229_0 := Aside0.mk hl229_0; clear hi229_0 hl229_0; replace p229 := eq_true p229; replace q229 := eq_true q229; have p230 : 0 ≤ (x8_3 : Int) := DT; have q230 : x8_3 < (x7_3.length : Int) := DT; obtain ⟨ad230, A230_0, c230_0, e230, hx230_0, hl230_0, hi230_0⟩ := at_L9 (Kd.N_reads' HO_7.out).2.2 x8_3 p230 q230; obtain rfl : ad229 = ad230 := (by injection e230); obtain ⟨ce230, hce230, hMe230, hcc230⟩ := Kd.N_get HO_7.out [] x8_3 p230 (by first | exact q230 | exact DT | (have e_ := (Kd.N_reads' HO_7.out).1; omega)); obtain ⟨ua230_0, uc230_0, rfl, ul230_0, ge230_0⟩ := Kd.FK_slice_open hMe230; have hv230_0 := hcc230 0 _ rfl; rw [Nat.add_zero, show ((Kd.slice 3 (Kd.int .i64))).sz = 1 from rfl, Nat.mul_one] at hv230_0; replace hv230_0 := Option.some.inj (hv230_0.symm.trans hx230_0); injection hv230_0 with hva_ hvn_ hvc_; rw [hva_] at ge230_0; rw [hvc_] at ul230_0; have HL230_0 := Aside0.mk (show Kd.V (Kd.int .i64) 3 _ w.heap.size _ _ (rd_L9 x7_3 x8_3) from Kd.V_mk ul230_0 ge230_0); clear hva_ hvn_ hvc_ ge230_0 ul230_0; clear hcc230 hce230; have HR230_0 := Aside0.mk hi230_0; have HC230_0 := Aside0.mk hl230_0; clear hi230_0 hl230_0; replace p230 := eq_true p230; replace q230 := eq_true q230; have p44 : 0 ≤ (x9_23 : Int) := DT; have q44 : (x9_23 : Int) < ((x7_3.length : Int) : Int) := DT; obtain ⟨go44, co44, eo44, gb44, gl44, cl44, HG44⟩ := Kd.N_form HO_7.out (by omega); (first | cases eo44 | (injection eo44 with ea_ en_ ec_; (first | subst ea_ | (injection ea_ with ea_; subst ea_)); subst ec_; clear en_)); have GB44 := Aside0.mk gb44; have GG44 := Aside0.mk HG44; clear gb44 gl44 HG44; (first | simp only [add_plain] at hx229_0 | skip); (first | simp only [add_plain] at hx230_0 | skip); obtain ⟨ce44, hcl44, hM44, hcc44, hfr44⟩ := Kd.N_elem HO_7.out [] (x9_23 : Int) p44 q44; obtain ⟨ua44_0, uc44_0, rfl, ul44_0, ge44_0⟩ := Kd.FK_slice_open hM44; have hx44_0 := hcc44 0 _ rfl; have hf44_0 := hfr44 0; (try simp only [show ((Kd.slice 3 (Kd.int .i64))).sz = 1 from rfl, Nat.mul_one, Nat.add_zero] at hx44_0); (try simp only [show ((Kd.slice 3 (Kd.int .i64))).sz = 1 from rfl, Nat.mul_one, Nat.add_zero] at hf44_0); clear hcl44 hcc44 hfr44 hM44; replace p44 := eq_true p44; replace q44 := eq_true q44; have HX58 := Aside0.mk (show Kd.N (Kd.slice 3 (Kd.int .i64)) 52 w56 w.heap.size (fun k_ => (w.heap.size ≤ k_) ∧ some k_ ≠ (.slice (some ⟨go40, 0, none⟩) x5_3.length co52 : Value).ownBlock) (.slice (some ⟨go44, 0, none⟩) x7_3.length co57) x7_3 from (by (with_reducible repeat (first | apply Kd.N_alloc | apply Kd.N_drewN | apply Kd.N_drew)); exact HO_7.out)); obtain ⟨ce58, hcl58, hM58, hcc58, hfr58⟩ := Kd.N_elem HX58.out [] (x9_23 : Int) DT (by have h_ : (x9_23 : Int) < ((x7_3.length : Int) : Int) := DT; first | exact h_ | (have e_ := (Kd.N_reads' HO_7.out).1; omega) | simpa using h_); obtain ⟨ua58_0, uc58_0, rfl, ul58_0, ge58_0⟩ := Kd.FK_slice_open hM58; have HP58 := Kd.N_seg HX58.out (x9_23 : Int) DT (by have h_ : (x9_23 : Int) < ((x7_3.length : Int) : Int) := DT; first | exact h_ | (have e_ := (Kd.N_reads' HO_7.out).1; omega) | simpa using h_) (seg := [.slice A230_0 (rd_L9 x7_3 x8_3).length c230_0]) (j := 0) hcl58 hcc58 (show 1 ≤ 1 from by decide) (x' := rd_L9 x7_3 x8_3) (Kd.FK_slice_mk (Kd.V_reads' (Kd.V_mono (ok' := (fun k_ => ((fun k_ => (w.heap.size ≤ k_) ∧ some k_ ≠ (.slice (some ⟨go40, 0, none⟩) x5_3.length co52 : Value).ownBlock)) k_ ∧ k_ ≠ go44)) (HL230_0.out) (fun k_ hk => ⟨⟨hk.1.1, hk.1.2⟩, fun e_ => (hk.2) (by rw [e_]; rfl)⟩))).2.1 (Kd.V_F (Kd.V_mono (ok' := (fun k_ => ((fun k_ => (w.heap.size ≤ k_) ∧ some k_ ≠ (.slice (some ⟨go40, 0, none⟩) x5_3.length co52 : Value).ownBlock)) k_ ∧ k_ ≠ go44)) (HL230_0.out) (fun k_ hk => ⟨⟨hk.1.1, hk.1.2⟩, fun e_ => (hk.2) (by rw [e_]; rfl)⟩)))) (fun _ hk => hk); have hx58_0 := hcc58 0 _ rfl; (try simp only [show ((Kd.slice 3 (Kd.int .i64))).sz = 1 from rfl, Nat.mul_one, Nat.add_zero] at hx58_0); have hf58_0 := hfr58 0; (try simp only [show ((Kd.slice 3 (Kd.int .i64))).sz = 1 from rfl, Nat.mul_one, Nat.add_zero] at hf58_0); clear hcl58 hcc58 hfr58 hM58; (try simp only [show ((Kd.slice 3 (Kd.int .i64))).sz = 1 from rfl, Nat.mul_one, Nat.add_zero] at HP58); (try simp only [show ((Kd.slice 3 (Kd.int .i64))).sz = 1 from rfl, Nat.mul_one, Nat.add_zero] at HP58)) | ((with_reducible refine gate_store (t := 52) (p := 97) rfl ?_); refine store_event (t := 52) (p := 97) (v := ?vo_w59) (w1 := (w56.setCell ⟨go44, (x9_23 : Int).toNat, none⟩ (.slice A230_0 (rd_L9 x7_3 x8_3).length c230_0))) ?hg ?ho ?hn ?hr ?_; (case ho => rfl); (case hg => rfl); (case hn => rfl); (case hr => first | (go_simp; done) | (go_simp; rfl)); intro w59 hw; have hg : w56.grownBy w59 (some go44) := (by rw [hw]; exact HP58.2); have hp_ : Kd.N (Kd.slice 3 (Kd.int .i64)) 52 w59 w.heap.size (fun k_ => (w.heap.size ≤ k_) ∧ some k_ ≠ (.slice (some ⟨go40, 0, none⟩) x5_3.length co52 : Value).ownBlock) (.slice (some ⟨go44, 0, none⟩) x7_3.length co57) y231 := (by rw [hw, Ny231.out]; exact HP58.1); clear HP58; have n0_ := Aside0.mk (Kd.N_afterv (v := (.slice (some ⟨go44, 0, none⟩) x7_3.length co57)) (v1 := (.slice (some ⟨go44, 0, none⟩) x7_3.length co57)) (ok := (fun k_ => (w.heap.size ≤ k_))) (by (with_reducible repeat (first | apply Kd.N_alloc | apply Kd.N_drewN | apply Kd.N_drew)); exact HO_5.out) hg (.inl rfl)); have n1_ := Aside0.mk (hp_); have n2_ := Aside0.mk (Kd.V_afterv (v := (.slice (some ⟨go44, 0, none⟩) x7_3.length co57)) (v1 := (.slice (some ⟨go44, 0, none⟩) x7_3.length co57)) (ok := (fun k_ => (w.heap.size ≤ k_) ∧ some k_ ≠ (.slice (some ⟨go40, 0, none⟩) x5_3.length co52 : Value).ownBlock)) (by (with_reducible repeat (first | apply Kd.V_alloc | apply Kd.V_drewN | apply Kd.V_drew)); exact Kd.V_mono HL225_0.out (by first | exact (fun _ hk => ⟨⟨hk.1.1, hk.2⟩, hk.1.2⟩) | exact (fun _ hk => PT hk))) hg (.inl rfl)); have n3_ := Aside0.mk (Kd.V_afterv (v := (.slice (some ⟨go44, 0, none⟩) x7_3.length co57)) (v1 := (.slice (some ⟨go44, 0, none⟩) x7_3.length co57)) (ok := (fun k_ => (w.heap.size ≤ k_) ∧ some k_ ≠ (.slice (some ⟨go40, 0, none⟩) x5_3.length co52 : Value).ownBlock)) (by (with_reducible repeat (first | apply Kd.V_alloc | apply Kd.V_drewN | apply Kd.V_drew)); exact Kd.V_mono HL226_0.out (by first | exact (fun _ hk => ⟨⟨hk.1.1, hk.2⟩, hk.1.2⟩) | exact (fun _ hk => PT hk))) hg (.inl rfl)); have n4_ := Aside0.mk (Kd.V_afterv (v := (.slice (some ⟨go44, 0, none⟩) x7_3.length co57)) (v1 := (.slice (some ⟨go44, 0, none⟩) x7_3.length co57)) (ok := (fun k_ => (w.heap.size ≤ k_) ∧ some k_ ≠ (.slice (some ⟨go40, 0, none⟩) x5_3.length co52 : Value).ownBlock)) (by (with_reducible repeat (first | apply Kd.V_alloc | apply Kd.V_drewN | apply Kd.V_drew)); exact HL229_0.out) hg (.inl rfl)); have n5_ := Aside0.mk (Kd.V_afterv (v := (.slice (some ⟨go44, 0, none⟩) x7_3.length co57)) (v1 := (.slice (some ⟨go44, 0, none⟩) x7_3.length co57)) (ok := (fun k_ => (w.heap.size ≤ k_) ∧ some k_ ≠ (.slice (some ⟨go40, 0, none⟩) x5_3.length co52 : Value).ownBlock)) (by (with_reducible repeat (first | apply Kd.V_alloc | apply Kd.V_drewN | apply Kd.V_drew)); exact HL230_0.out) hg (.inl rfl)); have n6_ := Aside0.mk ((by rw [hw]; exact below_set (HB.out) GB44.out : Below w.heap.size w w59)); clear HO_5; clear HO_7; clear HL225_0; clear HL226_0; clear HL229_0; clear HL230_0; clear HB; have HO_5 := n0_; have HO_7 := n1_; have HL225_0 := n2_; have HL226_0 := n3_; have HL229_0 := n4_; have HL230_0 := n5_; have HB := n6_; clear n0_ n1_ n2_ n3_ n4_ n5_ n6_; clear hg hw hp_; have p45 : 0 ≤ (x8_3 : Int) := DT; have q45 : (x8_3 : Int) < ((x7_3.length : Int) : Int) := DT; obtain ⟨ce45, hcl45, hM45, hcc45, hfr45⟩ := Kd.N_elem HO_7.out [] (x8_3 : Int) p45 q45; obtain ⟨ua45_0, uc45_0, rfl, ul45_0, ge45_0⟩ := Kd.FK_slice_open hM45; have hx45_0 := hcc45 0 _ rfl; have hf45_0 := hfr45 0; (try simp only [show ((Kd.slice 3 (Kd.int .i64))).sz = 1 from rfl, Nat.mul_one, Nat.add_zero] at hx45_0); (try simp only [show ((Kd.slice 3 (Kd.int .i64))).sz = 1 from rfl, Nat.mul_one, Nat.add_zero] at hf45_0); clear hcl45 hcc45 hfr45 hM45; replace p45 := eq_true p45; replace q45 := eq_true q45; have HX60 := Aside0.mk (show Kd.N (Kd.slice 3 (Kd.int .i64)) 52 w59 w.heap.size (fun k_ => (w.heap.size ≤ k_) ∧ some k_ ≠ (.slice (some ⟨go40, 0, none⟩) x5_3.length co52 : Value).ownBlock) (.slice (some ⟨go44, 0, none⟩) x7_3.length co57) y231 from (by (with_reducible repeat (first | apply Kd.N_alloc | apply Kd.N_drewN | apply Kd.N_drew)); exact HO_7.out)); obtain ⟨ce60, hcl60, hM60, hcc60, hfr60⟩ := Kd.N_elem HX60.out [] (x8_3 : Int) DT (by have h_ : (x8_3 : Int) < ((x7_3.length : Int) : Int) := DT; first | exact h_ | (have e_ := (Kd.N_reads' HO_7.out).1; omega) | simpa using h_); obtain ⟨ua60_0, uc60_0, rfl, ul60_0, ge60_0⟩ := Kd.FK_slice_open hM60; have HP60 := Kd.N_seg HX60.out (x8_3 : Int) DT (by have h_ : (x8_3 : Int) < ((x7_3.length : Int) : Int) := DT; first | exact h_ | (have e_ := (Kd.N_reads' HO_7.out).1; omega) | simpa using h_) (seg := [.slice A229_0 (rd_L9 x7_3 x9_23).length c229_0]) (j := 0) hcl60 hcc60 (show 1 ≤ 1 from by decide) (x' := rd_L9 x7_3 x9_23) (Kd.FK_slice_mk (Kd.V_reads' (Kd.V_mono (ok' := (fun k_ => ((fun k_ => (w.heap.size ≤ k_) ∧ some k_ ≠ (.slice (some ⟨go40, 0, none⟩) x5_3.length co52 : Value).ownBlock)) k_ ∧ k_ ≠ go44)) (HL229_0.out) (fun k_ hk => ⟨⟨hk.1.1, hk.1.2⟩, fun e_ => (hk.2) (by rw [e_]; rfl)⟩))).2.1 (Kd.V_F (Kd.V_mono (ok' := (fun k_ => ((fun k_ => (w.heap.size ≤ k_) ∧ some k_ ≠ (.slice (some ⟨go40, 0, none⟩) x5_3.length co52 : Value).ownBlock)) k_ ∧ k_ ≠ go44)) (HL229_0.out) (fun k_ hk => ⟨⟨hk.1.1, hk.1.2⟩, fun e_ => (hk.2) (by rw [e_]; rfl)⟩)))) (fun _ hk => hk); have hx60_0 := hcc60 0 _ rfl; (try simp only [show ((Kd.slice 3 (Kd.int .i64))).sz = 1 from rfl, Nat.mul_one, Nat.add_zero] at hx60_0); have hf60_0 := hfr60 0; (try simp only [show ((Kd.slice 3 (Kd.int .i64))).sz = 1 from rfl, Nat.mul_one, Nat.add_zero] at hf60_0); clear hcl60 hcc60 hfr60 hM60; (try simp only [show ((Kd.slice 3 (Kd.int .i64))).sz = 1 from rfl, Nat.mul_one, Nat.add_zero] at HP60); (try simp only [show ((Kd.slice 3 (Kd.int .i64))).sz = 1 from rfl, Nat.mul_one, Nat.add_zero] at HP60)) | ((with_reducible refine gate_store (t := 52) (p := 101) rfl ?_); refine store_event (t := 52) (p := 101) (v := ?vo_w61) (w1 := (w59.setCell ⟨go44, (x8_3 : Int).toNat, none⟩ (.slice A229_0 (rd_L9 x7_3 x9_23).length c229_0))) ?hg ?ho ?hn ?hr ?_; (case ho => rfl); (case hg => rfl); (case hn => rfl); (case hr => first | (go_simp; done) | (go_simp; rfl)); intro w61 hw; have hg : w59.grownBy w61 (some go44) := (by rw [hw]; exact HP60.2); have hp_ : Kd.N (Kd.slice 3 (Kd.int .i64)) 52 w61 w.heap.size (fun k_ => (w.heap.size ≤ k_) ∧ some k_ ≠ (.slice (some ⟨go40, 0, none⟩) x5_3.length co52 : Value).ownBlock) (.slice (some ⟨go44, 0, none⟩) x7_3.length co57) y232 := (by rw [hw, Ny232.out]; exact HP60.1); clear HP60; have n0_ := Aside0.mk (Kd.N_afterv (v := (.slice (some ⟨go44, 0, none⟩) x7_3.length co57)) (v1 := (.slice (some ⟨go44, 0, none⟩) x7_3.length co57)) (ok := (fun k_ => (w.heap.size ≤ k_))) (by (with_reducible repeat (first | apply Kd.N_alloc | apply Kd.N_drewN | apply Kd.N_drew)); exact HO_5.out) hg (.inl rfl)); have n1_ := Aside0.mk (hp_); have n2_ := Aside0.mk (Kd.V_afterv (v := (.slice (some ⟨go44, 0, none⟩) x7_3.length co57)) (v1 := (.slice (some ⟨go44, 0, none⟩) x7_3.length co57)) (ok := (fun k_ => (w.heap.size ≤ k_) ∧ some k_ ≠ (.slice (some ⟨go40, 0, none⟩) x5_3.length co52 : Value).ownBlock)) (by (with_reducible repeat (first | apply Kd.V_alloc | apply Kd.V_drewN | apply Kd.V_drew)); exact HL225_0.out) hg (.inl rfl)); have n3_ := Aside0.mk (Kd.V_afterv (v := (.slice (some ⟨go44, 0, none⟩) x7_3.length co57)) (v1 := (.slice (some ⟨go44, 0, none⟩) x7_3.length co57)) (ok := (fun k_ => (w.heap.size ≤ k_) ∧ some k_ ≠ (.slice (some ⟨go40, 0, none⟩) x5_3.length co52 : Value).ownBlock)) (by (with_reducible repeat (first | apply Kd.V_alloc | apply Kd.V_drewN | apply Kd.V_drew)); exact HL226_0.out) hg (.inl rfl)); have n4_ := Aside0.mk (Kd.V_afterv (v := (.slice (some ⟨go44, 0, none⟩) x7_3.length co57)) (v1 := (.slice (some ⟨go44, 0, none⟩) x7_3.length co57)) (ok := (fun k_ => (w.heap.size ≤ k_) ∧ some k_ ≠ (.slice (some ⟨go40, 0, none⟩) x5_3.length co52 : Value).ownBlock)) (by (with_reducible repeat (first | apply Kd.V_alloc | apply Kd.V_drewN | apply Kd.V_drew)); exact HL229_0.out) hg (.inl rfl)); have n5_ := Aside0.mk (Kd.V_afterv (v := (.slice (some ⟨go44, 0, none⟩) x7_3.length co57)) (v1 := (.slice (some ⟨go44, 0, none⟩) x7_3.length co57)) (ok := (fun k_ => (w.heap.size ≤ k_) ∧ some k_ ≠ (.slice (some ⟨go40, 0, none⟩) x5_3.length co52 : Value).ownBlock)) (by (with_reducible repeat (first | apply Kd.V_alloc | apply Kd.V_drewN | apply Kd.V_drew)); exact HL230_0.out) hg (.inl rfl)); have n6_ := Aside0.mk ((by rw [hw]; exact below_set (HB.out) GB44.out : Below w.heap.size w w61)); clear HO_5; clear HO_7; clear HL225_0; clear HL226_0; clear HL229_0; clear HL230_0; clear HB; have HO_5 := n0_; have HO_7 := n1_; have HL225_0 := n2_; have HL226_0 := n3_; have HL229_0 := n4_; have HL230_0 := n5_; have HB := n6_; clear n0_ n1_ n2_ n3_ n4_ n5_ n6_; clear hg hw hp_; have p233 : 0 ≤ (x8_3 : Int) := DT; have q233 : x8_3 < (y228.length : Int) := (by have h_ : (x8_3 : Int) < ((x5_3.length : Int) : Int) := DT; first | (have e_ := (Kd.N_reads' HO_5.out).1; omega) | simpa only [Ny227.out, Ny228.out, List.length_set] using h_); have ql233 : ((x8_3 : Int) < ((x5_3.length : Int) : Int)) = True := eq_true DT; obtain ⟨ad233, A233_0, c233_0, e233, hx233_0, hl233_0, hi233_0⟩ := at_L9 (Kd.N_reads' HO_5.out).2.2 x8_3 p233 q233; obtain rfl : (⟨go40, 0, none⟩ : Addr) = ad233 := (by injection e233); obtain ⟨ce233, hce233, hMe233, hcc233⟩ := Kd.N_get HO_5.out [] x8_3 p233 (by first | exact q233 | exact DT | (have e_ := (Kd.N_reads' HO_5.out).1; omega)); obtain ⟨ua233_0, uc233_0, rfl, ul233_0, ge233_0⟩ := Kd.FK_slice_open hMe233; have hv233_0 := hcc233 0 _ rfl; rw [Nat.add_zero, show ((Kd.slice 3 (Kd.int .i64))).sz = 1 from rfl, Nat.mul_one] at hv233_0; replace hv233_0 := Option.some.inj (hv233_0.symm.trans hx233_0); injection hv233_0 with hva_ hvn_ hvc_; rw [hva_] at ge233_0; rw [hvc_] at ul233_0; have HL233_0 := Aside0.mk (show Kd.V (Kd.int .i64) 3 _ w.heap.size _ _ (rd_L9 y228 x8_3) from Kd.V_mk ul233_0 ge233_0); clear hva_ hvn_ hvc_ ge233_0 ul233_0; clear hcc233 hce233; (first | simp only [add_plain] at hx233_0 | simp only [add_at] at hx233_0 | simp only [Addr.add, Nat.zero_add] at hx233_0 | skip); have HR233_0 := Aside0.mk hi233_0; have HC233_0 := Aside0.mk hl233_0; clear hi233_0 hl233_0; replace p233 := eq_true p233; replace q233 := eq_true q233; have p234 : 0 ≤ (x8_3 : Int) := DT; have q234 : x8_3 < ((rd_L9 y228 x8_3).length : Int) := DT; obtain ⟨ad234, e234, hx234_0⟩ := Kd.at_int (by repeat (first | (with_reducible exact HR233_0.out) | (with_reducible refine Kd.C_alloc ?_ _) | (with_reducible refine Kd.C_drewN ?_ _) | (with_reducible refine Kd.C_drew ?_) | exact HR233_0.out)) x8_3 p234 q234; cases e234; replace p234 := eq_true p234; replace q234 := eq_true q234) | ((with_reducible refine gate_callee (f := 41) rfl ?_); refine GL (some 109) rfl rfl Try.func41 #[.int .i64 (rd (rd_L9 y228 x8_3) x8_3)] rfl ?_; (with_reducible refine (spec_InvG.calls kj23 (rd (rd_L9 y228 x8_3) x8_3) t235 _ A47.out).mono ?_); rintro e w' ⟨rfl, ⟨nd, rfl⟩⟩; refine ⟨_, rfl, ?_⟩; (try (rw [drewN_self w61]; generalize hq_ : World.drewN w61 _ = w61; (try replace hx233_0 := mvD hq_ hx233_0); have n0_ : Aside0 (Kd.V (Kd.int .i64) 3 w61 w.heap.size (fun k_ => (w.heap.size ≤ k_) ∧ some k_ ≠ (.slice (some ⟨go40, 0, none⟩) x5_3.length co52 : Value).ownBlock ∧ some k_ ≠ (.slice (some ⟨go44, 0, none⟩) x7_3.length co57 : Value).ownBlock) (.slice A225_0 (rd_L9 x5_3 x9_23).length c225_0) (rd_L9 x5_3 x9_23)) := ⟨by rw [← hq_]; exact (by (with_reducible repeat (first | apply Kd.V_alloc | apply Kd.V_drewN | apply Kd.V_drew)); exact Kd.V_mono HL225_0.out (by first | exact (fun _ hk => ⟨hk.1.1, ⟨hk.1.2, hk.2⟩⟩) | exact (fun _ hk => PT hk)))⟩; have n1_ : Aside0 (Kd.V (Kd.int .i64) 3 w61 w.heap.size (fun k_ => (w.heap.size ≤ k_) ∧ some k_ ≠ (.slice (some ⟨go40, 0, none⟩) x5_3.length co52 : Value).ownBlock ∧ some k_ ≠ (.slice (some ⟨go44, 0, none⟩) x7_3.length co57 : Value).ownBlock) (.slice A226_0 (rd_L9 x5_3 x8_3).length c226_0) (rd_L9 x5_3 x8_3)) := ⟨by rw [← hq_]; exact (by (with_reducible repeat (first | apply Kd.V_alloc | apply Kd.V_drewN | apply Kd.V_drew)); exact Kd.V_mono HL226_0.out (by first | exact (fun _ hk => ⟨hk.1.1, ⟨hk.1.2, hk.2⟩⟩) | exact (fun _ hk => PT hk)))⟩; have n2_ : Aside0 (Kd.V (Kd.int .i64) 3 w61 w.heap.size (fun k_ => (w.heap.size ≤ k_) ∧ some k_ ≠ (.slice (some ⟨go40, 0, none⟩) x5_3.length co52 : Value).ownBlock ∧ some k_ ≠ (.slice (some ⟨go44, 0, none⟩) x7_3.length co57 : Value).ownBlock) (.slice A229_0 (rd_L9 x7_3 x9_23).length c229_0) (rd_L9 x7_3 x9_23)) := ⟨by rw [← hq_]; exact (by (with_reducible repeat (first | apply Kd.V_alloc | apply Kd.V_drewN | apply Kd.V_drew)); exact Kd.V_mono HL229_0.out (by first | exact (fun _ hk => ⟨hk.1.1, ⟨hk.1.2, hk.2⟩⟩) | exact (fun _ hk => PT hk)))⟩; have n3_ : Aside0 (Kd.V (Kd.int .i64) 3 w61 w.heap.size (fun k_ => (w.heap.size ≤ k_) ∧ some k_ ≠ (.slice (some ⟨go40, 0, none⟩) x5_3.length co52 : Value).ownBlock ∧ some k_ ≠ (.slice (some ⟨go44, 0, none⟩) x7_3.length co57 : Value).ownBlock) (.slice A230_0 (rd_L9 x7_3 x8_3).length c230_0) (rd_L9 x7_3 x8_3)) := ⟨by rw [← hq_]; exact (by (with_reducible repeat (first | apply Kd.V_alloc | apply Kd.V_drewN | apply Kd.V_drew)); exact Kd.V_mono HL230_0.out (by first | exact (fun _ hk => ⟨hk.1.1, ⟨hk.1.2, hk.2⟩⟩) | exact (fun _ hk => PT hk)))⟩; have n4_ : Aside0 (Kd.V (Kd.int .i64) 3 w61 w.heap.size (fun k_ => (w.heap.size ≤ k_) ∧ some k_ ≠ (.slice (some ⟨go40, 0, none⟩) x5_3.length co52 : Value).ownBlock ∧ some k_ ≠ (.slice (some ⟨go44, 0, none⟩) x7_3.length co57 : Value).ownBlock) (.slice (some ad234) (rd_L9 y228 x8_3).length c233_0) (rd_L9 y228 x8_3)) := ⟨by rw [← hq_]; exact (by (with_reducible repeat (first | apply Kd.V_alloc | apply Kd.V_drewN | apply Kd.V_drew)); exact Kd.V_mono HL233_0.out (by first | exact (fun _ hk => ⟨hk.1.1, ⟨hk.2, hk.1.2⟩⟩) | exact (fun _ hk => PT hk)))⟩; have n5_ : Aside0 (Kd.N (Kd.slice 3 (Kd.int .i64)) 52 w61 w.heap.size (fun k_ => (w.heap.size ≤ k_) ∧ some k_ ≠ (.slice (some ⟨go44, 0, none⟩) x7_3.length co57 : Value).ownBlock) (.slice (some ⟨go40, 0, none⟩) x5_3.length co52) y228) := ⟨by rw [← hq_]; exact (by (with_reducible repeat (first | apply Kd.N_alloc | apply Kd.N_drewN | apply Kd.N_drew)); exact HO_5.out)⟩; have n6_ : Aside0 (Kd.N (Kd.slice 3 (Kd.int .i64)) 52 w61 w.heap.size (fun k_ => (w.heap.size ≤ k_) ∧ some k_ ≠ (.slice (some ⟨go40, 0, none⟩) x5_3.length co52 : Value).ownBlock) (.slice (some ⟨go44, 0, none⟩) x7_3.length co57) y232) := ⟨by rw [← hq_]; exact (by (with_reducible repeat (first | apply Kd.N_alloc | apply Kd.N_drewN | apply Kd.N_drew)); exact HO_7.out)⟩; have n7_ : Aside0 (Below w.heap.size w w61) := ⟨by rw [← hq_]; exact (BB HB.out)⟩; have n8_ : Aside0 (Kd.C (Kd.int .i64) w61 (some ad234) (rd_L9 y228 x8_3).length (rd_L9 y228 x8_3)) := ⟨by rw [← hq_]; exact (by repeat (first | (with_reducible exact HR233_0.out) | (with_reducible refine Kd.C_alloc ?_ _) | (with_reducible refine Kd.C_drewN ?_ _) | (with_reducible refine Kd.C_drew ?_) | exact HR233_0.out))⟩; clear HL225_0 HL226_0 HL229_0 HL230_0 HL233_0 HO_5 HO_7 HB HR233_0 hq_; have HL225_0 := n0_; have HL226_0 := n1_; have HL229_0 := n2_; have HL230_0 := n3_; have HL233_0 := n4_; have HO_5 := n5_; have HO_7 := n6_; have HB := n7_; have HR233_0 := n8_; clear n0_ n1_ n2_ n3_ n4_ n5_ n6_ n7_ n8_)); have p236 : 0 ≤ (x8_3 : Int) := DT; have q236 : x8_3 < (y228.length : Int) := (by have h_ : (x8_3 : Int) < ((x5_3.length : Int) : Int) := DT; first | (have e_ := (Kd.N_reads' HO_5.out).1; omega) | simpa only [Ny227.out, Ny228.out, List.length_set] using h_); have ql236 : ((x8_3 : Int) < ((x5_3.length : Int) : Int)) = True := eq_true DT; obtain ⟨ad236, A236_0, c236_0, e236, hx236_0, hl236_0, hi236_0⟩ := at_L9 (Kd.N_reads' HO_5.out).2.2 x8_3 p236 q236; obtain rfl : (⟨go40, 0, none⟩ : Addr) = ad236 := (by injection e236); obtain ⟨ce236, hce236, hMe236, hcc236⟩ := Kd.N_get HO_5.out [] x8_3 p236 (by first | exact q236 | exact DT | (have e_ := (Kd.N_reads' HO_5.out).1; omega)); obtain ⟨ua236_0, uc236_0, rfl, ul236_0, ge236_0⟩ := Kd.FK_slice_open hMe236; have hv236_0 := hcc236 0 _ rfl; rw [Nat.add_zero, show ((Kd.slice 3 (Kd.int .i64))).sz = 1 from rfl, Nat.mul_one] at hv236_0; replace hv236_0 := Option.some.inj (hv236_0.symm.trans hx236_0); injection hv236_0 with hva_ hvn_ hvc_; rw [hva_] at ge236_0; rw [hvc_] at ul236_0; have HL236_0 := Aside0.mk (show Kd.V (Kd.int .i64) 3 _ w.heap.size _ _ (rd_L9 y228 x8_3) from Kd.V_mk ul236_0 ge236_0); clear hva_ hvn_ hvc_ ge236_0 ul236_0; clear hcc236 hce236; (first | simp only [add_plain] at hx236_0 | simp only [add_at] at hx236_0 | simp only [Addr.add, Nat.zero_add] at hx236_0 | skip); have HR236_0 := Aside0.mk hi236_0; have HC236_0 := Aside0.mk hl236_0; clear hi236_0 hl236_0; replace p236 := eq_true p236; replace q236 := eq_true q236; have ea_ := Option.some.inj (hx233_0.symm.trans hx236_0); injection ea_ with ea_ en_ ec_; subst ea_; subst ec_; clear en_) | ((with_reducible refine gate_callee (f := 43) rfl ?_); refine GL (some 117) rfl rfl Try.func43 #[.slice (some ad234) (rd_L9 y228 x8_3).length c233_0, .int .i64 t235] rfl ?_; (with_reducible refine (spec_l06Times.calls kj23 _ _ (rd_L9 y228 x8_3) t235 t237 _ ?side1 ?side2 A48.out).mono ?_); (case side1 => repeat (first | exact (by repeat (first | (with_reducible exact HR236_0.out) | (with_reducible refine Kd.C_alloc ?_ _) | (with_reducible refine Kd.C_drewN ?_ _) | (with_reducible refine Kd.C_drew ?_) | exact HR236_0.out)) | (with_reducible refine Kd.C_alloc ?_ _) | (with_reducible refine Kd.C_drewN ?_ _) | (with_reducible refine Kd.C_drew ?_))); (case side2 => exact HC236_0.out); rintro e w62 ⟨v238, rfl, ho0, hb⟩; refine ⟨_, rfl, ?_⟩; have hstv238 := store_any (P := Try.prog) (by first | exact Kd.R_slice ho0 | exact Kd.S_slice ho0); have hfv238 := Aside0.mk (by first | exact Kd.R_slice ho0 | exact Kd.S_slice ho0 : ∃ A_ c_, v238 = .slice A_ _ c_); have n0_ := Aside0.mk (Kd.N_elder' (by (with_reducible repeat (first | apply Kd.N_alloc | apply Kd.N_drewN | apply Kd.N_drew)); exact HO_5.out) (Kd.R_base ho0) hb); have n1_ := Aside0.mk (Kd.N_elder' (by (with_reducible repeat (first | apply Kd.N_alloc | apply Kd.N_drewN | apply Kd.N_drew)); exact HO_7.out) (Kd.R_base ho0) hb); have n2_ := Aside0.mk (Kd.V_elder' (by (with_reducible repeat (first | apply Kd.V_alloc | apply Kd.V_drewN | apply Kd.V_drew)); exact HL225_0.out) (Kd.R_base ho0) hb); have n3_ := Aside0.mk (Kd.V_elder' (by (with_reducible repeat (first | apply Kd.V_alloc | apply Kd.V_drewN | apply Kd.V_drew)); exact HL226_0.out) (Kd.R_base ho0) hb); have n4_ := Aside0.mk (Kd.V_elder' (by (with_reducible repeat (first | apply Kd.V_alloc | apply Kd.V_drewN | apply Kd.V_drew)); exact HL229_0.out) (Kd.R_base ho0) hb); have n5_ := Aside0.mk (Kd.V_elder' (by (with_reducible repeat (first | apply Kd.V_alloc | apply Kd.V_drewN | apply Kd.V_drew)); exact HL230_0.out) (Kd.R_base ho0) hb); have n6_ := Aside0.mk (Kd.V_elder' (by (with_reducible repeat (first | apply Kd.V_alloc | apply Kd.V_drewN | apply Kd.V_drew)); exact HL233_0.out) (Kd.R_base ho0) hb); have n7_ := Aside0.mk (Kd.V_elder' (by (with_reducible repeat (first | apply Kd.V_alloc | apply Kd.V_drewN | apply Kd.V_drew)); exact HL236_0.out) (Kd.R_base ho0) hb); have n8_ := Aside0.mk (Kd.R_lower (Kd.R_newM (M := fun k_ => (w.heap.size ≤ k_)) ho0 (below_size (BB HB.out)) (fun k_ h_ => h_)) (below_size (BB HB.out))); have n9_ := Aside0.mk (Kd.C_below (by repeat (first | (with_reducible exact HR233_0.out) | (with_reducible refine Kd.C_alloc ?_ _) | (with_reducible refine Kd.C_drewN ?_ _) | (with_reducible refine Kd.C_drew ?_) | exact HR233_0.out)) hb); have n10_ := Aside0.mk (Kd.C_below (by repeat (first | (with_reducible exact HR236_0.out) | (with_reducible refine Kd.C_alloc ?_ _) | (with_reducible refine Kd.C_drewN ?_ _) | (with_reducible refine Kd.C_drew ?_) | exact HR236_0.out)) hb); have n11_ := Aside0.mk (below_step (BB HB.out) hb); clear HO_5; clear HO_7; clear HL225_0; clear HL226_0; clear HL229_0; clear HL230_0; clear HL233_0; clear HL236_0; clear HR233_0; clear HR236_0; clear HB; have HO_5 := n0_; have HO_7 := n1_; have HL225_0 := n2_; have HL226_0 := n3_; have HL229_0 := n4_; have HL230_0 := n5_; have HL233_0 := n6_; have HL236_0 := n7_; have HO239 := n8_; have HR233_0 := n9_; have HR236_0 := n10_; have HB := n11_; clear n0_ n1_ n2_ n3_ n4_ n5_ n6_ n7_ n8_ n9_ n10_ n11_; (try clear hb); (try clear ho0); have p49 : 0 ≤ (x8_3 : Int) := DT; have q49 : (x8_3 : Int) < ((x5_3.length : Int) : Int) := DT; obtain ⟨ce49, hcl49, hM49, hcc49, hfr49⟩ := Kd.N_elem HO_5.out [] (x8_3 : Int) p49 q49; obtain ⟨ua49_0, uc49_0, rfl, ul49_0, ge49_0⟩ := Kd.FK_slice_open hM49; have hx49_0 := hcc49 0 _ rfl; have hf49_0 := hfr49 0; (try simp only [show ((Kd.slice 3 (Kd.int .i64))).sz = 1 from rfl, Nat.mul_one, Nat.add_zero] at hx49_0); (try simp only [show ((Kd.slice 3 (Kd.int .i64))).sz = 1 from rfl, Nat.mul_one, Nat.add_zero] at hf49_0); clear hcl49 hcc49 hfr49 hM49; replace p49 := eq_true p49; replace q49 := eq_true q49; have n_ := Aside0.mk (Kd.N_mono (ok' := (fun k_ => (w.heap.size ≤ k_) ∧ some k_ ≠ (.slice (some ⟨go44, 0, none⟩) x7_3.length co57 : Value).ownBlock ∧ some k_ ≠ (v238 : Value).ownBlock)) HO_5.out (fun k_ hk => ⟨hk.1.1, ⟨hk.1.2, hk.2⟩⟩)); clear HO_5; have HO_5 := n_; clear n_; have HX63 := Aside0.mk (show Kd.N (Kd.slice 3 (Kd.int .i64)) 52 w62 w.heap.size (fun k_ => (w.heap.size ≤ k_) ∧ some k_ ≠ (.slice (some ⟨go44, 0, none⟩) x7_3.length co57 : Value).ownBlock) (.slice (some ⟨go40, 0, none⟩) x5_3.length co52) y228 from (by (with_reducible repeat (first | apply Kd.N_alloc | apply Kd.N_drewN | apply Kd.N_drew)); exact Kd.N_mono HO_5.out (fun _ hk => ⟨hk.1, hk.2.1⟩))); obtain ⟨ce63, hcl63, hM63, hcc63, hfr63⟩ := Kd.N_elem HX63.out [] (x8_3 : Int) DT (by have h_ : (x8_3 : Int) < ((x5_3.length : Int) : Int) := DT; first | exact h_ | (have e_ := (Kd.N_reads' HO_5.out).1; omega) | simpa using h_); obtain ⟨ua63_0, uc63_0, rfl, ul63_0, ge63_0⟩ := Kd.FK_slice_open hM63; have HP63 := Kd.N_seg HX63.out (x8_3 : Int) DT (by have h_ : (x8_3 : Int) < ((x5_3.length : Int) : Int) := DT; first | exact h_ | (have e_ := (Kd.N_reads' HO_5.out).1; omega) | simpa using h_) (seg := [v238]) (j := 0) hcl63 hcc63 (show 1 ≤ 1 from by decide) (x' := t237) (fk_of_R (Kd.R_mono (ok' := (fun k_ => ((fun k_ => (w.heap.size ≤ k_) ∧ some k_ ≠ (.slice (some ⟨go44, 0, none⟩) x7_3.length co57 : Value).ownBlock)) k_ ∧ k_ ≠ go40)) (Kd.R_apart' (Kd.R_apart' (HO239.out) (Kd.N_typed HO_7.out) (by decide)) (Kd.N_typed HO_5.out) (by decide)) (fun k_ hk => ⟨⟨hk.1.1.1, hk.1.2⟩, fun e_ => (hk.2) (by rw [e_]; rfl)⟩))) (fun _ hk => hk); have hx63_0 := hcc63 0 _ rfl; (try simp only [show ((Kd.slice 3 (Kd.int .i64))).sz = 1 from rfl, Nat.mul_one, Nat.add_zero] at hx63_0); have hf63_0 := hfr63 0; (try simp only [show ((Kd.slice 3 (Kd.int .i64))).sz = 1 from rfl, Nat.mul_one, Nat.add_zero] at hf63_0); clear hcl63 hcc63 hfr63 hM63; (try simp only [show ((Kd.slice 3 (Kd.int .i64))).sz = 1 from rfl, Nat.mul_one, Nat.add_zero] at HP63); (try simp only [show ((Kd.slice 3 (Kd.int .i64))).sz = 1 from rfl, Nat.mul_one, Nat.add_zero] at HP63)) | ((with_reducible refine gate_store (t := 52) (p := 118) rfl ?_); refine store_event (t := 52) (p := 118) (v := ?vo_w64) (w1 := (w62.setCell ⟨go40, (x8_3 : Int).toNat, none⟩ (v238))) ?hg ?ho ?hn ?hr ?_; (case ho => rfl); (case hg => rfl); (case hn => rfl); (case hr => first | (obtain ⟨A_, c_, e_⟩ := hfv238.out; rw [e_]; first | (go_simp; done) | (go_simp; rfl)) | (go_simp; done) | (go_simp; rfl)); intro w64 hw; have hg : w62.grownBy w64 (some go40) := (by rw [hw]; exact HP63.2); have hp_ : Kd.N (Kd.slice 3 (Kd.int .i64)) 52 w64 w.heap.size (fun k_ => (w.heap.size ≤ k_) ∧ some k_ ≠ (.slice (some ⟨go44, 0, none⟩) x7_3.length co57 : Value).ownBlock) (.slice (some ⟨go40, 0, none⟩) x5_3.length co52) y240 := (by rw [hw, Ny240.out]; exact HP63.1); clear HP63; have n0_ := Aside0.mk (hp_); have n1_ := Aside0.mk (Kd.N_afterv (v := (.slice (some ⟨go40, 0, none⟩) x5_3.length co52)) (v1 := (.slice (some ⟨go40, 0, none⟩) x5_3.length co52)) (ok := (fun k_ => (w.heap.size ≤ k_) ∧ some k_ ≠ (v238 : Value).ownBlock)) (by (with_reducible repeat (first | apply Kd.N_alloc | apply Kd.N_drewN | apply Kd.N_drew)); exact Kd.N_mono HO_7.out (fun _ hk => ⟨⟨hk.1.1, hk.2⟩, hk.1.2⟩)) hg (.inl rfl)); have n2_ := Aside0.mk (Kd.V_afterv (v := (.slice (some ⟨go40, 0, none⟩) x5_3.length co52)) (v1 := (.slice (some ⟨go40, 0, none⟩) x5_3.length co52)) (ok := (fun k_ => (w.heap.size ≤ k_) ∧ some k_ ≠ (.slice (some ⟨go44, 0, none⟩) x7_3.length co57 : Value).ownBlock ∧ some k_ ≠ (v238 : Value).ownBlock)) (by (with_reducible repeat (first | apply Kd.V_alloc | apply Kd.V_drewN | apply Kd.V_drew)); exact Kd.V_mono HL225_0.out (by first | exact (fun _ hk => ⟨⟨hk.1.1.1, ⟨hk.1.2, hk.2⟩⟩, hk.1.1.2⟩) | exact (fun _ hk => PT hk))) hg (.inl rfl)); have n3_ := Aside0.mk (Kd.V_afterv (v := (.slice (some ⟨go40, 0, none⟩) x5_3.length co52)) (v1 := (.slice (some ⟨go40, 0, none⟩) x5_3.length co52)) (ok := (fun k_ => (w.heap.size ≤ k_) ∧ some k_ ≠ (.slice (some ⟨go44, 0, none⟩) x7_3.length co57 : Value).ownBlock ∧ some k_ ≠ (v238 : Value).ownBlock)) (by (with_reducible repeat (first | apply Kd.V_alloc | apply Kd.V_drewN | apply Kd.V_drew)); exact Kd.V_mono HL226_0.out (by first | exact (fun _ hk => ⟨⟨hk.1.1.1, ⟨hk.1.2, hk.2⟩⟩, hk.1.1.2⟩) | exact (fun _ hk => PT hk))) hg (.inl rfl)); have n4_ := Aside0.mk (Kd.V_afterv (v := (.slice (some ⟨go40, 0, none⟩) x5_3.length co52)) (v1 := (.slice (some ⟨go40, 0, none⟩) x5_3.length co52)) (ok := (fun k_ => (w.heap.size ≤ k_) ∧ some k_ ≠ (.slice (some ⟨go44, 0, none⟩) x7_3.length co57 : Value).ownBlock ∧ some k_ ≠ (v238 : Value).ownBlock)) (by (with_reducible repeat (first | apply Kd.V_alloc | apply Kd.V_drewN | apply Kd.V_drew)); exact Kd.V_mono HL229_0.out (by first | exact (fun _ hk => ⟨⟨hk.1.1.1, ⟨hk.1.2, hk.2⟩⟩, hk.1.1.2⟩) | exact (fun _ hk => PT hk))) hg (.inl rfl)); have n5_ := Aside0.mk (Kd.V_afterv (v := (.slice (some ⟨go40, 0, none⟩) x5_3.length co52)) (v1 := (.slice (some ⟨go40, 0, none⟩) x5_3.length co52)) (ok := (fun k_ => (w.heap.size ≤ k_) ∧ some k_ ≠ (.slice (some ⟨go44, 0, none⟩) x7_3.length co57 : Value).ownBlock ∧ some k_ ≠ (v238 : Value).ownBlock)) (by (with_reducible repeat (first | apply Kd.V_alloc | apply Kd.V_drewN | apply Kd.V_drew)); exact Kd.V_mono HL230_0.out (by first | exact (fun _ hk => ⟨⟨hk.1.1.1, ⟨hk.1.2, hk.2⟩⟩, hk.1.1.2⟩) | exact (fun _ hk => PT hk))) hg (.inl rfl)); have n6_ := Aside0.mk (Kd.V_afterv (v := (.slice (some ⟨go40, 0, none⟩) x5_3.length co52)) (v1 := (.slice (some ⟨go40, 0, none⟩) x5_3.length co52)) (ok := (fun k_ => (w.heap.size ≤ k_) ∧ some k_ ≠ (.slice (some ⟨go44, 0, none⟩) x7_3.length co57 : Value).ownBlock ∧ some k_ ≠ (v238 : Value).ownBlock)) (by (with_reducible repeat (first | apply Kd.V_alloc | apply Kd.V_drewN | apply Kd.V_drew)); exact Kd.V_mono HL233_0.out (by first | exact (fun _ hk => ⟨⟨hk.1.1.1, ⟨hk.1.1.2, hk.2⟩⟩, hk.1.2⟩) | exact (fun _ hk => PT hk))) hg (.inl rfl)); have n7_ := Aside0.mk (Kd.V_afterv (v := (.slice (some ⟨go40, 0, none⟩) x5_3.length co52)) (v1 := (.slice (some ⟨go40, 0, none⟩) x5_3.length co52)) (ok := (fun k_ => (w.heap.size ≤ k_) ∧ some k_ ≠ (.slice (some ⟨go44, 0, none⟩) x7_3.length co57 : Value).ownBlock ∧ some k_ ≠ (v238 : Value).ownBlock)) (by (with_reducible repeat (first | apply Kd.V_alloc | apply Kd.V_drewN | apply Kd.V_drew)); exact Kd.V_mono HL236_0.out (by first | exact (fun _ hk => ⟨⟨hk.1.1.1, ⟨hk.1.1.2, hk.2⟩⟩, hk.1.2⟩) | exact (fun _ hk => PT hk))) hg (.inl rfl)); have n8_ := Aside0.mk ((by rw [hw]; exact below_set (HB.out) GB40.out : Below w.heap.size w w64)); clear HO_5; clear HO_7; clear HL225_0; clear HL226_0; clear HL229_0; clear HL230_0; clear HL233_0; clear HL236_0; clear HB; clear HO239; have HO_5 := n0_; have HO_7 := n1_; have HL225_0 := n2_; have HL226_0 := n3_; have HL229_0 := n4_; have HL230_0 := n5_; have HL233_0 := n6_; have HL236_0 := n7_; have HB := n8_; clear n0_ n1_ n2_ n3_ n4_ n5_ n6_ n7_ n8_; clear hg hw hp_; have p241 : 0 ≤ (x8_3 : Int) := DT; have q241 : x8_3 < (y232.length : Int) := (by have h_ : (x8_3 : Int) < ((x7_3.length : Int) : Int) := DT; first | (have e_ := (Kd.N_reads' HO_7.out).1; omega) | simpa only [Ny231.out, Ny232.out, List.length_set] using h_); have ql241 : ((x8_3 : Int) < ((x7_3.length : Int) : Int)) = True := eq_true DT; obtain ⟨ad241, A241_0, c241_0, e241, hx241_0, hl241_0, hi241_0⟩ := at_L9 (Kd.N_reads' HO_7.out).2.2 x8_3 p241 q241; obtain rfl : (⟨go44, 0, none⟩ : Addr) = ad241 := (by injection e241); obtain ⟨ce241, hce241, hMe241, hcc241⟩ := Kd.N_get HO_7.out [] x8_3 p241 (by first | exact q241 | exact DT | (have e_ := (Kd.N_reads' HO_7.out).1; omega)); obtain ⟨ua241_0, uc241_0, rfl, ul241_0, ge241_0⟩ := Kd.FK_slice_open hMe241; have hv241_0 := hcc241 0 _ rfl; rw [Nat.add_zero, show ((Kd.slice 3 (Kd.int .i64))).sz = 1 from rfl, Nat.mul_one] at hv241_0; replace hv241_0 := Option.some.inj (hv241_0.symm.trans hx241_0); injection hv241_0 with hva_ hvn_ hvc_; rw [hva_] at ge241_0; rw [hvc_] at ul241_0; have HL241_0 := Aside0.mk (show Kd.V (Kd.int .i64) 3 _ w.heap.size _ _ (rd_L9 y232 x8_3) from Kd.V_mk ul241_0 ge241_0); clear hva_ hvn_ hvc_ ge241_0 ul241_0; clear hcc241 hce241; (first | simp only [add_plain] at hx241_0 | simp only [add_at] at hx241_0 | simp only [Addr.add, Nat.zero_add] at hx241_0 | skip); have HR241_0 := Aside0.mk hi241_0; have HC241_0 := Aside0.mk hl241_0; clear hi241_0 hl241_0; replace p241 := eq_true p241; replace q241 := eq_true q241) | ((with_reducible refine gate_callee (f := 43) rfl ?_); refine GL (some 126) rfl rfl Try.func43 #[.slice A241_0 (rd_L9 y232 x8_3).length c241_0, .int .i64 t235] rfl ?_; (with_reducible refine (spec_l06Times.calls kj23 _ _ (rd_L9 y232 x8_3) t235 t242 _ ?side1 ?side2 A50.out).mono ?_); (case side1 => repeat (first | exact (by repeat (first | (with_reducible exact HR241_0.out) | (with_reducible refine Kd.C_alloc ?_ _) | (with_reducible refine Kd.C_drewN ?_ _) | (with_reducible refine Kd.C_drew ?_) | exact HR241_0.out)) | (with_reducible refine Kd.C_alloc ?_ _) | (with_reducible refine Kd.C_drewN ?_ _) | (with_reducible refine Kd.C_drew ?_))); (case side2 => exact HC241_0.out); rintro e w65 ⟨v243, rfl, ho0, hb⟩; refine ⟨_, rfl, ?_⟩; have hstv243 := store_any (P := Try.prog) (by first | exact Kd.R_slice ho0 | exact Kd.S_slice ho0); have hfv243 := Aside0.mk (by first | exact Kd.R_slice ho0 | exact Kd.S_slice ho0 : ∃ A_ c_, v243 = .slice A_ _ c_); have n0_ := Aside0.mk (Kd.N_elder' (by (with_reducible repeat (first | apply Kd.N_alloc | apply Kd.N_drewN | apply Kd.N_drew)); exact HO_5.out) (Kd.R_base ho0) hb); have n1_ := Aside0.mk (Kd.N_elder' (by (with_reducible repeat (first | apply Kd.N_alloc | apply Kd.N_drewN | apply Kd.N_drew)); exact HO_7.out) (Kd.R_base ho0) hb); have n2_ := Aside0.mk (Kd.V_elder' (by (with_reducible repeat (first | apply Kd.V_alloc | apply Kd.V_drewN | apply Kd.V_drew)); exact HL225_0.out) (Kd.R_base ho0) hb); have n3_ := Aside0.mk (Kd.V_elder' (by (with_reducible repeat (first | apply Kd.V_alloc | apply Kd.V_drewN | apply Kd.V_drew)); exact HL226_0.out) (Kd.R_base ho0) hb); have n4_ := Aside0.mk (Kd.V_elder' (by (with_reducible repeat (first | apply Kd.V_alloc | apply Kd.V_drewN | apply Kd.V_drew)); exact HL229_0.out) (Kd.R_base ho0) hb); have n5_ := Aside0.mk (Kd.V_elder' (by (with_reducible repeat (first | apply Kd.V_alloc | apply Kd.V_drewN | apply Kd.V_drew)); exact HL230_0.out) (Kd.R_base ho0) hb); have n6_ := Aside0.mk (Kd.V_elder' (by (with_reducible repeat (first | apply Kd.V_alloc | apply Kd.V_drewN | apply Kd.V_drew)); exact HL233_0.out) (Kd.R_base ho0) hb); have n7_ := Aside0.mk (Kd.V_elder' (by (with_reducible repeat (first | apply Kd.V_alloc | apply Kd.V_drewN | apply Kd.V_drew)); exact HL236_0.out) (Kd.R_base ho0) hb); have n8_ := Aside0.mk (Kd.V_elder' (by (with_reducible repeat (first | apply Kd.V_alloc | apply Kd.V_drewN | apply Kd.V_drew)); exact HL241_0.out) (Kd.R_base ho0) hb); have n9_ := Aside0.mk (Kd.R_lower (Kd.R_newM (M := fun k_ => (w.heap.size ≤ k_)) ho0 (below_size (BB HB.out)) (fun k_ h_ => h_)) (below_size (BB HB.out))); have n10_ := Aside0.mk (Kd.C_below (by repeat (first | (with_reducible exact HR241_0.out) | (with_reducible refine Kd.C_alloc ?_ _) | (with_reducible refine Kd.C_drewN ?_ _) | (with_reducible refine Kd.C_drew ?_) | exact HR241_0.out)) hb); have n11_ := Aside0.mk (below_step (BB HB.out) hb); clear HO_5; clear HO_7; clear HL225_0; clear HL226_0; clear HL229_0; clear HL230_0; clear HL233_0; clear HL236_0; clear HL241_0; clear HR241_0; clear HB; have HO_5 := n0_; have HO_7 := n1_; have HL225_0 := n2_; have HL226_0 := n3_; have HL229_0 := n4_; have HL230_0 := n5_; have HL233_0 := n6_; have HL236_0 := n7_; have HL241_0 := n8_; have HO244 := n9_; have HR241_0 := n10_; have HB := n11_; clear n0_ n1_ n2_ n3_ n4_ n5_ n6_ n7_ n8_ n9_ n10_ n11_; (try clear hb); (try clear ho0); have p51 : 0 ≤ (x8_3 : Int) := DT; have q51 : (x8_3 : Int) < ((x7_3.length : Int) : Int) := DT; obtain ⟨ce51, hcl51, hM51, hcc51, hfr51⟩ := Kd.N_elem HO_7.out [] (x8_3 : Int) p51 q51; obtain ⟨ua51_0, uc51_0, rfl, ul51_0, ge51_0⟩ := Kd.FK_slice_open hM51; have hx51_0 := hcc51 0 _ rfl; have hf51_0 := hfr51 0; (try simp only [show ((Kd.slice 3 (Kd.int .i64))).sz = 1 from rfl, Nat.mul_one, Nat.add_zero] at hx51_0); (try simp only [show ((Kd.slice 3 (Kd.int .i64))).sz = 1 from rfl, Nat.mul_one, Nat.add_zero] at hf51_0); clear hcl51 hcc51 hfr51 hM51; replace p51 := eq_true p51; replace q51 := eq_true q51; have n_ := Aside0.mk (Kd.N_mono (ok' := (fun k_ => (w.heap.size ≤ k_) ∧ some k_ ≠ (.slice (some ⟨go40, 0, none⟩) x5_3.length co52 : Value).ownBlock ∧ some k_ ≠ (v243 : Value).ownBlock)) HO_7.out (fun k_ hk => ⟨hk.1.1.1, ⟨hk.1.2, hk.2⟩⟩)); clear HO_7; have HO_7 := n_; clear n_; have HX66 := Aside0.mk (show Kd.N (Kd.slice 3 (Kd.int .i64)) 52 w65 w.heap.size (fun k_ => (w.heap.size ≤ k_) ∧ some k_ ≠ (.slice (some ⟨go40, 0, none⟩) x5_3.length co52 : Value).ownBlock) (.slice (some ⟨go44, 0, none⟩) x7_3.length co57) y232 from (by (with_reducible repeat (first | apply Kd.N_alloc | apply Kd.N_drewN | apply Kd.N_drew)); exact Kd.N_mono HO_7.out (fun _ hk => ⟨hk.1, hk.2.1⟩))); obtain ⟨ce66, hcl66, hM66, hcc66, hfr66⟩ := Kd.N_elem HX66.out [] (x8_3 : Int) DT (by have h_ : (x8_3 : Int) < ((x7_3.length : Int) : Int) := DT; first | exact h_ | (have e_ := (Kd.N_reads' HO_7.out).1; omega) | simpa using h_); obtain ⟨ua66_0, uc66_0, rfl, ul66_0, ge66_0⟩ := Kd.FK_slice_open hM66; have HP66 := Kd.N_seg HX66.out (x8_3 : Int) DT (by have h_ : (x8_3 : Int) < ((x7_3.length : Int) : Int) := DT; first | exact h_ | (have e_ := (Kd.N_reads' HO_7.out).1; omega) | simpa using h_) (seg := [v243]) (j := 0) hcl66 hcc66 (show 1 ≤ 1 from by decide) (x' := t242) (fk_of_R (Kd.R_mono (ok' := (fun k_ => ((fun k_ => (w.heap.size ≤ k_) ∧ some k_ ≠ (.slice (some ⟨go40, 0, none⟩) x5_3.length co52 : Value).ownBlock)) k_ ∧ k_ ≠ go44)) (Kd.R_apart' (Kd.R_apart' (HO244.out) (Kd.N_typed HO_5.out) (by decide)) (Kd.N_typed HO_7.out) (by decide)) (fun k_ hk => ⟨⟨hk.1.1.1, hk.1.2⟩, fun e_ => (hk.2) (by rw [e_]; rfl)⟩))) (fun _ hk => hk); have hx66_0 := hcc66 0 _ rfl; (try simp only [show ((Kd.slice 3 (Kd.int .i64))).sz = 1 from rfl, Nat.mul_one, Nat.add_zero] at hx66_0); have hf66_0 := hfr66 0; (try simp only [show ((Kd.slice 3 (Kd.int .i64))).sz = 1 from rfl, Nat.mul_one, Nat.add_zero] at hf66_0); clear hcl66 hcc66 hfr66 hM66; (try simp only [show ((Kd.slice 3 (Kd.int .i64))).sz = 1 from rfl, Nat.mul_one, Nat.add_zero] at HP66); (try simp only [show ((Kd.slice 3 (Kd.int .i64))).sz = 1 from rfl, Nat.mul_one, Nat.add_zero] at HP66)) | ((with_reducible refine gate_store (t := 52) (p := 127) rfl ?_); refine store_event (t := 52) (p := 127) (v := ?vo_w67) (w1 := (w65.setCell ⟨go44, (x8_3 : Int).toNat, none⟩ (v243))) ?hg ?ho ?hn ?hr ?_; (case ho => rfl); (case hg => rfl); (case hn => rfl); (case hr => first | (obtain ⟨A_, c_, e_⟩ := hfv243.out; rw [e_]; first | (go_simp; done) | (go_simp; rfl)) | (go_simp; done) | (go_simp; rfl)); intro w67 hw; have hg : w65.grownBy w67 (some go44) := (by rw [hw]; exact HP66.2); have hp_ : Kd.N (Kd.slice 3 (Kd.int .i64)) 52 w67 w.heap.size (fun k_ => (w.heap.size ≤ k_) ∧ some k_ ≠ (.slice (some ⟨go40, 0, none⟩) x5_3.length co52 : Value).ownBlock) (.slice (some ⟨go44, 0, none⟩) x7_3.length co57) y245 := (by rw [hw, Ny245.out]; exact HP66.1); clear HP66; have n0_ := Aside0.mk (Kd.N_afterv (v := (.slice (some ⟨go44, 0, none⟩) x7_3.length co57)) (v1 := (.slice (some ⟨go44, 0, none⟩) x7_3.length co57)) (ok := (fun k_ => (w.heap.size ≤ k_) ∧ some k_ ≠ (v243 : Value).ownBlock)) (by (with_reducible repeat (first | apply Kd.N_alloc | apply Kd.N_drewN | apply Kd.N_drew)); exact Kd.N_mono HO_5.out (fun _ hk => ⟨⟨hk.1.1, hk.2⟩, hk.1.2⟩)) hg (.inl rfl)); have n1_ := Aside0.mk (hp_); have n2_ := Aside0.mk (Kd.V_afterv (v := (.slice (some ⟨go44, 0, none⟩) x7_3.length co57)) (v1 := (.slice (some ⟨go44, 0, none⟩) x7_3.length co57)) (ok := (fun k_ => (w.heap.size ≤ k_) ∧ some k_ ≠ (.slice (some ⟨go40, 0, none⟩) x5_3.length co52 : Value).ownBlock ∧ some k_ ≠ (v243 : Value).ownBlock)) (by (with_reducible repeat (first | apply Kd.V_alloc | apply Kd.V_drewN | apply Kd.V_drew)); exact Kd.V_mono HL225_0.out (by first | exact (fun _ hk => ⟨⟨hk.1.1.1, ⟨hk.1.2, hk.2⟩⟩, hk.1.1.2.1⟩) | exact (fun _ hk => PT hk))) hg (.inl rfl)); have n3_ := Aside0.mk (Kd.V_afterv (v := (.slice (some ⟨go44, 0, none⟩) x7_3.length co57)) (v1 := (.slice (some ⟨go44, 0, none⟩) x7_3.length co57)) (ok := (fun k_ => (w.heap.size ≤ k_) ∧ some k_ ≠ (.slice (some ⟨go40, 0, none⟩) x5_3.length co52 : Value).ownBlock ∧ some k_ ≠ (v243 : Value).ownBlock)) (by (with_reducible repeat (first | apply Kd.V_alloc | apply Kd.V_drewN | apply Kd.V_drew)); exact Kd.V_mono HL226_0.out (by first | exact (fun _ hk => ⟨⟨hk.1.1.1, ⟨hk.1.2, hk.2⟩⟩, hk.1.1.2.1⟩) | exact (fun _ hk => PT hk))) hg (.inl rfl)); have n4_ := Aside0.mk (Kd.V_afterv (v := (.slice (some ⟨go44, 0, none⟩) x7_3.length co57)) (v1 := (.slice (some ⟨go44, 0, none⟩) x7_3.length co57)) (ok := (fun k_ => (w.heap.size ≤ k_) ∧ some k_ ≠ (.slice (some ⟨go40, 0, none⟩) x5_3.length co52 : Value).ownBlock ∧ some k_ ≠ (v243 : Value).ownBlock)) (by (with_reducible repeat (first | apply Kd.V_alloc | apply Kd.V_drewN | apply Kd.V_drew)); exact Kd.V_mono HL229_0.out (by first | exact (fun _ hk => ⟨⟨hk.1.1.1, ⟨hk.1.2, hk.2⟩⟩, hk.1.1.2.1⟩) | exact (fun _ hk => PT hk))) hg (.inl rfl)); have n5_ := Aside0.mk (Kd.V_afterv (v := (.slice (some ⟨go44, 0, none⟩) x7_3.length co57)) (v1 := (.slice (some ⟨go44, 0, none⟩) x7_3.length co57)) (ok := (fun k_ => (w.heap.size ≤ k_) ∧ some k_ ≠ (.slice (some ⟨go40, 0, none⟩) x5_3.length co52 : Value).ownBlock ∧ some k_ ≠ (v243 : Value).ownBlock)) (by (with_reducible repeat (first | apply Kd.V_alloc | apply Kd.V_drewN | apply Kd.V_drew)); exact Kd.V_mono HL230_0.out (by first | exact (fun _ hk => ⟨⟨hk.1.1.1, ⟨hk.1.2, hk.2⟩⟩, hk.1.1.2.1⟩) | exact (fun _ hk => PT hk))) hg (.inl rfl)); have n6_ := Aside0.mk (Kd.V_afterv (v := (.slice (some ⟨go44, 0, none⟩) x7_3.length co57)) (v1 := (.slice (some ⟨go44, 0, none⟩) x7_3.length co57)) (ok := (fun k_ => (w.heap.size ≤ k_) ∧ some k_ ≠ (.slice (some ⟨go40, 0, none⟩) x5_3.length co52 : Value).ownBlock ∧ some k_ ≠ (v243 : Value).ownBlock)) (by (with_reducible repeat (first | apply Kd.V_alloc | apply Kd.V_drewN | apply Kd.V_drew)); exact Kd.V_mono HL233_0.out (by first | exact (fun _ hk => ⟨⟨hk.1.1.1, ⟨hk.1.2, hk.2⟩⟩, hk.1.1.2.1⟩) | exact (fun _ hk => PT hk))) hg (.inl rfl)); have n7_ := Aside0.mk (Kd.V_afterv (v := (.slice (some ⟨go44, 0, none⟩) x7_3.length co57)) (v1 := (.slice (some ⟨go44, 0, none⟩) x7_3.length co57)) (ok := (fun k_ => (w.heap.size ≤ k_) ∧ some k_ ≠ (.slice (some ⟨go40, 0, none⟩) x5_3.length co52 : Value).ownBlock ∧ some k_ ≠ (v243 : Value).ownBlock)) (by (with_reducible repeat (first | apply Kd.V_alloc | apply Kd.V_drewN | apply Kd.V_drew)); exact Kd.V_mono HL236_0.out (by first | exact (fun _ hk => ⟨⟨hk.1.1.1, ⟨hk.1.2, hk.2⟩⟩, hk.1.1.2.1⟩) | exact (fun _ hk => PT hk))) hg (.inl rfl)); have n8_ := Aside0.mk (Kd.V_afterv (v := (.slice (some ⟨go44, 0, none⟩) x7_3.length co57)) (v1 := (.slice (some ⟨go44, 0, none⟩) x7_3.length co57)) (ok := (fun k_ => (w.heap.size ≤ k_) ∧ some k_ ≠ (.slice (some ⟨go40, 0, none⟩) x5_3.length co52 : Value).ownBlock ∧ some k_ ≠ (v243 : Value).ownBlock)) (by (with_reducible repeat (first | apply Kd.V_alloc | apply Kd.V_drewN | apply Kd.V_drew)); exact Kd.V_mono HL241_0.out (by first | exact (fun _ hk => ⟨⟨hk.1.1.1.1, ⟨hk.1.1.2, hk.2⟩⟩, hk.1.2⟩) | exact (fun _ hk => PT hk))) hg (.inl rfl)); have n9_ := Aside0.mk ((by rw [hw]; exact below_set (HB.out) GB44.out : Below w.heap.size w w67)); clear HO_5; clear HO_7; clear HL225_0; clear HL226_0; clear HL229_0; clear HL230_0; clear HL233_0; clear HL236_0; clear HL241_0; clear HB; clear HO244; have HO_5 := n0_; have HO_7 := n1_; have HL225_0 := n2_; have HL226_0 := n3_; have HL229_0 := n4_; have HL230_0 := n5_; have HL233_0 := n6_; have HL236_0 := n7_; have HL241_0 := n8_; have HB := n9_; clear n0_ n1_ n2_ n3_ n4_ n5_ n6_ n7_ n8_ n9_; clear hg hw hp_))
                    go_loopg [13] kj23 (fun kq v13 w' => ∃ (x5_5 : List (List Int)) (x7_5 : List (List Int)) (x13_5 : Int), v13 = .int .i64 x13_5 ∧ Aside0 (spec_InvM.l3 kq (l0.length : Int) x5_5 x7_5 x8_3 x13_5 = some (r1, r2)) ∧ Aside0 (kq ≤ kj23) ∧ Aside0 (Kd.N (Kd.slice 3 (Kd.int .i64)) 52 w' w.heap.size (fun k_ => (w.heap.size ≤ k_) ∧ some k_ ≠ ((.slice (some ⟨go44, 0, none⟩) x7_3.length co57) : Value).ownBlock) (.slice (some ⟨go40, 0, none⟩) x5_3.length co52) x5_5) ∧ Aside0 (Kd.N (Kd.slice 3 (Kd.int .i64)) 52 w' w.heap.size (fun k_ => (w.heap.size ≤ k_) ∧ some k_ ≠ ((.slice (some ⟨go40, 0, none⟩) x5_3.length co52) : Value).ownBlock) (.slice (some ⟨go44, 0, none⟩) x7_3.length co57) x7_5) ∧ Aside0 (Below w.heap.size w w'))
                    case atStart => exact ⟨(y240), (y245), (0), FR, H', ⟨Nat.le_refl _⟩, ⟨by (with_reducible repeat (first | apply Kd.N_alloc | apply Kd.N_drewN | apply Kd.N_drew)); exact Kd.N_mono HO_5.out (fun _ hk => ⟨hk.1.1, hk.2⟩)⟩, ⟨by (with_reducible repeat (first | apply Kd.N_alloc | apply Kd.N_drewN | apply Kd.N_drew)); exact HO_7.out⟩, ⟨(BB HB.out)⟩⟩
                    case round =>
                     clear H'
                     try clear c1
                     try clear c2
                     try clear p2
                     try clear q2
                     try clear hx2
                     try clear qi2
                     try clear c3
                     try clear c4
                     try clear p4
                     try clear q4
                     try clear hx4
                     try clear hf4
                     try clear c5
                     try clear c5b0
                     try clear c5b1
                     try clear p5
                     try clear q5
                     try clear hx5
                     try clear hf5
                     try clear c6
                     try clear p6
                     try clear hx6
                     try clear hf6
                     try clear c11
                     try clear c11b0
                     try clear c12
                     try clear c12b0
                     try clear c13
                     try clear c13b0
                     try clear c14
                     try clear c15
                     try clear c20
                     try clear p20
                     try clear q20
                     try clear hx20
                     try clear qi20
                     try clear c21
                     try clear p21
                     try clear q21
                     try clear hx21
                     try clear c22
                     try clear p22
                     try clear q22
                     try clear hx22
                     try clear c23
                     try clear c23b0
                     try clear p23
                     try clear q23
                     try clear hx23
                     try clear c24
                     try clear p24
                     try clear q24
                     try clear hx24
                     try clear c25
                     try clear c25b0
                     try clear c26
                     try clear c26b0
                     try clear c27
                     try clear c27b0
                     try clear c28
                     try clear c28b0
                     try clear c29
                     try clear c29b0
                     try clear c30
                     try clear c30b0
                     try clear c30b1
                     try clear c33
                     try clear c33b0
                     try clear c33b1
                     try clear c36
                     try clear c36b0
                     try clear c37
                     try clear c37b0
                     try clear c38
                     try clear c38b0
                     try clear c39
                     try clear c39b0
                     try clear c40
                     try clear p40
                     try clear q40
                     try clear hx40
                     try clear hf40
                     try clear c41
                     try clear p41
                     try clear q41
                     try clear hx41
                     try clear hf41
                     try clear c42
                     try clear c42b0
                     try clear c43
                     try clear c43b0
                     try clear c44
                     try clear p44
                     try clear q44
                     try clear hx44
                     try clear hf44
                     try clear c45
                     try clear p45
                     try clear q45
                     try clear hx45
                     try clear hf45
                     try clear c46
                     try clear c46b0
                     try clear c49
                     try clear p49
                     try clear q49
                     try clear hx49
                     try clear hf49
                     try clear c51
                     try clear p51
                     try clear q51
                     try clear hx51
                     try clear hf51
                     try clear c53
                     try clear hx53
                     try clear hf53
                     try clear c55
                     try clear hx55
                     try clear hf55
                     try clear c58
                     try clear hx58
                     try clear hf58
                     try clear c60
                     try clear hx60
                     try clear hf60
                     try clear c63
                     try clear hx63
                     try clear hf63
                     try clear p64
                     try clear c66
                     try clear hx66
                     try clear hf66
                     try clear hx200_0
                     try clear hx210_0
                     try clear hx220_0
                     try clear hx221_0
                     try clear hx225_0
                     try clear hx226_0
                     try clear hx229_0
                     try clear hx230_0
                     try clear hx233_0
                     try clear hx234_0
                     try clear hx236_0
                     try clear hx241_0
                     try clear hx40_0
                     try clear hx41_0
                     try clear hx44_0
                     try clear hx45_0
                     try clear hx49_0
                     try clear hx51_0
                     try clear hx53_0
                     try clear hx55_0
                     try clear hx58_0
                     try clear hx60_0
                     try clear hx63_0
                     try clear hx66_0
                     try clear p2
                     try clear p20
                     try clear p200
                     try clear p21
                     try clear p210
                     try clear p22
                     try clear p220
                     try clear p221
                     try clear p225
                     try clear p226
                     try clear p229
                     try clear p230
                     try clear p233
                     try clear p234
                     try clear p236
                     try clear p241
                     try clear p40
                     try clear p41
                     try clear p44
                     try clear p45
                     try clear p49
                     try clear p51
                     try clear p6
                     try clear q2
                     try clear q20
                     try clear q200
                     try clear q21
                     try clear q210
                     try clear q22
                     try clear q220
                     try clear q221
                     try clear q225
                     try clear q226
                     try clear q229
                     try clear q230
                     try clear q233
                     try clear q234
                     try clear q236
                     try clear q241
                     try clear q40
                     try clear q41
                     try clear q44
                     try clear q45
                     try clear q49
                     try clear q51
                     obtain ⟨x5_5, x7_5, x13_5, rfl, HA, HK5, HO_5, HO_7, HB⟩ := hrel
                     have hl5_5 := (Kd.N_reads' HO_5.out).1
                     rw [hl5_5] at HO_5
                     (try simp only [hl5_5])
                     (try simp only [hl5_5] at HO_7)
                     have hl7_5 := (Kd.N_reads' HO_7.out).1
                     rw [hl7_5] at HO_7
                     (try simp only [hl7_5])
                     (try simp only [hl7_5] at HO_5)
                     cases gk with
                     | zero => exact absurd HA.out (by simp [spec_InvM.l3])
                     | succ k5 =>
                      have H := HA.out
                      clear HA
                      simp only [spec_InvM.l3] at H
                      by_cases c68 : x13_5 < (l0.length : Int)
                      ·rw [if_pos c68] at H
                       have c68b0 : decide (x13_5 < (l0.length : Int)) = true := decide_eq_true c68
                       (try (have c68b0_hl5_5 := c68b0; rw [hl5_5] at c68b0_hl5_5))
                       (try (have c68b0_hl7_5 := c68b0; rw [hl7_5] at c68b0_hl7_5))
                       clear c68
                       have HC69 := Aside0.mk H
                       clear H
                       go_upto_region 30 with (fail)
                       go_cut [145] (fun v145 wc => ∃ (kq : Nat) (x145_68 : Bool), v145 = .bool x145_68 ∧ Aside0 (spec_InvM.j6 kq (l0.length : Int) x5_5 x7_5 x8_3 x13_5 x145_68 = some (r1, r2)) ∧ Aside0 (kq ≤ k5) ∧ Aside0 (Kd.N (Kd.slice 3 (Kd.int .i64)) 52 wc w.heap.size (fun k_ => (w.heap.size ≤ k_) ∧ some k_ ≠ ((.slice (some ⟨go44, 0, none⟩) x7_5.length co57) : Value).ownBlock) (.slice (some ⟨go40, 0, none⟩) x5_5.length co52) x5_5) ∧ Aside0 (Kd.N (Kd.slice 3 (Kd.int .i64)) 52 wc w.heap.size (fun k_ => (w.heap.size ≤ k_) ∧ some k_ ≠ ((.slice (some ⟨go40, 0, none⟩) x5_5.length co52) : Value).ownBlock) (.slice (some ⟨go44, 0, none⟩) x7_5.length co57) x7_5) ∧ Aside0 (Below w.heap.size w wc))
                       case first =>
                        have H := HC69.out
                        clear HC69
                        by_cases c70 : x13_5 = x8_3
                        ·rw [if_pos c70] at H
                         have c70b0 : (x13_5 == x8_3) = true := beq_iff_eq.mpr c70
                         have c70b1 : (x13_5 != x8_3) = false := bne_eq_false_iff_eq.mpr c70
                         clear c70
                         (first | rw [c70b0] | (simp only [i64_w, i32_w]; rw [c70b0]) | skip)
                         have H' := Aside0.mk H
                         clear H
                         go_wp2
                         go_meet
                         case rel => exact ⟨_, (false), FR, H', ⟨by have := HJ1.out; have := HK2.out; have := HK3.out; have := HJ23.out; have := HK5.out; first | omega | exact Nat.le_refl _⟩, ⟨by (try simp only [hl5_5]); (try simp only [hl7_5]); (with_reducible repeat (first | apply Kd.N_alloc | apply Kd.N_drewN | apply Kd.N_drew)); exact HO_5.out⟩, ⟨by (try simp only [hl5_5]); (try simp only [hl7_5]); (with_reducible repeat (first | apply Kd.N_alloc | apply Kd.N_drewN | apply Kd.N_drew)); exact HO_7.out⟩, ⟨(BB HB.out)⟩⟩
                        ·rw [if_neg c70] at H
                         have c70b0 : (x13_5 == x8_3) = false := beq_eq_false_iff_ne.mpr c70
                         have c70b1 : (x13_5 != x8_3) = true := bne_iff_ne.mpr c70
                         (first | rw [c70b0] | (simp only [i64_w, i32_w]; rw [c70b0]) | skip)
                         by_cases c71 : 0 ≤ x13_5
                         ·rw [if_pos c71] at H
                          have c71b0 : decide (0 ≤ x13_5) = true := decide_eq_true c71
                          clear c71
                          by_cases c72 : x13_5 < (x5_5.length : Int)
                          ·rw [if_pos c72] at H
                           have c72b0 : decide (x13_5 < (x5_5.length : Int)) = true := decide_eq_true c72
                           (try (have c72b0_hl5_5 := c72b0; rw [hl5_5] at c72b0_hl5_5))
                           (try (have c72b0_hl7_5 := c72b0; rw [hl7_5] at c72b0_hl7_5))
                           clear c72
                           by_cases c73 : 0 ≤ x8_3
                           ·rw [if_pos c73] at H
                            have c73b0 : decide (0 ≤ x8_3) = true := decide_eq_true c73
                            clear c73
                            by_cases c74 : x8_3 < ((rd_L9 x5_5 x13_5).length : Int)
                            ·rw [if_pos c74] at H
                             have c74b0 : decide (x8_3 < ((rd_L9 x5_5 x13_5).length : Int)) = true := decide_eq_true c74
                             (try (have c74b0_hl5_5 := c74b0; rw [hl5_5] at c74b0_hl5_5))
                             (try (have c74b0_hl7_5 := c74b0; rw [hl7_5] at c74b0_hl7_5))
                             clear c74
                             have H' := Aside0.mk H
                             clear H
                             have p246 : 0 ≤ (x13_5 : Int) := DT
                             have q246 : x13_5 < (x5_5.length : Int) := DT
                             obtain ⟨ad246, A246_0, c246_0, e246, hx246_0, hl246_0, hi246_0⟩ := at_L9 (Kd.N_reads' HO_5.out).2.2 x13_5 p246 q246
                             obtain rfl : (⟨go40, 0, none⟩ : Addr) = ad246 := (by injection e246)
                             obtain ⟨ce246, hce246, hMe246, hcc246⟩ := Kd.N_get HO_5.out [] x13_5 p246 (by first | exact q246 | exact DT | (have e_ := (Kd.N_reads' HO_5.out).1; omega))
                             obtain ⟨ua246_0, uc246_0, rfl, ul246_0, ge246_0⟩ := Kd.FK_slice_open hMe246
                             have hv246_0 := hcc246 0 _ rfl
                             rw [Nat.add_zero, show ((Kd.slice 3 (Kd.int .i64))).sz = 1 from rfl, Nat.mul_one] at hv246_0
                             replace hv246_0 := Option.some.inj (hv246_0.symm.trans hx246_0)
                             injection hv246_0 with hva_ hvn_ hvc_
                             rw [hva_] at ge246_0
                             rw [hvc_] at ul246_0
                             have HL246_0 := Aside0.mk (show Kd.V (Kd.int .i64) 3 _ w.heap.size _ _ (rd_L9 x5_5 x13_5) from Kd.V_mk ul246_0 ge246_0)
                             clear hva_ hvn_ hvc_ ge246_0 ul246_0
                             clear hcc246 hce246
                             (first | simp only [add_plain] at hx246_0 | simp only [add_at] at hx246_0 | simp only [Addr.add, Nat.zero_add] at hx246_0 | skip)
                             have HR246_0 := Aside0.mk hi246_0
                             have HC246_0 := Aside0.mk hl246_0
                             clear hi246_0 hl246_0
                             replace p246 := eq_true p246
                             replace q246 := eq_true q246
                             have p247 : 0 ≤ (x8_3 : Int) := DT
                             have q247 : x8_3 < ((rd_L9 x5_5 x13_5).length : Int) := DT
                             obtain ⟨ad247, e247, hx247_0⟩ := Kd.at_int (by repeat (first | (with_reducible exact HR246_0.out) | (with_reducible refine Kd.C_alloc ?_ _) | (with_reducible refine Kd.C_drewN ?_ _) | (with_reducible refine Kd.C_drew ?_) | exact HR246_0.out)) x8_3 p247 q247
                             cases e247
                             replace p247 := eq_true p247
                             replace q247 := eq_true q247
                             go_wp2
                             go_meet
                             case rel => exact ⟨_, (((rd (rd_L9 x5_5 x13_5) x8_3) != 0)), FR, H', ⟨by have := HJ1.out; have := HK2.out; have := HK3.out; have := HJ23.out; have := HK5.out; first | omega | exact Nat.le_refl _⟩, ⟨by (try simp only [hl5_5]); (try simp only [hl7_5]); (with_reducible repeat (first | apply Kd.N_alloc | apply Kd.N_drewN | apply Kd.N_drew)); exact HO_5.out⟩, ⟨by (try simp only [hl5_5]); (try simp only [hl7_5]); (with_reducible repeat (first | apply Kd.N_alloc | apply Kd.N_drewN | apply Kd.N_drew)); exact HO_7.out⟩, ⟨(BB HB.out)⟩⟩
                            ·rw [if_neg c74] at H
                             exact absurd H (by simp)
                           ·rw [if_neg c73] at H
                            exact absurd H (by simp)
                          ·rw [if_neg c72] at H
                           exact absurd H (by simp)
                         ·rw [if_neg c71] at H
                          exact absurd H (by simp)
                       case rest =>
                        clear HC69
                        try clear c1
                        try clear c2
                        try clear p2
                        try clear q2
                        try clear hx2
                        try clear qi2
                        try clear c3
                        try clear c4
                        try clear p4
                        try clear q4
                        try clear hx4
                        try clear hf4
                        try clear c5
                        try clear c5b0
                        try clear c5b1
                        try clear p5
                        try clear q5
                        try clear hx5
                        try clear hf5
                        try clear c6
                        try clear p6
                        try clear hx6
                        try clear hf6
                        try clear c7
                        try clear c11
                        try clear c11b0
                        try clear c12
                        try clear c12b0
                        try clear c13
                        try clear c13b0
                        try clear c14
                        try clear c15
                        try clear c20
                        try clear p20
                        try clear q20
                        try clear hx20
                        try clear qi20
                        try clear c21
                        try clear p21
                        try clear q21
                        try clear hx21
                        try clear c22
                        try clear p22
                        try clear q22
                        try clear hx22
                        try clear c23
                        try clear c23b0
                        try clear p23
                        try clear q23
                        try clear hx23
                        try clear c24
                        try clear p24
                        try clear q24
                        try clear hx24
                        try clear c25
                        try clear c25b0
                        try clear c26
                        try clear c26b0
                        try clear c27
                        try clear c27b0
                        try clear c28
                        try clear c28b0
                        try clear c29
                        try clear c29b0
                        try clear c30
                        try clear c30b0
                        try clear c30b1
                        try clear c33
                        try clear c33b0
                        try clear c33b1
                        try clear c36
                        try clear c36b0
                        try clear c37
                        try clear c37b0
                        try clear c38
                        try clear c38b0
                        try clear c39
                        try clear c39b0
                        try clear c40
                        try clear p40
                        try clear q40
                        try clear hx40
                        try clear hf40
                        try clear c41
                        try clear p41
                        try clear q41
                        try clear hx41
                        try clear hf41
                        try clear c42
                        try clear c42b0
                        try clear c43
                        try clear c43b0
                        try clear c44
                        try clear p44
                        try clear q44
                        try clear hx44
                        try clear hf44
                        try clear c45
                        try clear p45
                        try clear q45
                        try clear hx45
                        try clear hf45
                        try clear c46
                        try clear c46b0
                        try clear c49
                        try clear p49
                        try clear q49
                        try clear hx49
                        try clear hf49
                        try clear c51
                        try clear p51
                        try clear q51
                        try clear hx51
                        try clear hf51
                        try clear c53
                        try clear hx53
                        try clear hf53
                        try clear c55
                        try clear hx55
                        try clear hf55
                        try clear c58
                        try clear hx58
                        try clear hf58
                        try clear c60
                        try clear hx60
                        try clear hf60
                        try clear c63
                        try clear hx63
                        try clear hf63
                        try clear p64
                        try clear c66
                        try clear hx66
                        try clear hf66
                        try clear c68
                        try clear c68b0
                        try clear c70
                        try clear c70b0
                        try clear c70b1
                        try clear c71
                        try clear c71b0
                        try clear c72
                        try clear c72b0
                        try clear c73
                        try clear c73b0
                        try clear c74
                        try clear c74b0
                        try clear hx200_0
                        try clear hx210_0
                        try clear hx220_0
                        try clear hx221_0
                        try clear hx225_0
                        try clear hx226_0
                        try clear hx229_0
                        try clear hx230_0
                        try clear hx233_0
                        try clear hx234_0
                        try clear hx236_0
                        try clear hx241_0
                        try clear hx246_0
                        try clear hx247_0
                        try clear hx40_0
                        try clear hx41_0
                        try clear hx44_0
                        try clear hx45_0
                        try clear hx49_0
                        try clear hx51_0
                        try clear hx53_0
                        try clear hx55_0
                        try clear hx58_0
                        try clear hx60_0
                        try clear hx63_0
                        try clear hx66_0
                        try clear p2
                        try clear p20
                        try clear p200
                        try clear p21
                        try clear p210
                        try clear p22
                        try clear p220
                        try clear p221
                        try clear p225
                        try clear p226
                        try clear p229
                        try clear p23
                        try clear p230
                        try clear p233
                        try clear p234
                        try clear p236
                        try clear p24
                        try clear p241
                        try clear p246
                        try clear p247
                        try clear p4
                        try clear p40
                        try clear p41
                        try clear p44
                        try clear p45
                        try clear p49
                        try clear p5
                        try clear p51
                        try clear p6
                        try clear p64
                        try clear q2
                        try clear q20
                        try clear q200
                        try clear q21
                        try clear q210
                        try clear q22
                        try clear q220
                        try clear q221
                        try clear q225
                        try clear q226
                        try clear q229
                        try clear q23
                        try clear q230
                        try clear q233
                        try clear q234
                        try clear q236
                        try clear q24
                        try clear q241
                        try clear q246
                        try clear q247
                        try clear q4
                        try clear q40
                        try clear q41
                        try clear q44
                        try clear q45
                        try clear q49
                        try clear q5
                        try clear q51
                        obtain ⟨kq, x145_68, rfl, HA, HJ68, HO_5, HO_7, HB⟩ := hcut
                        cases kq with
                        | zero => exact absurd HA.out (by simp [spec_InvM.j6])
                        | succ kj68 =>
                         have H := HA.out
                         clear HA
                         simp only [spec_InvM.j6] at H
                         by_cases c75 : x145_68 = true
                         ·subst c75
                          have H1 : (if 0 ≤ x13_5 then (if x13_5 < (x5_5.length : Int) then (if 0 ≤ x8_3 then (if x8_3 < ((rd_L9 x5_5 x13_5).length : Int) then (if x8_3 < (x5_5.length : Int) then ((spec_l06Row.f kj68 (rd_L9 x5_5 x13_5) (rd_L9 x5_5 x8_3) (rd (rd_L9 x5_5 x13_5) x8_3)).bind fun t252 => (if x13_5 < (x7_5.length : Int) then (if x8_3 < (x7_5.length : Int) then ((spec_l06Row.f kj68 (rd_L9 x7_5 x13_5) (rd_L9 x7_5 x8_3) (rd (rd_L9 x5_5 x13_5) x8_3)).bind fun t258 => (spec_InvM.l3 kj68 (l0.length : Int) (x5_5.set (x13_5 : Int).toNat t252) (x7_5.set (x13_5 : Int).toNat t258) x8_3 (wrap64 (x13_5 + 1)))) else (none)) else (none))) else (none)) else (none)) else (none)) else (none)) else (none)) = some (r1, r2) := by rw [if_pos rfl] at H; exact H
                          clear H
                          have H := H1
                          clear H1
                          by_cases c76 : 0 ≤ x13_5
                          ·rw [if_pos c76] at H
                           have c76b0 : decide (0 ≤ x13_5) = true := decide_eq_true c76
                           clear c76
                           by_cases c77 : x13_5 < (x5_5.length : Int)
                           ·rw [if_pos c77] at H
                            have c77b0 : decide (x13_5 < (x5_5.length : Int)) = true := decide_eq_true c77
                            (try (have c77b0_hl5_5 := c77b0; rw [hl5_5] at c77b0_hl5_5))
                            (try (have c77b0_hl7_5 := c77b0; rw [hl7_5] at c77b0_hl7_5))
                            clear c77
                            by_cases c78 : 0 ≤ x8_3
                            ·rw [if_pos c78] at H
                             have c78b0 : decide (0 ≤ x8_3) = true := decide_eq_true c78
                             clear c78
                             by_cases c79 : x8_3 < ((rd_L9 x5_5 x13_5).length : Int)
                             ·rw [if_pos c79] at H
                              have c79b0 : decide (x8_3 < ((rd_L9 x5_5 x13_5).length : Int)) = true := decide_eq_true c79
                              (try (have c79b0_hl5_5 := c79b0; rw [hl5_5] at c79b0_hl5_5))
                              (try (have c79b0_hl7_5 := c79b0; rw [hl7_5] at c79b0_hl7_5))
                              clear c79
                              by_cases c80 : x8_3 < (x5_5.length : Int)
                              ·rw [if_pos c80] at H
                               have c80b0 : decide (x8_3 < (x5_5.length : Int)) = true := decide_eq_true c80
                               (try (have c80b0_hl5_5 := c80b0; rw [hl5_5] at c80b0_hl5_5))
                               (try (have c80b0_hl7_5 := c80b0; rw [hl7_5] at c80b0_hl7_5))
                               clear c80
                               replace H := Option.bind_eq_some_iff.mp H
                               obtain ⟨t252, A810, H⟩ := H
                               replace H : (if x13_5 < (x7_5.length : Int) then (if x8_3 < (x7_5.length : Int) then ((spec_l06Row.f kj68 (rd_L9 x7_5 x13_5) (rd_L9 x7_5 x8_3) (rd (rd_L9 x5_5 x13_5) x8_3)).bind fun t258 => (spec_InvM.l3 kj68 (l0.length : Int) (x5_5.set (x13_5 : Int).toNat t252) (x7_5.set (x13_5 : Int).toNat t258) x8_3 (wrap64 (x13_5 + 1)))) else (none)) else (none)) = some (r1, r2) := H
                               have A81 := Aside0.mk A810
                               clear A810
                               obtain ⟨y255, hy255⟩ : ∃ y_ : List (List Int), y_ = (x5_5.set (x13_5 : Int).toNat t252) := ⟨_, rfl⟩
                               replace H : (if x13_5 < (x7_5.length : Int) then (if x8_3 < (x7_5.length : Int) then ((spec_l06Row.f kj68 (rd_L9 x7_5 x13_5) (rd_L9 x7_5 x8_3) (rd (rd_L9 x5_5 x13_5) x8_3)).bind fun t258 => (spec_InvM.l3 kj68 (l0.length : Int) y255 (x7_5.set (x13_5 : Int).toNat t258) x8_3 (wrap64 (x13_5 + 1)))) else (none)) else (none)) = some (r1, r2) := by first | (rw [hy255]; with_reducible exact H) | (have H2_ := (Option.bind_some _ _).symm.trans H; rw [hy255]; with_reducible exact H2_) | (have H2_ := (Option.bind_some _ _).symm.trans H; with_reducible exact H2_) | with_reducible exact H | (rw [hy255]; exact H) | exact H
                               have Ny255 := Aside0.mk hy255
                               clear hy255
                               by_cases c83 : x13_5 < (x7_5.length : Int)
                               ·rw [if_pos c83] at H
                                have c83b0 : decide (x13_5 < (x7_5.length : Int)) = true := decide_eq_true c83
                                (try (have c83b0_hl5_5 := c83b0; rw [hl5_5] at c83b0_hl5_5))
                                (try (have c83b0_hl7_5 := c83b0; rw [hl7_5] at c83b0_hl7_5))
                                clear c83
                                by_cases c84 : x8_3 < (x7_5.length : Int)
                                ·rw [if_pos c84] at H
                                 have c84b0 : decide (x8_3 < (x7_5.length : Int)) = true := decide_eq_true c84
                                 (try (have c84b0_hl5_5 := c84b0; rw [hl5_5] at c84b0_hl5_5))
                                 (try (have c84b0_hl7_5 := c84b0; rw [hl7_5] at c84b0_hl7_5))
                                 clear c84
                                 replace H := Option.bind_eq_some_iff.mp H
                                 obtain ⟨t258, A850, H⟩ := H
                                 replace H : (spec_InvM.l3 kj68 (l0.length : Int) y255 (x7_5.set (x13_5 : Int).toNat t258) x8_3 (wrap64 (x13_5 + 1))) = some (r1, r2) := H
                                 have A85 := Aside0.mk A850
                                 clear A850
                                 obtain ⟨y261, hy261⟩ : ∃ y_ : List (List Int), y_ = (x7_5.set (x13_5 : Int).toNat t258) := ⟨_, rfl⟩
                                 replace H : (spec_InvM.l3 kj68 (l0.length : Int) y255 y261 x8_3 (wrap64 (x13_5 + 1))) = some (r1, r2) := by first | (rw [hy261]; with_reducible exact H) | (have H2_ := (Option.bind_some _ _).symm.trans H; rw [hy261]; with_reducible exact H2_) | (have H2_ := (Option.bind_some _ _).symm.trans H; with_reducible exact H2_) | with_reducible exact H | (rw [hy261]; exact H) | exact H
                                 have Ny261 := Aside0.mk hy261
                                 clear hy261
                                 have H' := Aside0.mk H
                                 clear H
                                 have p248 : 0 ≤ (x13_5 : Int) := DT
                                 have q248 : x13_5 < (x5_5.length : Int) := DT
                                 obtain ⟨ad248, A248_0, c248_0, e248, hx248_0, hl248_0, hi248_0⟩ := at_L9 (Kd.N_reads' HO_5.out).2.2 x13_5 p248 q248
                                 obtain rfl : (⟨go40, 0, none⟩ : Addr) = ad248 := (by injection e248)
                                 obtain ⟨ce248, hce248, hMe248, hcc248⟩ := Kd.N_get HO_5.out [] x13_5 p248 (by first | exact q248 | exact DT | (have e_ := (Kd.N_reads' HO_5.out).1; omega))
                                 obtain ⟨ua248_0, uc248_0, rfl, ul248_0, ge248_0⟩ := Kd.FK_slice_open hMe248
                                 have hv248_0 := hcc248 0 _ rfl
                                 rw [Nat.add_zero, show ((Kd.slice 3 (Kd.int .i64))).sz = 1 from rfl, Nat.mul_one] at hv248_0
                                 replace hv248_0 := Option.some.inj (hv248_0.symm.trans hx248_0)
                                 injection hv248_0 with hva_ hvn_ hvc_
                                 rw [hva_] at ge248_0
                                 rw [hvc_] at ul248_0
                                 have HL248_0 := Aside0.mk (show Kd.V (Kd.int .i64) 3 _ w.heap.size _ _ (rd_L9 x5_5 x13_5) from Kd.V_mk ul248_0 ge248_0)
                                 clear hva_ hvn_ hvc_ ge248_0 ul248_0
                                 clear hcc248 hce248
                                 (first | simp only [add_plain] at hx248_0 | simp only [add_at] at hx248_0 | simp only [Addr.add, Nat.zero_add] at hx248_0 | skip)
                                 have HR248_0 := Aside0.mk hi248_0
                                 have HC248_0 := Aside0.mk hl248_0
                                 clear hi248_0 hl248_0
                                 replace p248 := eq_true p248
                                 replace q248 := eq_true q248
                                 have p249 : 0 ≤ (x8_3 : Int) := DT
                                 have q249 : x8_3 < ((rd_L9 x5_5 x13_5).length : Int) := DT
                                 obtain ⟨ad249, e249, hx249_0⟩ := Kd.at_int (by repeat (first | (with_reducible exact HR248_0.out) | (with_reducible refine Kd.C_alloc ?_ _) | (with_reducible refine Kd.C_drewN ?_ _) | (with_reducible refine Kd.C_drew ?_) | exact HR248_0.out)) x8_3 p249 q249
                                 cases e249
                                 replace p249 := eq_true p249
                                 replace q249 := eq_true q249
                                 try go_wp2
                                 have n0_ := Aside0.mk (Kd.N_drew HO_5.out)
                                 have n1_ := Aside0.mk (Kd.N_drew HO_7.out)
                                 have n2_ := Aside0.mk (Kd.V_drew HL248_0.out)
                                 have n3_ := Aside0.mk (Kd.C_drew HR248_0.out)
                                 have n4_ := Aside0.mk (below_drew1 HB.out)
                                 clear HO_5
                                 clear HO_7
                                 clear HL248_0
                                 clear HR248_0
                                 clear HB
                                 have HO_5 := n0_
                                 have HO_7 := n1_
                                 have HL248_0 := n2_
                                 have HR248_0 := n3_
                                 have HB := n4_
                                 clear n0_ n1_ n2_ n3_ n4_
                                 have p250 : 0 ≤ (x13_5 : Int) := DT
                                 have q250 : x13_5 < (x5_5.length : Int) := DT
                                 obtain ⟨ad250, A250_0, c250_0, e250, hx250_0, hl250_0, hi250_0⟩ := at_L9 (Kd.N_reads' HO_5.out).2.2 x13_5 p250 q250
                                 obtain rfl : (⟨go40, 0, none⟩ : Addr) = ad250 := (by injection e250)
                                 obtain ⟨ce250, hce250, hMe250, hcc250⟩ := Kd.N_get HO_5.out [] x13_5 p250 (by first | exact q250 | exact DT | (have e_ := (Kd.N_reads' HO_5.out).1; omega))
                                 obtain ⟨ua250_0, uc250_0, rfl, ul250_0, ge250_0⟩ := Kd.FK_slice_open hMe250
                                 have hv250_0 := hcc250 0 _ rfl
                                 rw [Nat.add_zero, show ((Kd.slice 3 (Kd.int .i64))).sz = 1 from rfl, Nat.mul_one] at hv250_0
                                 replace hv250_0 := Option.some.inj (hv250_0.symm.trans hx250_0)
                                 injection hv250_0 with hva_ hvn_ hvc_
                                 rw [hva_] at ge250_0
                                 rw [hvc_] at ul250_0
                                 have HL250_0 := Aside0.mk (show Kd.V (Kd.int .i64) 3 _ w.heap.size _ _ (rd_L9 x5_5 x13_5) from Kd.V_mk ul250_0 ge250_0)
                                 clear hva_ hvn_ hvc_ ge250_0 ul250_0
                                 clear hcc250 hce250
                                 (first | simp only [add_plain] at hx250_0 | simp only [add_at] at hx250_0 | simp only [Addr.add, Nat.zero_add] at hx250_0 | skip)
                                 have HR250_0 := Aside0.mk hi250_0
                                 have HC250_0 := Aside0.mk hl250_0
                                 clear hi250_0 hl250_0
                                 replace p250 := eq_true p250
                                 replace q250 := eq_true q250
                                 have p251 : 0 ≤ (x8_3 : Int) := DT
                                 have q251 : x8_3 < (x5_5.length : Int) := DT
                                 obtain ⟨ad251, A251_0, c251_0, e251, hx251_0, hl251_0, hi251_0⟩ := at_L9 (Kd.N_reads' HO_5.out).2.2 x8_3 p251 q251
                                 obtain rfl : (⟨go40, 0, none⟩ : Addr) = ad251 := (by injection e251)
                                 obtain ⟨ce251, hce251, hMe251, hcc251⟩ := Kd.N_get HO_5.out [] x8_3 p251 (by first | exact q251 | exact DT | (have e_ := (Kd.N_reads' HO_5.out).1; omega))
                                 obtain ⟨ua251_0, uc251_0, rfl, ul251_0, ge251_0⟩ := Kd.FK_slice_open hMe251
                                 have hv251_0 := hcc251 0 _ rfl
                                 rw [Nat.add_zero, show ((Kd.slice 3 (Kd.int .i64))).sz = 1 from rfl, Nat.mul_one] at hv251_0
                                 replace hv251_0 := Option.some.inj (hv251_0.symm.trans hx251_0)
                                 injection hv251_0 with hva_ hvn_ hvc_
                                 rw [hva_] at ge251_0
                                 rw [hvc_] at ul251_0
                                 have HL251_0 := Aside0.mk (show Kd.V (Kd.int .i64) 3 _ w.heap.size _ _ (rd_L9 x5_5 x8_3) from Kd.V_mk ul251_0 ge251_0)
                                 clear hva_ hvn_ hvc_ ge251_0 ul251_0
                                 clear hcc251 hce251
                                 (first | simp only [add_plain] at hx251_0 | simp only [add_at] at hx251_0 | simp only [Addr.add, Nat.zero_add] at hx251_0 | skip)
                                 have HR251_0 := Aside0.mk hi251_0
                                 have HC251_0 := Aside0.mk hl251_0
                                 clear hi251_0 hl251_0
                                 replace p251 := eq_true p251
                                 replace q251 := eq_true q251
                                 refine start_ (n := 14) (S := fun w' => w'.cell? ⟨go40, (x13_5).toNat, none⟩ = some (.slice A250_0 (rd_L9 x5_5 x13_5).length c250_0) ∧ w'.cell? ⟨go40, (x8_3).toNat, none⟩ = some (.slice A251_0 (rd_L9 x5_5 x8_3).length c251_0)) (ds := [13]) #[false, false, false, false, false, false, false, false, false, false, false, false, false, false] (by kernel_rfl) rfl rfl ⟨hx250_0, hx251_0⟩ (fun hHeld => ?_); refine with_tabW spec_InvM.tab32 spec_InvM.bits32 (fun HT_ HW_ => ?_)
                                 generalize wc.drew = w87 at HO_5 HO_7 HL248_0 HR248_0 HB HL250_0 HL251_0 HR250_0 HR251_0 hx250_0 hx251_0 hHeld ⊢
                                 refine pure_ (i := 0) (N := some 153) (v := ?_) (a' := ?_) #[true, false, false, false, false, false, false, false, false, false, false, false, false, false] rfl rfl (any_of HT_.out (by kernel_rfl)) (fun _ _ _ h => h) (Or.inl ⟨by rfl, ?_⟩) ?_ ?_
                                 rotate_left
                                 ·intro w'
                                  go_simp
                                  with_reducible rfl
                                 rotate_left
                                 ·simp only [Act.put, List.setIfInBounds_toArray, List.set_cons_zero, List.set_cons_succ, i64_w, i32_w]
                                  rfl
                                 refine pure_ (i := 1) (N := some 154) (v := ?_) (a' := ?_) #[true, true, false, false, false, false, false, false, false, false, false, false, false, false] rfl rfl (any_of HT_.out (by kernel_rfl)) (fun _ _ _ h => h) (Or.inl ⟨by rfl, ?_⟩) ?_ ?_
                                 rotate_left
                                 ·intro w'
                                  go_simp
                                  with_reducible rfl
                                 rotate_left
                                 ·simp only [Act.put, List.setIfInBounds_toArray, List.set_cons_zero, List.set_cons_succ, i64_w, i32_w]
                                  rfl
                                 refine pure_ (i := 2) (N := some 155) (v := ?_) (a' := ?_) #[true, true, true, false, false, false, false, false, false, false, false, false, false, false] rfl rfl (any_of HT_.out (by kernel_rfl)) (fun _ _ _ h => h) (Or.inl ⟨by rfl, ?_⟩) ?_ ?_
                                 rotate_left
                                 ·intro w'
                                  go_simp
                                  with_reducible rfl
                                 rotate_left
                                 ·simp only [Act.put, List.setIfInBounds_toArray, List.set_cons_zero, List.set_cons_succ, i64_w, i32_w]
                                  rfl
                                 refine pure_ (i := 3) (N := some 156) (v := ?_) (a' := ?_) #[true, true, true, true, false, false, false, false, false, false, false, false, false, false] rfl rfl (any_of HT_.out (by kernel_rfl)) (fun _ _ _ h => h) (Or.inl ⟨by rfl, ?_⟩) ?_ ?_
                                 rotate_left
                                 ·intro w'
                                  go_simp
                                  with_reducible rfl
                                 rotate_left
                                 ·simp only [Act.put, List.setIfInBounds_toArray, List.set_cons_zero, List.set_cons_succ, i64_w, i32_w]
                                  rfl
                                 refine pure_ (i := 4) (N := some 157) (v := ?_) (a' := ?_) #[true, true, true, true, true, false, false, false, false, false, false, false, false, false] rfl rfl (any_of HT_.out (by kernel_rfl)) (fun _ _ _ h => h) (Or.inl ⟨by rfl, ?_⟩) ?_ ?_
                                 rotate_left
                                 ·intro w'
                                  go_simp
                                  with_reducible rfl
                                 rotate_left
                                 ·simp only [Act.put, List.setIfInBounds_toArray, List.set_cons_zero, List.set_cons_succ, i64_w, i32_w]
                                  rfl
                                 refine pure_ (i := 6) (N := some 159) (v := ?_) (a' := ?_) #[true, true, true, true, true, false, true, false, false, false, false, false, false, false] rfl rfl (any_of HT_.out (by kernel_rfl)) (fun _ _ _ h => h) (Or.inl ⟨by rfl, ?_⟩) ?_ ?_
                                 rotate_left
                                 ·intro w'
                                  go_simp
                                  with_reducible rfl
                                 rotate_left
                                 ·simp only [Act.put, List.setIfInBounds_toArray, List.set_cons_zero, List.set_cons_succ, i64_w, i32_w]
                                  rfl
                                 refine pure_ (i := 7) (N := some 160) (v := ?_) (a' := ?_) #[true, true, true, true, true, false, true, true, false, false, false, false, false, false] rfl rfl (any_of HT_.out (by kernel_rfl)) (fun _ _ _ h => h) (Or.inl ⟨by rfl, ?_⟩) ?_ ?_
                                 rotate_left
                                 ·intro w'
                                  go_simp
                                  with_reducible rfl
                                 rotate_left
                                 ·simp only [Act.put, List.setIfInBounds_toArray, List.set_cons_zero, List.set_cons_succ, i64_w, i32_w]
                                  rfl
                                 refine pure_ (i := 8) (N := some 161) (v := ?_) (a' := ?_) #[true, true, true, true, true, false, true, true, true, false, false, false, false, false] rfl rfl (any_of HT_.out (by kernel_rfl)) (fun _ _ _ h => h) (Or.inl ⟨by rfl, ?_⟩) ?_ ?_
                                 rotate_left
                                 ·intro w'
                                  go_simp
                                  with_reducible rfl
                                 rotate_left
                                 ·simp only [Act.put, List.setIfInBounds_toArray, List.set_cons_zero, List.set_cons_succ, i64_w, i32_w]
                                  rfl
                                 refine pure_ (i := 10) (N := some 163) (v := ?_) (a' := ?_) #[true, true, true, true, true, false, true, true, true, false, true, false, false, false] rfl rfl (any_of HT_.out (by kernel_rfl)) (fun _ _ _ h => h) (Or.inl ⟨by rfl, ?_⟩) ?_ ?_
                                 rotate_left
                                 ·intro w'
                                  go_simp
                                  with_reducible rfl
                                 rotate_left
                                 ·simp only [Act.put, List.setIfInBounds_toArray, List.set_cons_zero, List.set_cons_succ, i64_w, i32_w]
                                  rfl
                                 refine take_ (i := 5) (N := some 158) (v := ?_) (a' := ?_) #[true, true, true, true, true, true, true, true, true, false, true, false, false, false] rfl rfl (take_ofW HT_.out HW_.out (by kernel_rfl)) (fun _ _ _ h => h) (Or.inl ⟨by rfl, ?_⟩) hHeld ?_ ?_
                                 rotate_left
                                 ·rintro w' ⟨s0, s1⟩
                                  go_simp
                                  with_reducible rfl
                                 rotate_left
                                 ·simp only [Act.put, List.setIfInBounds_toArray, List.set_cons_zero, List.set_cons_succ, i64_w, i32_w]
                                  rfl
                                 refine take_ (i := 9) (N := some 162) (v := ?_) (a' := ?_) #[true, true, true, true, true, true, true, true, true, true, true, false, false, false] rfl rfl (take_ofW HT_.out HW_.out (by kernel_rfl)) (fun _ _ _ h => h) (Or.inl ⟨by rfl, ?_⟩) hHeld ?_ ?_
                                 rotate_left
                                 ·rintro w' ⟨s0, s1⟩
                                  go_simp
                                  with_reducible rfl
                                 rotate_left
                                 ·simp only [Act.put, List.setIfInBounds_toArray, List.set_cons_zero, List.set_cons_succ, i64_w, i32_w]
                                  rfl
                                 refine one_ (i := 11) (N := some 164) #[true, true, true, true, true, true, true, true, true, true, true, true, false, false] rfl rfl (one_of HT_.out (by kernel_rfl)) (by decide) (fun K hK => ?_)
                                 refine goes_ Try.func44 (by kernel_rfl) rfl #[.slice A250_0 (rd_L9 x5_5 x13_5).length c250_0, .slice A251_0 (rd_L9 x5_5 x8_3).length c251_0, .int .i64 (rd (rd_L9 x5_5 x13_5) x8_3)] (by rfl) rfl rfl (by (try simp only [List.map_toArray, List.map_cons, List.map_nil]); first | done | rfl | (simp only [List.length_drop, List.length_take]; rfl)) ?_
                                 with_reducible refine (spec_l06Row.calls kj68 _ _ (rd_L9 x5_5 x13_5) _ _ (rd_L9 x5_5 x8_3) (rd (rd_L9 x5_5 x13_5) x8_3) t252 _ ?side1 ?side2 ?side3 ?side4 A81.out).mono ?_
                                 (case side1 => repeat (first | exact (by repeat (first | (with_reducible exact HR250_0.out) | (with_reducible refine Kd.C_alloc ?_ _) | (with_reducible refine Kd.C_drewN ?_ _) | (with_reducible refine Kd.C_drew ?_) | exact HR250_0.out)) | (with_reducible refine Kd.C_alloc ?_ _) | (with_reducible refine Kd.C_drewN ?_ _) | (with_reducible refine Kd.C_drew ?_)))
                                 (case side2 => exact HC250_0.out)
                                 (case side3 => repeat (first | exact (by repeat (first | (with_reducible exact HR251_0.out) | (with_reducible refine Kd.C_alloc ?_ _) | (with_reducible refine Kd.C_drewN ?_ _) | (with_reducible refine Kd.C_drew ?_) | exact HR251_0.out)) | (with_reducible refine Kd.C_alloc ?_ _) | (with_reducible refine Kd.C_drewN ?_ _) | (with_reducible refine Kd.C_drew ?_)))
                                 (case side4 => exact HC251_0.out)
                                 rintro e w88 ⟨v253, rfl, ho0, hb⟩
                                 have hfv253 := Aside0.mk (by first | exact Kd.R_slice ho0 | exact Kd.S_slice ho0 : ∃ A_ c_, v253 = .slice A_ _ c_)
                                 have HS0_ := (hb.cell (World.block_lt_of_cell? _ _ (hHeld.1))).trans (hHeld.1)
                                 have HS1_ := (hb.cell (World.block_lt_of_cell? _ _ (hHeld.2))).trans (hHeld.2)
                                 refine ⟨_, rfl, ?_⟩
                                 have n0_ := Aside0.mk (Kd.N_elder' (by (with_reducible repeat (first | apply Kd.N_alloc | apply Kd.N_drewN | apply Kd.N_drew)); exact HO_5.out) (Kd.R_base ho0) hb)
                                 have n1_ := Aside0.mk (Kd.N_elder' (by (with_reducible repeat (first | apply Kd.N_alloc | apply Kd.N_drewN | apply Kd.N_drew)); exact HO_7.out) (Kd.R_base ho0) hb)
                                 have n2_ := Aside0.mk (Kd.V_elder' (by (with_reducible repeat (first | apply Kd.V_alloc | apply Kd.V_drewN | apply Kd.V_drew)); exact HL248_0.out) (Kd.R_base ho0) hb)
                                 have n3_ := Aside0.mk (Kd.V_elder' (by (with_reducible repeat (first | apply Kd.V_alloc | apply Kd.V_drewN | apply Kd.V_drew)); exact HL250_0.out) (Kd.R_base ho0) hb)
                                 have n4_ := Aside0.mk (Kd.V_elder' (by (with_reducible repeat (first | apply Kd.V_alloc | apply Kd.V_drewN | apply Kd.V_drew)); exact HL251_0.out) (Kd.R_base ho0) hb)
                                 have n5_ := Aside0.mk (Kd.R_lower (Kd.R_newM (M := fun k_ => (w.heap.size ≤ k_)) ho0 (below_size (BB HB.out)) (fun k_ h_ => h_)) (below_size (BB HB.out)))
                                 have n6_ := Aside0.mk (Kd.C_below (by repeat (first | (with_reducible exact HR248_0.out) | (with_reducible refine Kd.C_alloc ?_ _) | (with_reducible refine Kd.C_drewN ?_ _) | (with_reducible refine Kd.C_drew ?_) | exact HR248_0.out)) hb)
                                 have n7_ := Aside0.mk (Kd.C_below (by repeat (first | (with_reducible exact HR250_0.out) | (with_reducible refine Kd.C_alloc ?_ _) | (with_reducible refine Kd.C_drewN ?_ _) | (with_reducible refine Kd.C_drew ?_) | exact HR250_0.out)) hb)
                                 have n8_ := Aside0.mk (Kd.C_below (by repeat (first | (with_reducible exact HR251_0.out) | (with_reducible refine Kd.C_alloc ?_ _) | (with_reducible refine Kd.C_drewN ?_ _) | (with_reducible refine Kd.C_drew ?_) | exact HR251_0.out)) hb)
                                 have n9_ := Aside0.mk (below_step (BB HB.out) hb)
                                 clear HO_5
                                 clear HO_7
                                 clear HL248_0
                                 clear HL250_0
                                 clear HL251_0
                                 clear HR248_0
                                 clear HR250_0
                                 clear HR251_0
                                 clear HB
                                 have HO_5 := n0_
                                 have HO_7 := n1_
                                 have HL248_0 := n2_
                                 have HL250_0 := n3_
                                 have HL251_0 := n4_
                                 have HO254 := n5_
                                 have HR248_0 := n6_
                                 have HR250_0 := n7_
                                 have HR251_0 := n8_
                                 have HB := n9_
                                 clear n0_ n1_ n2_ n3_ n4_ n5_ n6_ n7_ n8_ n9_
                                 (try clear hb)
                                 (try clear hb2)
                                 (try clear hk)
                                 (try clear hi)
                                 (try clear ho0)
                                 have p82 : 0 ≤ (x13_5 : Int) := DT
                                 have q82 : (x13_5 : Int) < ((x5_5.length : Int) : Int) := DT
                                 obtain ⟨ce82, hcl82, hM82, hcc82, hfr82⟩ := Kd.N_elem HO_5.out [] (x13_5 : Int) p82 q82
                                 obtain ⟨ua82_0, uc82_0, rfl, ul82_0, ge82_0⟩ := Kd.FK_slice_open hM82
                                 have hx82_0 := hcc82 0 _ rfl
                                 have hf82_0 := hfr82 0
                                 (try simp only [show ((Kd.slice 3 (Kd.int .i64))).sz = 1 from rfl, Nat.mul_one, Nat.add_zero] at hx82_0)
                                 (try simp only [show ((Kd.slice 3 (Kd.int .i64))).sz = 1 from rfl, Nat.mul_one, Nat.add_zero] at hf82_0)
                                 clear hcl82 hcc82 hfr82 hM82
                                 replace p82 := eq_true p82
                                 replace q82 := eq_true q82
                                 have HX89 := Aside0.mk (show Kd.N (Kd.slice 3 (Kd.int .i64)) 52 _ w.heap.size (fun k_ => (w.heap.size ≤ k_) ∧ some k_ ≠ (.slice (some ⟨go44, 0, none⟩) x7_5.length co57 : Value).ownBlock ∧ some k_ ≠ (v253 : Value).ownBlock) (.slice (some ⟨go40, 0, none⟩) x5_5.length co52) x5_5 from (Kd.N_mono (HO_5.out) (fun k_ hk => ⟨hk.1.1, ⟨hk.1.2, hk.2⟩⟩)))
                                 replace HX89 := Aside0.mk (show Kd.N (Kd.slice 3 (Kd.int .i64)) 52 _ w.heap.size (fun k_ => (w.heap.size ≤ k_) ∧ some k_ ≠ (.slice (some ⟨go44, 0, none⟩) x7_5.length co57 : Value).ownBlock) (.slice (some ⟨go40, 0, none⟩) x5_5.length co52) x5_5 from Kd.N_mono HX89.out (fun k_ hk => ⟨hk.1, hk.2.1⟩))
                                 obtain ⟨ce89, hcl89, hM89, hcc89, hfr89⟩ := Kd.N_elem HX89.out [] (x13_5 : Int) DT (by have h_ : (x13_5 : Int) < ((x5_5.length : Int) : Int) := DT; first | exact h_ | (have e_ := (Kd.N_reads' HO_5.out).1; omega) | simpa using h_)
                                 obtain ⟨ua89_0, uc89_0, rfl, ul89_0, ge89_0⟩ := Kd.FK_slice_open hM89
                                 have HP89 := (Kd.N_seg HX89.out (x13_5 : Int) DT (by have h_ : (x13_5 : Int) < ((x5_5.length : Int) : Int) := DT; first | exact h_ | (have e_ := (Kd.N_reads' HO_5.out).1; omega) | simpa using h_) (seg := [v253]) (j := 0) hcl89 hcc89 (show 1 ≤ 1 from by decide) (x' := t252) (fk_of_R (Kd.R_mono (ok' := (fun k_ => ((fun k_ => (w.heap.size ≤ k_) ∧ some k_ ≠ (.slice (some ⟨go44, 0, none⟩) x7_5.length co57 : Value).ownBlock)) k_ ∧ k_ ≠ go40)) (Kd.R_apart' (Kd.R_apart' (HO254.out) (Kd.N_typed HO_7.out) (by decide)) (Kd.N_typed HO_5.out) (by decide)) (fun k_ hk => ⟨⟨hk.1.1.1, hk.1.2⟩, fun e_ => (hk.2) (by rw [e_]; rfl)⟩))) (fun _ hk => hk)).1
                                 (try simp only [show ((Kd.slice 3 (Kd.int .i64))).sz = 1 from rfl, Nat.mul_one, Nat.add_zero] at HP89)
                                 rw [← Ny255.out] at HP89
                                 have HQ89 := Aside0.mk HP89
                                 clear hcl89 hcc89 hfr89 hM89 HP89
                                 refine hK.out _ _ ⟨HS0_, HS1_⟩ (fun hHeld => ?_)
                                 clear hK K
                                 refine norm_ (a' := ?_) ?_ ?_
                                 rotate_left
                                 ·show Act.put _ (some 164) _ = _
                                  simp only [Act.put, List.setIfInBounds_toArray, List.set_cons_zero, List.set_cons_succ, i64_w, i32_w]
                                  rfl
                                 refine pure_ (i := 12) (N := some 165) (v := ?_) (a' := ?_) #[true, true, true, true, true, true, true, true, true, true, true, true, true, false] rfl rfl (any_of HT_.out (by kernel_rfl)) (fun _ _ _ h => h) (Or.inl ⟨by rfl, ?_⟩) ?_ ?_
                                 rotate_left
                                 ·intro w'
                                  go_simp
                                  with_reducible rfl
                                 rotate_left
                                 ·simp only [Act.put, List.setIfInBounds_toArray, List.set_cons_zero, List.set_cons_succ, i64_w, i32_w]
                                  rfl
                                 refine last_ (i := 13) (N := none) #[true, true, true, true, true, true, true, true, true, true, true, true, true, true] rfl rfl (one_of HT_.out (by kernel_rfl)) (by decide) (fun K hK => ?_)
                                 refine skip_ (w1 := (w88.setCell ⟨go40, (x13_5 : Int).toNat, none⟩ (v253))) (by rfl) rfl ?_ ?_
                                 ·first | (obtain ⟨A_, c_, e_⟩ := hfv253.out; rw [e_]; go_simp; rfl) | (obtain ⟨A_, c_, e_⟩ := hfv253.out; rw [e_]; go_simp; done) | (go_simp; rfl)
                                 refine hK.out _ _ ?_
                                 clear hK K
                                 refine done_ (done_of HT_.out (by kernel_rfl)) ?_
                                 try go_wp2
                                 have n0_ : Aside0 (Kd.N (Kd.slice 3 (Kd.int .i64)) 52 (w88.setCell ⟨go40, (x13_5 : Int).toNat, none⟩ (v253)) w.heap.size (fun k_ => (w.heap.size ≤ k_) ∧ some k_ ≠ (.slice (some ⟨go44, 0, none⟩) x7_5.length co57 : Value).ownBlock) (.slice (some ⟨go40, 0, none⟩) x5_5.length co52) y255) := ⟨by (with_reducible repeat (first | apply Kd.N_alloc | apply Kd.N_drewN | apply Kd.N_drew)); exact HQ89.out⟩
                                 have n1_ : Aside0 (Kd.N (Kd.slice 3 (Kd.int .i64)) 52 (w88.setCell ⟨go40, (x13_5 : Int).toNat, none⟩ (v253)) w.heap.size (fun k_ => (w.heap.size ≤ k_) ∧ some k_ ≠ (.slice (some ⟨go40, 0, none⟩) x5_5.length co52 : Value).ownBlock) (.slice (some ⟨go44, 0, none⟩) x7_5.length co57) x7_5) := ⟨by (with_reducible repeat (first | apply Kd.N_alloc | apply Kd.N_drewN | apply Kd.N_drew)); exact Kd.N_mono (Kd.N_far (p := ⟨go40, (x13_5 : Int).toNat, none⟩) (Kd.N_mono HO_7.out (fun k_ hk => (⟨hk, fun e_ => hk.1.2 (by rw [e_]; rfl)⟩ : _ ∧ k_ ≠ go40))) (fun _ hk => hk.2) (v253)) (fun _ hk => ⟨hk.1.1.1, hk.1.1.2⟩)⟩
                                 have n2_ : Aside0 (Kd.V (Kd.int .i64) 3 (w88.setCell ⟨go40, (x13_5 : Int).toNat, none⟩ (v253)) w.heap.size (fun k_ => (w.heap.size ≤ k_) ∧ some k_ ≠ (.slice (some ⟨go40, 0, none⟩) x5_5.length co52 : Value).ownBlock ∧ some k_ ≠ (.slice (some ⟨go44, 0, none⟩) x7_5.length co57 : Value).ownBlock) (.slice (some ad249) (rd_L9 x5_5 x13_5).length c248_0) (rd_L9 x5_5 x13_5)) := ⟨by (with_reducible repeat (first | apply Kd.V_alloc | apply Kd.V_drewN | apply Kd.V_drew)); exact Kd.V_mono (Kd.V_far (p := ⟨go40, (x13_5 : Int).toNat, none⟩) (Kd.V_mono HL248_0.out (fun k_ hk => (⟨hk, fun e_ => hk.1.2 (by rw [e_]; rfl)⟩ : _ ∧ k_ ≠ go40))) (fun _ hk => hk.2) (v253)) (fun _ hk => ⟨hk.1.1.1.1, ⟨hk.1.1.2, hk.1.1.1.2⟩⟩)⟩
                                 have n3_ : Aside0 (Kd.V (Kd.int .i64) 3 (w88.setCell ⟨go40, (x13_5 : Int).toNat, none⟩ (v253)) w.heap.size (fun k_ => (w.heap.size ≤ k_) ∧ some k_ ≠ (.slice (some ⟨go40, 0, none⟩) x5_5.length co52 : Value).ownBlock ∧ some k_ ≠ (.slice (some ⟨go44, 0, none⟩) x7_5.length co57 : Value).ownBlock) (.slice A250_0 (rd_L9 x5_5 x13_5).length c250_0) (rd_L9 x5_5 x13_5)) := ⟨by (with_reducible repeat (first | apply Kd.V_alloc | apply Kd.V_drewN | apply Kd.V_drew)); exact Kd.V_mono (Kd.V_far (p := ⟨go40, (x13_5 : Int).toNat, none⟩) (Kd.V_mono HL250_0.out (fun k_ hk => (⟨hk, fun e_ => hk.1.2 (by rw [e_]; rfl)⟩ : _ ∧ k_ ≠ go40))) (fun _ hk => hk.2) (v253)) (fun _ hk => ⟨hk.1.1.1.1, ⟨hk.1.1.2, hk.1.1.1.2⟩⟩)⟩
                                 have n4_ : Aside0 (Kd.V (Kd.int .i64) 3 (w88.setCell ⟨go40, (x13_5 : Int).toNat, none⟩ (v253)) w.heap.size (fun k_ => (w.heap.size ≤ k_) ∧ some k_ ≠ (.slice (some ⟨go40, 0, none⟩) x5_5.length co52 : Value).ownBlock ∧ some k_ ≠ (.slice (some ⟨go44, 0, none⟩) x7_5.length co57 : Value).ownBlock) (.slice A251_0 (rd_L9 x5_5 x8_3).length c251_0) (rd_L9 x5_5 x8_3)) := ⟨by (with_reducible repeat (first | apply Kd.V_alloc | apply Kd.V_drewN | apply Kd.V_drew)); exact Kd.V_mono (Kd.V_far (p := ⟨go40, (x13_5 : Int).toNat, none⟩) (Kd.V_mono HL251_0.out (fun k_ hk => (⟨hk, fun e_ => hk.1.2 (by rw [e_]; rfl)⟩ : _ ∧ k_ ≠ go40))) (fun _ hk => hk.2) (v253)) (fun _ hk => ⟨hk.1.1.1.1, ⟨hk.1.1.2, hk.1.1.1.2⟩⟩)⟩
                                 have n5_ : Aside0 (Below w.heap.size w (w88.setCell ⟨go40, (x13_5 : Int).toNat, none⟩ (v253))) := ⟨(BB1 HB.out GB40.out)⟩
                                 (try clear HO_5)
                                 (try clear HO_7)
                                 (try clear HL248_0)
                                 (try clear HL250_0)
                                 (try clear HL251_0)
                                 (try clear HB)
                                 generalize (w88.setCell ⟨go40, (x13_5 : Int).toNat, none⟩ (v253)) = w90 at n0_ n1_ n2_ n3_ n4_ n5_ ⊢
                                 have HO_5 := n0_
                                 have HO_7 := n1_
                                 have HL248_0 := n2_
                                 have HL250_0 := n3_
                                 have HL251_0 := n4_
                                 have HB := n5_
                                 clear n0_ n1_ n2_ n3_ n4_ n5_
                                 have n0_ := Aside0.mk (Kd.N_drew HO_5.out)
                                 have n1_ := Aside0.mk (Kd.N_drew HO_7.out)
                                 have n2_ := Aside0.mk (Kd.V_drew HL248_0.out)
                                 have n3_ := Aside0.mk (Kd.V_drew HL250_0.out)
                                 have n4_ := Aside0.mk (Kd.V_drew HL251_0.out)
                                 have n5_ := Aside0.mk (below_drew1 HB.out)
                                 clear HO_5
                                 clear HO_7
                                 clear HL248_0
                                 clear HL250_0
                                 clear HL251_0
                                 clear HB
                                 have HO_5 := n0_
                                 have HO_7 := n1_
                                 have HL248_0 := n2_
                                 have HL250_0 := n3_
                                 have HL251_0 := n4_
                                 have HB := n5_
                                 clear n0_ n1_ n2_ n3_ n4_ n5_
                                 have p256 : 0 ≤ (x13_5 : Int) := DT
                                 have q256 : x13_5 < (x7_5.length : Int) := DT
                                 obtain ⟨ad256, A256_0, c256_0, e256, hx256_0, hl256_0, hi256_0⟩ := at_L9 (Kd.N_reads' HO_7.out).2.2 x13_5 p256 q256
                                 obtain rfl : (⟨go44, 0, none⟩ : Addr) = ad256 := (by injection e256)
                                 obtain ⟨ce256, hce256, hMe256, hcc256⟩ := Kd.N_get HO_7.out [] x13_5 p256 (by first | exact q256 | exact DT | (have e_ := (Kd.N_reads' HO_7.out).1; omega))
                                 obtain ⟨ua256_0, uc256_0, rfl, ul256_0, ge256_0⟩ := Kd.FK_slice_open hMe256
                                 have hv256_0 := hcc256 0 _ rfl
                                 rw [Nat.add_zero, show ((Kd.slice 3 (Kd.int .i64))).sz = 1 from rfl, Nat.mul_one] at hv256_0
                                 replace hv256_0 := Option.some.inj (hv256_0.symm.trans hx256_0)
                                 injection hv256_0 with hva_ hvn_ hvc_
                                 rw [hva_] at ge256_0
                                 rw [hvc_] at ul256_0
                                 have HL256_0 := Aside0.mk (show Kd.V (Kd.int .i64) 3 _ w.heap.size _ _ (rd_L9 x7_5 x13_5) from Kd.V_mk ul256_0 ge256_0)
                                 clear hva_ hvn_ hvc_ ge256_0 ul256_0
                                 clear hcc256 hce256
                                 (first | simp only [add_plain] at hx256_0 | simp only [add_at] at hx256_0 | simp only [Addr.add, Nat.zero_add] at hx256_0 | skip)
                                 have HR256_0 := Aside0.mk hi256_0
                                 have HC256_0 := Aside0.mk hl256_0
                                 clear hi256_0 hl256_0
                                 replace p256 := eq_true p256
                                 replace q256 := eq_true q256
                                 have p257 : 0 ≤ (x8_3 : Int) := DT
                                 have q257 : x8_3 < (x7_5.length : Int) := DT
                                 obtain ⟨ad257, A257_0, c257_0, e257, hx257_0, hl257_0, hi257_0⟩ := at_L9 (Kd.N_reads' HO_7.out).2.2 x8_3 p257 q257
                                 obtain rfl : (⟨go44, 0, none⟩ : Addr) = ad257 := (by injection e257)
                                 obtain ⟨ce257, hce257, hMe257, hcc257⟩ := Kd.N_get HO_7.out [] x8_3 p257 (by first | exact q257 | exact DT | (have e_ := (Kd.N_reads' HO_7.out).1; omega))
                                 obtain ⟨ua257_0, uc257_0, rfl, ul257_0, ge257_0⟩ := Kd.FK_slice_open hMe257
                                 have hv257_0 := hcc257 0 _ rfl
                                 rw [Nat.add_zero, show ((Kd.slice 3 (Kd.int .i64))).sz = 1 from rfl, Nat.mul_one] at hv257_0
                                 replace hv257_0 := Option.some.inj (hv257_0.symm.trans hx257_0)
                                 injection hv257_0 with hva_ hvn_ hvc_
                                 rw [hva_] at ge257_0
                                 rw [hvc_] at ul257_0
                                 have HL257_0 := Aside0.mk (show Kd.V (Kd.int .i64) 3 _ w.heap.size _ _ (rd_L9 x7_5 x8_3) from Kd.V_mk ul257_0 ge257_0)
                                 clear hva_ hvn_ hvc_ ge257_0 ul257_0
                                 clear hcc257 hce257
                                 (first | simp only [add_plain] at hx257_0 | simp only [add_at] at hx257_0 | simp only [Addr.add, Nat.zero_add] at hx257_0 | skip)
                                 have HR257_0 := Aside0.mk hi257_0
                                 have HC257_0 := Aside0.mk hl257_0
                                 clear hi257_0 hl257_0
                                 replace p257 := eq_true p257
                                 replace q257 := eq_true q257
                                 refine start_ (n := 14) (S := fun w' => w'.cell? ⟨go44, (x13_5).toNat, none⟩ = some (.slice A256_0 (rd_L9 x7_5 x13_5).length c256_0) ∧ w'.cell? ⟨go44, (x8_3).toNat, none⟩ = some (.slice A257_0 (rd_L9 x7_5 x8_3).length c257_0)) (ds := [13]) #[false, false, false, false, false, false, false, false, false, false, false, false, false, false] (by kernel_rfl) rfl rfl ⟨hx256_0, hx257_0⟩ (fun hHeld => ?_); refine with_tabW spec_InvM.tab33 spec_InvM.bits33 (fun HT_ HW_ => ?_)
                                 generalize w90.drew = w91 at HO_5 HO_7 HL248_0 HL250_0 HL251_0 HB HL256_0 HL257_0 HQ89 HR256_0 HR257_0 hx256_0 hx257_0 hHeld ⊢
                                 refine pure_ (i := 0) (N := some 166) (v := ?_) (a' := ?_) #[true, false, false, false, false, false, false, false, false, false, false, false, false, false] rfl rfl (any_of HT_.out (by kernel_rfl)) (fun _ _ _ h => h) (Or.inl ⟨by rfl, ?_⟩) ?_ ?_
                                 rotate_left
                                 ·intro w'
                                  go_simp
                                  with_reducible rfl
                                 rotate_left
                                 ·simp only [Act.put, List.setIfInBounds_toArray, List.set_cons_zero, List.set_cons_succ, i64_w, i32_w]
                                  rfl
                                 refine pure_ (i := 1) (N := some 167) (v := ?_) (a' := ?_) #[true, true, false, false, false, false, false, false, false, false, false, false, false, false] rfl rfl (any_of HT_.out (by kernel_rfl)) (fun _ _ _ h => h) (Or.inl ⟨by rfl, ?_⟩) ?_ ?_
                                 rotate_left
                                 ·intro w'
                                  go_simp
                                  with_reducible rfl
                                 rotate_left
                                 ·simp only [Act.put, List.setIfInBounds_toArray, List.set_cons_zero, List.set_cons_succ, i64_w, i32_w]
                                  rfl
                                 refine pure_ (i := 2) (N := some 168) (v := ?_) (a' := ?_) #[true, true, true, false, false, false, false, false, false, false, false, false, false, false] rfl rfl (any_of HT_.out (by kernel_rfl)) (fun _ _ _ h => h) (Or.inl ⟨by rfl, ?_⟩) ?_ ?_
                                 rotate_left
                                 ·intro w'
                                  go_simp
                                  with_reducible rfl
                                 rotate_left
                                 ·simp only [Act.put, List.setIfInBounds_toArray, List.set_cons_zero, List.set_cons_succ, i64_w, i32_w]
                                  rfl
                                 refine pure_ (i := 3) (N := some 169) (v := ?_) (a' := ?_) #[true, true, true, true, false, false, false, false, false, false, false, false, false, false] rfl rfl (any_of HT_.out (by kernel_rfl)) (fun _ _ _ h => h) (Or.inl ⟨by rfl, ?_⟩) ?_ ?_
                                 rotate_left
                                 ·intro w'
                                  go_simp
                                  with_reducible rfl
                                 rotate_left
                                 ·simp only [Act.put, List.setIfInBounds_toArray, List.set_cons_zero, List.set_cons_succ, i64_w, i32_w]
                                  rfl
                                 refine pure_ (i := 4) (N := some 170) (v := ?_) (a' := ?_) #[true, true, true, true, true, false, false, false, false, false, false, false, false, false] rfl rfl (any_of HT_.out (by kernel_rfl)) (fun _ _ _ h => h) (Or.inl ⟨by rfl, ?_⟩) ?_ ?_
                                 rotate_left
                                 ·intro w'
                                  go_simp
                                  with_reducible rfl
                                 rotate_left
                                 ·simp only [Act.put, List.setIfInBounds_toArray, List.set_cons_zero, List.set_cons_succ, i64_w, i32_w]
                                  rfl
                                 refine pure_ (i := 6) (N := some 172) (v := ?_) (a' := ?_) #[true, true, true, true, true, false, true, false, false, false, false, false, false, false] rfl rfl (any_of HT_.out (by kernel_rfl)) (fun _ _ _ h => h) (Or.inl ⟨by rfl, ?_⟩) ?_ ?_
                                 rotate_left
                                 ·intro w'
                                  go_simp
                                  with_reducible rfl
                                 rotate_left
                                 ·simp only [Act.put, List.setIfInBounds_toArray, List.set_cons_zero, List.set_cons_succ, i64_w, i32_w]
                                  rfl
                                 refine pure_ (i := 7) (N := some 173) (v := ?_) (a' := ?_) #[true, true, true, true, true, false, true, true, false, false, false, false, false, false] rfl rfl (any_of HT_.out (by kernel_rfl)) (fun _ _ _ h => h) (Or.inl ⟨by rfl, ?_⟩) ?_ ?_
                                 rotate_left
                                 ·intro w'
                                  go_simp
                                  with_reducible rfl
                                 rotate_left
                                 ·simp only [Act.put, List.setIfInBounds_toArray, List.set_cons_zero, List.set_cons_succ, i64_w, i32_w]
                                  rfl
                                 refine pure_ (i := 8) (N := some 174) (v := ?_) (a' := ?_) #[true, true, true, true, true, false, true, true, true, false, false, false, false, false] rfl rfl (any_of HT_.out (by kernel_rfl)) (fun _ _ _ h => h) (Or.inl ⟨by rfl, ?_⟩) ?_ ?_
                                 rotate_left
                                 ·intro w'
                                  go_simp
                                  with_reducible rfl
                                 rotate_left
                                 ·simp only [Act.put, List.setIfInBounds_toArray, List.set_cons_zero, List.set_cons_succ, i64_w, i32_w]
                                  rfl
                                 refine pure_ (i := 10) (N := some 176) (v := ?_) (a' := ?_) #[true, true, true, true, true, false, true, true, true, false, true, false, false, false] rfl rfl (any_of HT_.out (by kernel_rfl)) (fun _ _ _ h => h) (Or.inl ⟨by rfl, ?_⟩) ?_ ?_
                                 rotate_left
                                 ·intro w'
                                  go_simp
                                  with_reducible rfl
                                 rotate_left
                                 ·simp only [Act.put, List.setIfInBounds_toArray, List.set_cons_zero, List.set_cons_succ, i64_w, i32_w]
                                  rfl
                                 refine take_ (i := 5) (N := some 171) (v := ?_) (a' := ?_) #[true, true, true, true, true, true, true, true, true, false, true, false, false, false] rfl rfl (take_ofW HT_.out HW_.out (by kernel_rfl)) (fun _ _ _ h => h) (Or.inl ⟨by rfl, ?_⟩) hHeld ?_ ?_
                                 rotate_left
                                 ·rintro w' ⟨s0, s1⟩
                                  go_simp
                                  with_reducible rfl
                                 rotate_left
                                 ·simp only [Act.put, List.setIfInBounds_toArray, List.set_cons_zero, List.set_cons_succ, i64_w, i32_w]
                                  rfl
                                 refine take_ (i := 9) (N := some 175) (v := ?_) (a' := ?_) #[true, true, true, true, true, true, true, true, true, true, true, false, false, false] rfl rfl (take_ofW HT_.out HW_.out (by kernel_rfl)) (fun _ _ _ h => h) (Or.inl ⟨by rfl, ?_⟩) hHeld ?_ ?_
                                 rotate_left
                                 ·rintro w' ⟨s0, s1⟩
                                  go_simp
                                  with_reducible rfl
                                 rotate_left
                                 ·simp only [Act.put, List.setIfInBounds_toArray, List.set_cons_zero, List.set_cons_succ, i64_w, i32_w]
                                  rfl
                                 refine one_ (i := 11) (N := some 177) #[true, true, true, true, true, true, true, true, true, true, true, true, false, false] rfl rfl (one_of HT_.out (by kernel_rfl)) (by decide) (fun K hK => ?_)
                                 refine goes_ Try.func44 (by kernel_rfl) rfl #[.slice A256_0 (rd_L9 x7_5 x13_5).length c256_0, .slice A257_0 (rd_L9 x7_5 x8_3).length c257_0, .int .i64 (rd (rd_L9 x5_5 x13_5) x8_3)] (by rfl) rfl rfl (by (try simp only [List.map_toArray, List.map_cons, List.map_nil]); first | done | rfl | (simp only [List.length_drop, List.length_take]; rfl)) ?_
                                 with_reducible refine (spec_l06Row.calls kj68 _ _ (rd_L9 x7_5 x13_5) _ _ (rd_L9 x7_5 x8_3) (rd (rd_L9 x5_5 x13_5) x8_3) t258 _ ?side1 ?side2 ?side3 ?side4 A85.out).mono ?_
                                 (case side1 => repeat (first | exact (by repeat (first | (with_reducible exact HR256_0.out) | (with_reducible refine Kd.C_alloc ?_ _) | (with_reducible refine Kd.C_drewN ?_ _) | (with_reducible refine Kd.C_drew ?_) | exact HR256_0.out)) | (with_reducible refine Kd.C_alloc ?_ _) | (with_reducible refine Kd.C_drewN ?_ _) | (with_reducible refine Kd.C_drew ?_)))
                                 (case side2 => exact HC256_0.out)
                                 (case side3 => repeat (first | exact (by repeat (first | (with_reducible exact HR257_0.out) | (with_reducible refine Kd.C_alloc ?_ _) | (with_reducible refine Kd.C_drewN ?_ _) | (with_reducible refine Kd.C_drew ?_) | exact HR257_0.out)) | (with_reducible refine Kd.C_alloc ?_ _) | (with_reducible refine Kd.C_drewN ?_ _) | (with_reducible refine Kd.C_drew ?_)))
                                 (case side4 => exact HC257_0.out)
                                 rintro e w92 ⟨v259, rfl, ho0, hb⟩
                                 have hfv259 := Aside0.mk (by first | exact Kd.R_slice ho0 | exact Kd.S_slice ho0 : ∃ A_ c_, v259 = .slice A_ _ c_)
                                 have HS0_ := (hb.cell (World.block_lt_of_cell? _ _ (hHeld.1))).trans (hHeld.1)
                                 have HS1_ := (hb.cell (World.block_lt_of_cell? _ _ (hHeld.2))).trans (hHeld.2)
                                 refine ⟨_, rfl, ?_⟩
                                 have n0_ := Aside0.mk (Kd.N_elder' (by (with_reducible repeat (first | apply Kd.N_alloc | apply Kd.N_drewN | apply Kd.N_drew)); exact HO_5.out) (Kd.R_base ho0) hb)
                                 have n1_ := Aside0.mk (Kd.N_elder' (by (with_reducible repeat (first | apply Kd.N_alloc | apply Kd.N_drewN | apply Kd.N_drew)); exact HO_7.out) (Kd.R_base ho0) hb)
                                 have n2_ := Aside0.mk (Kd.V_elder' (by (with_reducible repeat (first | apply Kd.V_alloc | apply Kd.V_drewN | apply Kd.V_drew)); exact HL248_0.out) (Kd.R_base ho0) hb)
                                 have n3_ := Aside0.mk (Kd.V_elder' (by (with_reducible repeat (first | apply Kd.V_alloc | apply Kd.V_drewN | apply Kd.V_drew)); exact HL250_0.out) (Kd.R_base ho0) hb)
                                 have n4_ := Aside0.mk (Kd.V_elder' (by (with_reducible repeat (first | apply Kd.V_alloc | apply Kd.V_drewN | apply Kd.V_drew)); exact HL251_0.out) (Kd.R_base ho0) hb)
                                 have n5_ := Aside0.mk (Kd.V_elder' (by (with_reducible repeat (first | apply Kd.V_alloc | apply Kd.V_drewN | apply Kd.V_drew)); exact HL256_0.out) (Kd.R_base ho0) hb)
                                 have n6_ := Aside0.mk (Kd.V_elder' (by (with_reducible repeat (first | apply Kd.V_alloc | apply Kd.V_drewN | apply Kd.V_drew)); exact HL257_0.out) (Kd.R_base ho0) hb)
                                 have n7_ := Aside0.mk (Kd.R_lower (Kd.R_newM (M := fun k_ => (w.heap.size ≤ k_)) ho0 (below_size (BB HB.out)) (fun k_ h_ => h_)) (below_size (BB HB.out)))
                                 have n8_ := Aside0.mk (Kd.C_below (by repeat (first | (with_reducible exact HR256_0.out) | (with_reducible refine Kd.C_alloc ?_ _) | (with_reducible refine Kd.C_drewN ?_ _) | (with_reducible refine Kd.C_drew ?_) | exact HR256_0.out)) hb)
                                 have n9_ := Aside0.mk (Kd.C_below (by repeat (first | (with_reducible exact HR257_0.out) | (with_reducible refine Kd.C_alloc ?_ _) | (with_reducible refine Kd.C_drewN ?_ _) | (with_reducible refine Kd.C_drew ?_) | exact HR257_0.out)) hb)
                                 have n10_ := Aside0.mk (below_step (BB HB.out) hb)
                                 clear HO_5
                                 clear HO_7
                                 clear HL248_0
                                 clear HL250_0
                                 clear HL251_0
                                 clear HL256_0
                                 clear HL257_0
                                 clear HR256_0
                                 clear HR257_0
                                 clear HB
                                 have HO_5 := n0_
                                 have HO_7 := n1_
                                 have HL248_0 := n2_
                                 have HL250_0 := n3_
                                 have HL251_0 := n4_
                                 have HL256_0 := n5_
                                 have HL257_0 := n6_
                                 have HO260 := n7_
                                 have HR256_0 := n8_
                                 have HR257_0 := n9_
                                 have HB := n10_
                                 clear n0_ n1_ n2_ n3_ n4_ n5_ n6_ n7_ n8_ n9_ n10_
                                 (try clear hb)
                                 (try clear hb2)
                                 (try clear hk)
                                 (try clear hi)
                                 (try clear ho0)
                                 have p86 : 0 ≤ (x13_5 : Int) := DT
                                 have q86 : (x13_5 : Int) < ((x7_5.length : Int) : Int) := DT
                                 obtain ⟨ce86, hcl86, hM86, hcc86, hfr86⟩ := Kd.N_elem HO_7.out [] (x13_5 : Int) p86 q86
                                 obtain ⟨ua86_0, uc86_0, rfl, ul86_0, ge86_0⟩ := Kd.FK_slice_open hM86
                                 have hx86_0 := hcc86 0 _ rfl
                                 have hf86_0 := hfr86 0
                                 (try simp only [show ((Kd.slice 3 (Kd.int .i64))).sz = 1 from rfl, Nat.mul_one, Nat.add_zero] at hx86_0)
                                 (try simp only [show ((Kd.slice 3 (Kd.int .i64))).sz = 1 from rfl, Nat.mul_one, Nat.add_zero] at hf86_0)
                                 clear hcl86 hcc86 hfr86 hM86
                                 replace p86 := eq_true p86
                                 replace q86 := eq_true q86
                                 have HX93 := Aside0.mk (show Kd.N (Kd.slice 3 (Kd.int .i64)) 52 _ w.heap.size (fun k_ => (w.heap.size ≤ k_) ∧ some k_ ≠ (.slice (some ⟨go40, 0, none⟩) x5_5.length co52 : Value).ownBlock ∧ some k_ ≠ (v259 : Value).ownBlock) (.slice (some ⟨go44, 0, none⟩) x7_5.length co57) x7_5 from (Kd.N_mono (HO_7.out) (fun k_ hk => ⟨hk.1.1, ⟨hk.1.2, hk.2⟩⟩)))
                                 replace HX93 := Aside0.mk (show Kd.N (Kd.slice 3 (Kd.int .i64)) 52 _ w.heap.size (fun k_ => (w.heap.size ≤ k_) ∧ some k_ ≠ (.slice (some ⟨go40, 0, none⟩) x5_5.length co52 : Value).ownBlock) (.slice (some ⟨go44, 0, none⟩) x7_5.length co57) x7_5 from Kd.N_mono HX93.out (fun k_ hk => ⟨hk.1, hk.2.1⟩))
                                 obtain ⟨ce93, hcl93, hM93, hcc93, hfr93⟩ := Kd.N_elem HX93.out [] (x13_5 : Int) DT (by have h_ : (x13_5 : Int) < ((x7_5.length : Int) : Int) := DT; first | exact h_ | (have e_ := (Kd.N_reads' HO_7.out).1; omega) | simpa using h_)
                                 obtain ⟨ua93_0, uc93_0, rfl, ul93_0, ge93_0⟩ := Kd.FK_slice_open hM93
                                 have HP93 := (Kd.N_seg HX93.out (x13_5 : Int) DT (by have h_ : (x13_5 : Int) < ((x7_5.length : Int) : Int) := DT; first | exact h_ | (have e_ := (Kd.N_reads' HO_7.out).1; omega) | simpa using h_) (seg := [v259]) (j := 0) hcl93 hcc93 (show 1 ≤ 1 from by decide) (x' := t258) (fk_of_R (Kd.R_mono (ok' := (fun k_ => ((fun k_ => (w.heap.size ≤ k_) ∧ some k_ ≠ (.slice (some ⟨go40, 0, none⟩) x5_5.length co52 : Value).ownBlock)) k_ ∧ k_ ≠ go44)) (Kd.R_apart' (Kd.R_apart' (HO260.out) (Kd.N_typed HO_5.out) (by decide)) (Kd.N_typed HO_7.out) (by decide)) (fun k_ hk => ⟨⟨hk.1.1.1, hk.1.2⟩, fun e_ => (hk.2) (by rw [e_]; rfl)⟩))) (fun _ hk => hk)).1
                                 (try simp only [show ((Kd.slice 3 (Kd.int .i64))).sz = 1 from rfl, Nat.mul_one, Nat.add_zero] at HP93)
                                 rw [← Ny261.out] at HP93
                                 have HQ93 := Aside0.mk HP93
                                 clear hcl93 hcc93 hfr93 hM93 HP93
                                 refine hK.out _ _ ⟨HS0_, HS1_⟩ (fun hHeld => ?_)
                                 clear hK K
                                 refine norm_ (a' := ?_) ?_ ?_
                                 rotate_left
                                 ·show Act.put _ (some 177) _ = _
                                  simp only [Act.put, List.setIfInBounds_toArray, List.set_cons_zero, List.set_cons_succ, i64_w, i32_w]
                                  rfl
                                 refine pure_ (i := 12) (N := some 178) (v := ?_) (a' := ?_) #[true, true, true, true, true, true, true, true, true, true, true, true, true, false] rfl rfl (any_of HT_.out (by kernel_rfl)) (fun _ _ _ h => h) (Or.inl ⟨by rfl, ?_⟩) ?_ ?_
                                 rotate_left
                                 ·intro w'
                                  go_simp
                                  with_reducible rfl
                                 rotate_left
                                 ·simp only [Act.put, List.setIfInBounds_toArray, List.set_cons_zero, List.set_cons_succ, i64_w, i32_w]
                                  rfl
                                 refine last_ (i := 13) (N := none) #[true, true, true, true, true, true, true, true, true, true, true, true, true, true] rfl rfl (one_of HT_.out (by kernel_rfl)) (by decide) (fun K hK => ?_)
                                 refine skip_ (w1 := (w92.setCell ⟨go44, (x13_5 : Int).toNat, none⟩ (v259))) (by rfl) rfl ?_ ?_
                                 ·first | (obtain ⟨A_, c_, e_⟩ := hfv259.out; rw [e_]; go_simp; rfl) | (obtain ⟨A_, c_, e_⟩ := hfv259.out; rw [e_]; go_simp; done) | (go_simp; rfl)
                                 refine hK.out _ _ ?_
                                 clear hK K
                                 refine done_ (done_of HT_.out (by kernel_rfl)) ?_
                                 try go_wp2
                                 (try simp only [← hl5_5, ← hl7_5])
                                 go_roundg kj68
                                 case measure => have := HJ1.out; have := HK2.out; have := HK3.out; have := HJ23.out; have := HK5.out; have := HJ68.out; omega
                                 case rel => exact ⟨(y255), (y261), (wrap64 (x13_5 + 1)), FR, H', ⟨by have := HJ1.out; have := HK2.out; have := HK3.out; have := HJ23.out; have := HK5.out; have := HJ68.out; omega⟩, ⟨by (try simp only [hl5_5]); (try simp only [hl7_5]); (with_reducible repeat (first | apply Kd.N_alloc | apply Kd.N_drewN | apply Kd.N_drew)); exact Kd.N_mono (Kd.N_far (p := ⟨go44, (x13_5 : Int).toNat, none⟩) (Kd.N_mono HO_5.out (fun k_ hk => (⟨hk, fun e_ => hk.1.2 (by rw [e_]; rfl)⟩ : _ ∧ k_ ≠ go44))) (fun _ hk => hk.2) (v259)) (fun _ hk => ⟨hk.1.1.1, hk.1.1.2⟩)⟩, ⟨by (try simp only [hl5_5]); (try simp only [hl7_5]); (with_reducible repeat (first | apply Kd.N_alloc | apply Kd.N_drewN | apply Kd.N_drew)); exact HQ93.out⟩, ⟨(BB1 HB.out GB44.out)⟩⟩
                                ·rw [if_neg c84] at H
                                 exact absurd H (by simp)
                               ·rw [if_neg c83] at H
                                exact absurd H (by simp)
                              ·rw [if_neg c80] at H
                               exact absurd H (by simp)
                             ·rw [if_neg c79] at H
                              exact absurd H (by simp)
                            ·rw [if_neg c78] at H
                             exact absurd H (by simp)
                           ·rw [if_neg c77] at H
                            exact absurd H (by simp)
                          ·rw [if_neg c76] at H
                           exact absurd H (by simp)
                         ·replace c75 := Bool.eq_false_iff.mpr c75
                          subst c75
                          have H1 : (spec_InvM.l3 kj68 (l0.length : Int) x5_5 x7_5 x8_3 (wrap64 (x13_5 + 1))) = some (r1, r2) := by rw [if_neg (show ¬ (false = true) by decide)] at H; exact H
                          clear H
                          have H := H1
                          clear H1
                          have H' := Aside0.mk H
                          clear H
                          go_wp2
                          (try simp only [← hl5_5, ← hl7_5])
                          go_roundg kj68
                          case measure => have := HJ1.out; have := HK2.out; have := HK3.out; have := HJ23.out; have := HK5.out; have := HJ68.out; omega
                          case rel => exact ⟨(x5_5), (x7_5), (wrap64 (x13_5 + 1)), FR, H', ⟨by have := HJ1.out; have := HK2.out; have := HK3.out; have := HJ23.out; have := HK5.out; have := HJ68.out; omega⟩, ⟨by (try simp only [hl5_5]); (try simp only [hl7_5]); (with_reducible repeat (first | apply Kd.N_alloc | apply Kd.N_drewN | apply Kd.N_drew)); exact HO_5.out⟩, ⟨by (try simp only [hl5_5]); (try simp only [hl7_5]); (with_reducible repeat (first | apply Kd.N_alloc | apply Kd.N_drewN | apply Kd.N_drew)); exact HO_7.out⟩, ⟨(BB HB.out)⟩⟩
                      ·rw [if_neg c68] at H
                       have c68b0 : decide (x13_5 < (l0.length : Int)) = false := decide_eq_false c68
                       (try (have c68b0_hl5_5 := c68b0; rw [hl5_5] at c68b0_hl5_5))
                       (try (have c68b0_hl7_5 := c68b0; rw [hl7_5] at c68b0_hl7_5))
                       clear c68
                       have H' := Aside0.mk H
                       clear H
                       go_wp2
                       (try simp only [← hl5_5, ← hl7_5])
                       go_roundg k5
                       case measure => have := HJ1.out; have := HK2.out; have := HK3.out; have := HJ23.out; have := HK5.out; omega
                       case rel => exact ⟨(x5_5), (x7_5), (wrap64 (x8_3 + 1)), FR, H', ⟨by have := HJ1.out; have := HK2.out; have := HK3.out; have := HJ23.out; have := HK5.out; omega⟩, ⟨by (try simp only [hl5_5]); (try simp only [hl7_5]); (with_reducible repeat (first | apply Kd.N_alloc | apply Kd.N_drewN | apply Kd.N_drew)); exact HO_5.out⟩, ⟨by (try simp only [hl5_5]); (try simp only [hl7_5]); (with_reducible repeat (first | apply Kd.N_alloc | apply Kd.N_drewN | apply Kd.N_drew)); exact HO_7.out⟩, ⟨(BB HB.out)⟩⟩
                   ·rw [if_neg c46] at H
                    exact absurd H (by simp)
                  ·rw [if_neg c43] at H
                   exact absurd H (by simp)
                 ·rw [if_neg c42] at H
                  exact absurd H (by simp)
                ·rw [if_neg c39] at H
                 exact absurd H (by simp)
               ·rw [if_neg c38] at H
                exact absurd H (by simp)
              ·rw [if_neg c37] at H
               exact absurd H (by simp)
             ·rw [if_neg c36] at H
              exact absurd H (by simp)
         ·rw [if_neg c23] at H
          have c23b0 : decide (x8_3 < (l0.length : Int)) = false := decide_eq_false c23
          clear c23
          simp only [Option.some.injEq, Prod.mk.injEq] at H
          obtain ⟨rfl, rfl⟩ := H
          go_wp2
          go_ret2
          exact ⟨_, ER, by (with_reducible repeat (first | apply Kd.N_alloc | apply Kd.N_drewN | apply Kd.N_drew)); exact Kd.N_mono HO_7.out (fun _ hk => hk.1), (BB HB.out)⟩

end Go.Proofs.Ytahimindlnkmoaa.Pr

namespace Go.Proofs.Ytahimindlnkmoaa.Pr
open Go.RowKit Go.Proofs.YtahimindlnkmoaaW.PrintWords Go.Proofs.YtahimindlnkmoaaW.PrintLast Go.Proofs.YtahimindlnkmoaaW.PrintMore
set_option linter.unusedVariables false
set_option linter.unusedSimpArgs false
open Go.Lib Go.Shelf
def btN (s : ByteArray) (j : Nat) : Int := ((s.data.toList.getD j 0).toNat : Int)
def xB (x y : Int) : Int := Go.bits .xor .u8 x y
theorem btN_lo (s : ByteArray) (j : Nat) : 0 ≤ btN s j := Int.natCast_nonneg _
theorem btN_hi (s : ByteArray) (j : Nat) : btN s j < 256 := by
  unfold btN
  have := (s.data.toList.getD j 0).toNat_lt
  omega
theorem btN_end (s : ByteArray) (j : Nat) (h : s.size ≤ j) : btN s j = 0 := by
  unfold btN
  rw [List.getD_eq_getElem?_getD, List.getElem?_eq_none (by rw [Array.length_toList]; exact h)]
  rfl
theorem btN_get (s : ByteArray) (j : Nat) (h : j < s.size) : btN s j = ((s[j]'h).toNat : Int) := by
  unfold btN
  rw [List.getD_eq_getElem?_getD, List.getElem?_eq_getElem (by rw [Array.length_toList]; exact h)]
  rfl
theorem xB_comm (x y : Int) : xB x y = xB y x := by
  unfold xB Go.bits
  simp only [BitVec.xor_comm]
theorem xB_zero (x : Int) (h0 : 0 ≤ x) (h1 : x < 256) : xB x 0 = x := by
  obtain ⟨n, rfl⟩ : ∃ n : Nat, x = (n : Int) := ⟨x.toNat, by omega⟩
  have hn : n < 256 := by omega
  have e : xB (n : Int) 0 = IntKind.u8.wrap (((BitVec.ofNat 8 n) ^^^ 0#8).toNat : Int) := rfl
  have e2 : (BitVec.ofNat 8 n) ^^^ 0#8 = BitVec.ofNat 8 n := by simp
  rw [e, e2, IntKind.wrap_u8, BitVec.toNat_ofNat]
  omega
def addT (a b : ByteArray) : ByteArray := strOfNums ((List.range (max a.size b.size)).map fun j => xB (btN a j) (btN b j))
theorem addT_comm (a b : ByteArray) : addT a b = addT b a := by
  unfold addT
  rw [Nat.max_comm]
  congr 1
  exact List.map_congr_left fun j _ => xB_comm _ _
theorem getD_map_range (f : Nat → Int) (n j : Nat) (h : j < n) : ((List.range n).map f).getD j 0 = f j := by
  rw [List.getD_eq_getElem?_getD, List.getElem?_map, List.getElem?_range h]
  rfl
def Buf (w : World) (b n : Nat) (f : Nat → Int) : Prop := ∀ j, j < n → w.cell? ⟨b, j, none⟩ = some (.int .u8 (f j)) ∧ w.frozen? ⟨b, j, none⟩ = false
theorem Buf.drew {w : World} {b n : Nat} {f : Nat → Int} (h : Buf w b n f) : Buf w.drew b n f := h
theorem Buf.set {w : World} {b n : Nat} {f : Nat → Int} (h : Buf w b n f) (i : Nat) (v : Int) (g : Nat → Int) (hg : g i = v) (ho : ∀ j, j ≠ i → g j = f j) : Buf (w.setCell ⟨b, i, none⟩ (.int .u8 v)) b n g := fun j hj => by
  refine ⟨?_, by rw [World.frozen?_setCell]; exact (h j hj).2⟩
  by_cases e : j = i
  · subst e
    rw [hg]
    exact World.cell?_setCell_same' _ _ _ (by rw [(h j hj).1]; rfl)
  · rw [World.cell?_setCell_other _ _ _ _ (by intro e2; simp only [Addr.mk.injEq] at e2; exact e e2.2.1.symm), ho j e]
    exact (h j hj).1
theorem Buf.conv {P : Program} {w : World} {b n : Nat} {f : Nat → Int} (h : Buf w b n f) (src e : TypeId) (hs : P.underlying src = some (.slice e)) (he : P.underlying e = some (.int .u8)) (cap : Nat) : ∀ dst, P.underlying dst = some .string → (convert src dst (.slice (some ⟨b, 0, none⟩) n cap)).run P w = .ok (.string (strOfNums ((List.range n).map f))) w :=
  run_convert_bytes_arg w src e hs he b 0 n cap ((List.range n).map f) (by simp) (fun i hi => by rw [Nat.zero_add, getD_map_range f n i hi]; exact (h i hi).1)
theorem Buf.new (w : World) (e : TypeId) (s : ByteArray) : Buf (bytesWorld w e s) w.heap.size s.size (btN s) := fun j hj => ⟨bytesWorld_cell w e s j hj, by
  simp only [World.frozen?, bytesWorld_at_new]
  have : s.size ≤ (bytesCells w e s).size := by simp [bytesCells]
  simp
  omega⟩
theorem below_bytes (w : World) (e : TypeId) (s : ByteArray) : Below w.heap.size w (bytesWorld w e s) := by
  refine ⟨?_, ?_, ?_, by rw [bytesWorld_size]; omega, fun k hk => bytesWorld_at_old w e s k hk⟩
  · simp [bytesWorld, World.freeze, World.alloc, World.drew, -World.alloc_eq, -World.drew_eq]
  · simp [bytesWorld, World.freeze, World.alloc, World.drew, -World.alloc_eq, -World.drew_eq]
  · simp [bytesWorld, World.freeze, World.alloc, World.drew, -World.alloc_eq, -World.drew_eq]
end Go.Proofs.Ytahimindlnkmoaa.Pr

namespace Go.Proofs.Ytahimindlnkmoaa.Pr
open Go.RowKit Go.Proofs.YtahimindlnkmoaaW.PrintWords Go.Proofs.YtahimindlnkmoaaW.PrintLast Go.Proofs.YtahimindlnkmoaaW.PrintMore
set_option linter.unusedVariables false
set_option linter.unusedSimpArgs false
open Go.Lib Go.Shelf
def spec_AddText.f (a0 a1 : ByteArray) : Option ByteArray := if a0.size ≤ 1048576 ∧ a1.size ≤ 1048576 then some (addT a0 a1) else none
set_option maxHeartbeats 8000000 in
set_option maxRecDepth 100000 in
theorem spec_AddText.calls (a0 a1 : ByteArray) (r : ByteArray) (w : World) (h : spec_AddText.f a0 a1 = some r) :
    Calls Try.prog 45 #[.string a0, .string a1] w fun e w' => e = .returned (.string r) ∧ Below w.heap.size w w' := by
  unfold spec_AddText.f at h
  by_cases hz : a0.size ≤ 1048576 ∧ a1.size ≤ 1048576
  case neg => rw [if_neg hz] at h; cases h
  rw [if_pos hz] at h
  obtain ⟨hz0, hz1⟩ := hz
  have HR : Aside0 (r = addT a0 a1) := ⟨(Option.some.inj h).symm⟩
  clear h
  have mixed : Try.prog.follows .mixedOrders = true := by kernel_rfl
  have u58 := Try.underlying58
  go_enter Try.func45, Try.ntmps45
  go_upto_if 12 with fail
  go_cut [0, 1] (fun s0 s1 wc => ∃ x y : ByteArray, s0 = .string x ∧ s1 = .string y ∧ y.size ≤ x.size ∧ x.size ≤ 1048576 ∧ Aside0 (r = addT x y) ∧ wc = w)
  case first =>
    by_cases hlt : a0.size < a1.size
    · have hltz : decide ((a0.size : Int) < (a1.size : Int)) = true := decide_eq_true (by omega)
      go_wp2
      go_meet
      case rel => exact ⟨a1, a0, rfl, rfl, by omega, hz1, ⟨by rw [addT_comm]; exact HR.out⟩, rfl⟩
    · have hltz : decide ((a0.size : Int) < (a1.size : Int)) = false := decide_eq_false (by omega)
      go_wp2
      go_meet
      case rel => exact ⟨a0, a1, rfl, rfl, by omega, hz0, HR, rfl⟩
  case rest =>
    obtain ⟨x, y, rfl, rfl, hyx, hx, HR2, rfl⟩ := hcut
    have hcv := Lib.run_convert_string_bytes (P := Try.prog) wc 9 58 5 x Try.underlying9 Try.underlying58 Try.underlying5
    have HB0 := Aside0.mk (below_bytes wc 5 x)
    have HU0 := Aside0.mk (Buf.new wc 5 x)
    have hbz := bytesWorld_size wc 5 x
    generalize bytesWorld wc 5 x = W1 at hcv HB0 HU0 hbz
    generalize grownCap wc x.size 0 5 = cp at hcv
    go_wp2
    clear hcv
    obtain ⟨bb, hbb⟩ : ∃ q, q = wc.heap.size := ⟨_, rfl⟩
    have GE : Aside0 (wc.heap.size ≤ bb) := ⟨by omega⟩
    rw [← hbb] at HU0
    (try rw [← hbb])
    clear hbb hbz
    have HU1 : Aside0 (Buf W1 bb x.size (fun j => xB (btN x j) (if j < 0 then btN y j else 0))) := ⟨fun j hj => by
      show _ = some (Value.int .u8 (xB (btN x j) (if j < 0 then btN y j else 0))) ∧ _
      rw [if_neg (Nat.not_lt_zero _), xB_zero _ (btN_lo x j) (btN_hi x j)]
      exact HU0.out j hj⟩
    clear HU0
    go_loopg [7] y.size (fun gg s7 wr => ∃ i : Nat, s7 = .int .i64 i ∧ i ≤ y.size ∧ y.size - i ≤ gg ∧ Aside0 (Buf wr bb x.size (fun j => xB (btN x j) (if j < i then btN y j else 0))) ∧ Aside0 (Below wc.heap.size wc wr))
    case atStart => exact ⟨0, rfl, Nat.zero_le _, Nat.sub_le _ _, HU1, HB0⟩
    case round =>
      clear HU1 HB0
      obtain ⟨i, rfl, hin, hgg, HU, HB⟩ := hrel
      by_cases hlt : i < y.size
      · have hltz : (i : Int) < (y.size : Int) := by omega
        have hixz : (i : Int) < (x.size : Int) := by omega
        obtain ⟨hc, hf⟩ := HU.out i (by omega)
        replace hc : wr.cell? ⟨bb, i, none⟩ = some (.int .u8 (xB (btN x i) (if i < i then btN y i else 0))) := hc
        rw [if_neg (Nat.lt_irrefl _), xB_zero _ (btN_lo x i) (btN_hi x i)] at hc
        have hu : btN y i = ((y[i]'hlt).toNat : Int) := btN_get y i hlt
        have HU2 : Aside0 (Buf (wr.setCell ⟨bb, i, none⟩ (.int .u8 (Go.bits .xor .u8 (btN x i) ((y[i]'hlt).toNat : Int)))).drew bb x.size (fun j => xB (btN x j) (if j < i + 1 then btN y j else 0))) := ⟨Buf.drew (HU.out.set i _ _ (by
          show xB (btN x i) (if i < i + 1 then btN y i else 0) = _
          rw [if_pos (Nat.lt_succ_self _), hu]; rfl) (fun j hj => by
          show xB (btN x j) (if j < i + 1 then btN y j else 0) = xB (btN x j) (if j < i then btN y j else 0)
          by_cases h1 : j < i
          · rw [if_pos h1, if_pos (by omega)]
          · rw [if_neg h1, if_neg (by omega)]))⟩
        have HB2 : Aside0 (Below wc.heap.size wc (wr.setCell ⟨bb, i, none⟩ (.int .u8 (Go.bits .xor .u8 (btN x i) ((y[i]'hlt).toNat : Int)))).drew) := ⟨(HB.out.setCell (p := ⟨bb, i, none⟩) GE.out _).drew⟩
        clear HU HB hu
        go_wp2_with fail
        go_big_region_o
        go_wp2
        go_roundg (y.size - (i + 1))
        case measure => omega
        case rel => exact ⟨i + 1, by go_num, hlt, Nat.le_refl _, HU2, HB2⟩
      · have hltz : ¬ (i : Int) < (y.size : Int) := by omega
        obtain rfl : i = y.size := by omega
        have hcv2 := HU.out.conv 58 5 Try.underlying58 Try.underlying5 cp 9 Try.underlying9
        have e : strOfNums ((List.range x.size).map fun j => xB (btN x j) (if j < y.size then btN y j else 0)) = r := by
          rw [HR2.out]
          unfold addT
          rw [Nat.max_eq_left hyx]
          congr 1
          refine List.map_congr_left fun j _ => ?_
          by_cases h1 : j < y.size
          · rw [if_pos h1]
          · rw [if_neg h1, btN_end y j (by omega)]
        rw [e] at hcv2
        clear e
        go_wp2
        go_ret
        exact ⟨rfl, HB.out⟩
end Go.Proofs.Ytahimindlnkmoaa.Pr
