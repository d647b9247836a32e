/- A part of the proof of the law FnExactEventOk: its texts, one behind the other. -/
import Derived.ChangeArms
import Derived.Deep.Slices
import Derived.Laws.Cover1
import Derived.Lib.Strings
import Derived.WideShapes
import Derived.Test.YtfgnaneajonapaaDoorBFnExactEventOk1
import Derived.Test.YtfgnaneajonapaaDoorBFnExactEventOk2
import Derived.Test.YtfgnaneajonapaaDoorBFnExactEventOk3
import Derived.Test.YtfgnaneajonapaaDoorBFnExactEventOk4
namespace Go.Proofs.YtfgnaneajonapaaDoor.Pr
open Go.RowKit Go.Proofs.YtfgnaneajonapaaDoorW.PrintWords Go.Proofs.YtfgnaneajonapaaDoorW.PrintLast Go.Proofs.YtfgnaneajonapaaDoorW.PrintMore
attribute [local go_sem] max2_int min2_int max_two min_two max_three min_three max_four min_four
set_option linter.unusedVariables false
set_option linter.unusedSimpArgs false
def impl_AskOk.j0 : Nat → Bool → Int → Int → ByteArray → ByteArray → ByteArray → Int → Option (Bool)
  | 0, _, _, _, _, _, _, _ => none
  | k + 1, x3, x222000, x222001, x222002, x222003, x222004, x222005 => if x222000 = 3 then ((impl_within.f (x222004.size : Int) 1 60).bind fun t229 => (if x222005 = 0 then ((impl_within.f x222000 1 10).bind fun t230 => (if t230 = true then ((impl_within.f x222001 1 9).bind fun t231 => (if t231 = true then (if x3 = true then (if t229 = true then (if x222003.toList = ([] : List UInt8) then (some true) else (some (x222000 == 5))) else (some false)) else (some false)) else (some false))) else (some false))) else (if x222000 = 8 then ((impl_within.f x222000 1 10).bind fun t232 => (if t232 = true then ((impl_within.f x222001 1 9).bind fun t233 => (if t233 = true then (if x3 = true then (if t229 = true then (if x222003.toList = ([] : List UInt8) then (some true) else (some (x222000 == 5))) else (some false)) else (some false)) else (some false))) else (some false))) else ((impl_within.f x222000 1 10).bind fun t234 => (if t234 = true then ((impl_within.f x222001 1 9).bind fun t235 => (if t235 = true then (if x3 = true then (if t229 = true then (if x222000 = 9 then (if x222003.toList = ([] : List UInt8) then (some true) else (some (x222000 == 5))) else (some false)) else (some false)) else (some false)) else (some false))) else (some false)))))) else (if x222005 = 0 then ((impl_within.f x222000 1 10).bind fun t236 => (if t236 = true then ((impl_within.f x222001 1 9).bind fun t237 => (if t237 = true then (if x3 = true then (if x222004.toList = ([] : List UInt8) then (if x222003.toList = ([] : List UInt8) then (some true) else (some (x222000 == 5))) else (some false)) else (some false)) else (some false))) else (some false))) else (if x222000 = 8 then ((impl_within.f x222000 1 10).bind fun t238 => (if t238 = true then ((impl_within.f x222001 1 9).bind fun t239 => (if t239 = true then (if x3 = true then (if x222004.toList = ([] : List UInt8) then (if x222003.toList = ([] : List UInt8) then (some true) else (some (x222000 == 5))) else (some false)) else (some false)) else (some false))) else (some false))) else ((impl_within.f x222000 1 10).bind fun t240 => (if t240 = true then ((impl_within.f x222001 1 9).bind fun t241 => (if t241 = true then (if x3 = true then (if x222004.toList = ([] : List UInt8) then (if x222000 = 9 then (if x222003.toList = ([] : List UInt8) then (some true) else (some (x222000 == 5))) else (some false)) else (some false)) else (some false)) else (some false))) else (some false)))))
def impl_AskOk.f (k : Nat) (a0_0 : Int) (a0_1 : Int) (a0_2 : ByteArray) (a0_3 : ByteArray) (a0_4 : ByteArray) (a0_5 : Int) : Option (Bool) := (impl_named.f a0_2).bind fun t222 => (if a0_0 = 7 then (impl_AskOk.j0 k t222 a0_0 a0_1 a0_2 a0_3 a0_4 a0_5) else ((impl_EditOf.f a0_0 a0_1 a0_2 a0_3 a0_4 a0_5).bind fun bt223 => ((impl_EditOk.f k bt223.1 bt223.2.1 bt223.2.2.1 bt223.2.2.2.1 bt223.2.2.2.2).bind fun t228 => (impl_AskOk.j0 k t228 a0_0 a0_1 a0_2 a0_3 a0_4 a0_5))))
set_option maxHeartbeats 8000000 in
set_option maxRecDepth 100000 in
theorem impl_AskOk.calls (k : Nat) (a0_0 : Int) (a0_1 : Int) (a0_2 : ByteArray) (a0_3 : ByteArray) (a0_4 : ByteArray) (a0_5 : Int) (r : Bool) (w : World) (h : impl_AskOk.f k a0_0 a0_1 a0_2 a0_3 a0_4 a0_5 = some r) :
    Calls Tryd.prog 15 #[.agg #[.int .i64 a0_0, .int .i64 a0_1, .string a0_2, .string a0_3, .string a0_4, .int .i64 a0_5]] w fun e w' => e = .returned (.bool r) ∧ Below w.heap.size w w' := by
  have hu33 := Tryd.underlying33
  have HB := Aside0.mk (Below.refl w.heap.size w)
  have H : ((impl_named.f a0_2).bind fun t222 => (if a0_0 = 7 then (impl_AskOk.j0 k t222 a0_0 a0_1 a0_2 a0_3 a0_4 a0_5) else ((impl_EditOf.f a0_0 a0_1 a0_2 a0_3 a0_4 a0_5).bind fun bt223 => ((impl_EditOk.f k bt223.1 bt223.2.1 bt223.2.2.1 bt223.2.2.2.1 bt223.2.2.2.2).bind fun t228 => (impl_AskOk.j0 k t228 a0_0 a0_1 a0_2 a0_3 a0_4 a0_5))))) = some r := h
  clear h
  replace H := Option.bind_eq_some_iff.mp H
  obtain ⟨t222, A20, H⟩ := H
  replace H : (if a0_0 = 7 then (impl_AskOk.j0 k t222 a0_0 a0_1 a0_2 a0_3 a0_4 a0_5) else ((impl_EditOf.f a0_0 a0_1 a0_2 a0_3 a0_4 a0_5).bind fun bt223 => ((impl_EditOk.f k bt223.1 bt223.2.1 bt223.2.2.1 bt223.2.2.2.1 bt223.2.2.2.2).bind fun t228 => (impl_AskOk.j0 k t228 a0_0 a0_1 a0_2 a0_3 a0_4 a0_5)))) = some r := H
  have A2 := Aside0.mk A20
  clear A20
  have HC3 := Aside0.mk H
  clear H
  go_enter Tryd.func15, Tryd.ntmps15
  go_upto_if 11 with (first | ((with_reducible refine gate_dst (N := 1) rfl ?_); refine BX 1 #[.int .i64 a0_0, .int .i64 a0_1, .string a0_2, .string a0_3, .string a0_4, .int .i64 a0_5] 33 ?_; intro gb221 hg w4 hbox hb; have BK221 := Aside0.mk (hbox); have GW221 : Aside0 (w.heap.size ≤ gb221) := WG hg (BB HB.out); have GE221 := GW221; replace HB := Aside0.mk (below_step (BB HB.out) hb); clear hb hbox hg; have hcz5_0 : w4.cell? ⟨gb221, 0, none⟩ = some (.int .i64 a0_0) := (blk_cell BK221.out 0).trans rfl; have hcz5_1 : w4.cell? ⟨gb221, 1, none⟩ = some (.int .i64 a0_1) := (blk_cell BK221.out 1).trans rfl; have hcz5_2 : w4.cell? ⟨gb221, 2, none⟩ = some (.string a0_2) := (blk_cell BK221.out 2).trans rfl; have hcz5_3 : w4.cell? ⟨gb221, 3, none⟩ = some (.string a0_3) := (blk_cell BK221.out 3).trans rfl; have hcz5_4 : w4.cell? ⟨gb221, 4, none⟩ = some (.string a0_4) := (blk_cell BK221.out 4).trans rfl; have hcz5_5 : w4.cell? ⟨gb221, 5, none⟩ = some (.int .i64 a0_5) := (blk_cell BK221.out 5).trans rfl; have hfz5_0 := blk_frozen BK221.out 0; have hfz5_1 := blk_frozen BK221.out 1; have hfz5_2 := blk_frozen BK221.out 2; have hfz5_3 := blk_frozen BK221.out 3; have hfz5_4 := blk_frozen BK221.out 4; have hfz5_5 := blk_frozen BK221.out 5) | ((with_reducible refine gate_callee (f := 29) rfl ?_); refine GL (some 8) rfl rfl Tryd.func29 #[.string a0_2] rfl ?_; (with_reducible refine (impl_named.calls a0_2 t222 _ A2.out).mono ?_); rintro e w6 ⟨rfl, hb⟩; refine ⟨_, rfl, ?_⟩; replace BK221 := Aside0.mk (KB BK221.out hb); replace HB := Aside0.mk (below_step (BB1 HB.out GE221.out) hb); (try clear hb); have hcz7_0 : w6.cell? ⟨gb221, 0, none⟩ = some (.int .i64 a0_0) := (blk_cell BK221.out 0).trans rfl; have hcz7_1 : w6.cell? ⟨gb221, 1, none⟩ = some (.int .i64 a0_1) := (blk_cell BK221.out 1).trans rfl; have hcz7_2 : w6.cell? ⟨gb221, 2, none⟩ = some (.string a0_2) := (blk_cell BK221.out 2).trans rfl; have hcz7_3 : w6.cell? ⟨gb221, 3, none⟩ = some (.string a0_3) := (blk_cell BK221.out 3).trans rfl; have hcz7_4 : w6.cell? ⟨gb221, 4, none⟩ = some (.string a0_4) := (blk_cell BK221.out 4).trans rfl; have hcz7_5 : w6.cell? ⟨gb221, 5, none⟩ = some (.int .i64 a0_5) := (blk_cell BK221.out 5).trans rfl; have hfz7_0 := blk_frozen BK221.out 0; have hfz7_1 := blk_frozen BK221.out 1; have hfz7_2 := blk_frozen BK221.out 2; have hfz7_3 := blk_frozen BK221.out 3; have hfz7_4 := blk_frozen BK221.out 4; have hfz7_5 := blk_frozen BK221.out 5))
  (try simp only [Act.put, List.setIfInBounds_toArray, List.set_cons_zero, List.set_cons_succ])
  go_cut [3] (fun v3 wc => ∃ (kq : Nat) (x3_2 : Bool), v3 = .bool x3_2 ∧ Aside0 (impl_AskOk.j0 kq x3_2 a0_0 a0_1 a0_2 a0_3 a0_4 a0_5 = some r) ∧ Aside0 (kq ≤ k) ∧ Aside0 (wc.heap[gb221]? = some (.cells #[.int .i64 a0_0, .int .i64 a0_1, .string a0_2, .string a0_3, .string a0_4, .int .i64 a0_5] 33 (0, 0))) ∧ Aside0 (Below w.heap.size w wc))
  case first =>
    have H := HC3.out
    clear HC3
    by_cases c8 : a0_0 = 7
    · rw [if_pos c8] at H
      have c8b0 : (a0_0 == 7) = true := beq_iff_eq.mpr c8
      have c8b1 : (a0_0 != 7) = false := bne_eq_false_iff_eq.mpr c8
      clear c8
      (first | rw [c8b0] | (simp only [i64_w, i32_w]; rw [c8b0]) | skip)
      have H' := Aside0.mk H
      clear H
      go_wp2
      go_meet
      case rel => exact ⟨_, (t222), FR, H', ⟨by first | omega | exact Nat.le_refl _⟩, ⟨by (with_reducible repeat (first | refine blk_drewN ?_ _ | refine blk_drew ?_ | refine blk_alloc ?_ _)); exact BK221.out⟩, ⟨(BB1 HB.out GE221.out)⟩⟩
    · rw [if_neg c8] at H
      have c8b0 : (a0_0 == 7) = false := beq_eq_false_iff_ne.mpr c8
      have c8b1 : (a0_0 != 7) = true := bne_iff_ne.mpr c8
      (first | rw [c8b0] | (simp only [i64_w, i32_w]; rw [c8b0]) | skip)
      replace H := Option.bind_eq_some_iff.mp H
      obtain ⟨⟨t223, t224, t225, t226, t227⟩, A90, H⟩ := H
      replace H : ((impl_EditOk.f k t223 t224 t225 t226 t227).bind fun t228 => (impl_AskOk.j0 k t228 a0_0 a0_1 a0_2 a0_3 a0_4 a0_5)) = some r := H
      have A9 := Aside0.mk A90
      clear A90
      replace H := Option.bind_eq_some_iff.mp H
      obtain ⟨t228, A100, H⟩ := H
      replace H : (impl_AskOk.j0 k t228 a0_0 a0_1 a0_2 a0_3 a0_4 a0_5) = some r := H
      have A10 := Aside0.mk A100
      clear A100
      have H' := Aside0.mk H
      clear H
      have hcz11_0 : w6.cell? ⟨gb221, 0, none⟩ = some (.int .i64 a0_0) := (blk_cell BK221.out 0).trans rfl
      have hcz11_1 : w6.cell? ⟨gb221, 1, none⟩ = some (.int .i64 a0_1) := (blk_cell BK221.out 1).trans rfl
      have hcz11_2 : w6.cell? ⟨gb221, 2, none⟩ = some (.string a0_2) := (blk_cell BK221.out 2).trans rfl
      have hcz11_3 : w6.cell? ⟨gb221, 3, none⟩ = some (.string a0_3) := (blk_cell BK221.out 3).trans rfl
      have hcz11_4 : w6.cell? ⟨gb221, 4, none⟩ = some (.string a0_4) := (blk_cell BK221.out 4).trans rfl
      have hcz11_5 : w6.cell? ⟨gb221, 5, none⟩ = some (.int .i64 a0_5) := (blk_cell BK221.out 5).trans rfl
      have hfz11_0 := blk_frozen BK221.out 0
      have hfz11_1 := blk_frozen BK221.out 1
      have hfz11_2 := blk_frozen BK221.out 2
      have hfz11_3 := blk_frozen BK221.out 3
      have hfz11_4 := blk_frozen BK221.out 4
      have hfz11_5 := blk_frozen BK221.out 5
      go_wp2_with (first | ((with_reducible refine gate_callee (f := 35) rfl ?_); refine GL (some 13) rfl rfl Tryd.func35 #[.agg #[.int .i64 a0_0, .int .i64 a0_1, .string a0_2, .string a0_3, .string a0_4, .int .i64 a0_5]] rfl ?_; (with_reducible refine (impl_EditOf.calls a0_0 a0_1 a0_2 a0_3 a0_4 a0_5 t223 t224 t225 t226 t227 _ A9.out).mono ?_); rintro e w12 ⟨rfl, hb⟩; refine ⟨_, rfl, ?_⟩; replace BK221 := Aside0.mk (KB BK221.out hb); replace HB := Aside0.mk (below_step (BB1 HB.out GE221.out) hb); (try clear hb)) | ((with_reducible refine gate_callee (f := 34) rfl ?_); refine GL (some 14) rfl rfl Tryd.func34 #[.agg #[.int .i64 t223, .string t224, .string t225, .int .i64 t226, .int .i64 t227]] rfl ?_; (with_reducible refine (impl_EditOk.calls k t223 t224 t225 t226 t227 t228 _ A10.out).mono ?_); rintro e w13 ⟨rfl, hb⟩; refine ⟨_, rfl, ?_⟩; replace BK221 := Aside0.mk (KB BK221.out hb); replace HB := Aside0.mk (below_step (BB1 HB.out GE221.out) hb); (try clear hb)))
      go_meet
      case rel => exact ⟨_, (t228), FR, H', ⟨by first | omega | exact Nat.le_refl _⟩, ⟨by (with_reducible repeat (first | refine blk_drewN ?_ _ | refine blk_drew ?_ | refine blk_alloc ?_ _)); exact BK221.out⟩, ⟨(BB1 HB.out GE221.out)⟩⟩
  case rest =>
    clear HC3
    try clear c1
    try clear c2
    try clear p2
    try clear c3
    try clear c8
    try clear c8b0
    try clear c8b1
    try clear hcz11_0
    try clear hcz11_1
    try clear hcz11_2
    try clear hcz11_3
    try clear hcz11_4
    try clear hcz11_5
    try clear hcz5_0
    try clear hcz5_1
    try clear hcz5_2
    try clear hcz5_3
    try clear hcz5_4
    try clear hcz5_5
    try clear hcz7_0
    try clear hcz7_1
    try clear hcz7_2
    try clear hcz7_3
    try clear hcz7_4
    try clear hcz7_5
    try clear hfz11_0
    try clear hfz11_1
    try clear hfz11_2
    try clear hfz11_3
    try clear hfz11_4
    try clear hfz11_5
    try clear hfz5_0
    try clear hfz5_1
    try clear hfz5_2
    try clear hfz5_3
    try clear hfz5_4
    try clear hfz5_5
    try clear hfz7_0
    try clear hfz7_1
    try clear hfz7_2
    try clear hfz7_3
    try clear hfz7_4
    try clear hfz7_5
    obtain ⟨kq, x3_2, rfl, HA, HJ2, BK221, HB⟩ := hcut
    cases kq with
    | zero => exact absurd HA.out (by simp [impl_AskOk.j0])
    | succ kj2 =>
      have H := HA.out
      clear HA
      simp only [impl_AskOk.j0] at H
      by_cases c14 : a0_0 = 3
      · rw [if_pos c14] at H
        have c14b0 : (a0_0 == 3) = true := beq_iff_eq.mpr c14
        have c14b1 : (a0_0 != 3) = false := bne_eq_false_iff_eq.mpr c14
        clear c14
        replace H := Option.bind_eq_some_iff.mp H
        obtain ⟨t229, A150, H⟩ := H
        replace H : (if a0_5 = 0 then ((impl_within.f a0_0 1 10).bind fun t230 => (if t230 = true then ((impl_within.f a0_1 1 9).bind fun t231 => (if t231 = true then (if x3_2 = true then (if t229 = true then (if a0_3.toList = ([] : List UInt8) then (some true) else (some (a0_0 == 5))) else (some false)) else (some false)) else (some false))) else (some false))) else (if a0_0 = 8 then ((impl_within.f a0_0 1 10).bind fun t232 => (if t232 = true then ((impl_within.f a0_1 1 9).bind fun t233 => (if t233 = true then (if x3_2 = true then (if t229 = true then (if a0_3.toList = ([] : List UInt8) then (some true) else (some (a0_0 == 5))) else (some false)) else (some false)) else (some false))) else (some false))) else ((impl_within.f a0_0 1 10).bind fun t234 => (if t234 = true then ((impl_within.f a0_1 1 9).bind fun t235 => (if t235 = true then (if x3_2 = true then (if t229 = true then (if a0_0 = 9 then (if a0_3.toList = ([] : List UInt8) then (some true) else (some (a0_0 == 5))) else (some false)) else (some false)) else (some false)) else (some false))) else (some false))))) = some r := H
        have A15 := Aside0.mk A150
        clear A150
        by_cases c16 : a0_5 = 0
        · rw [if_pos c16] at H
          have c16b0 : (a0_5 == 0) = true := beq_iff_eq.mpr c16
          have c16b1 : (a0_5 != 0) = false := bne_eq_false_iff_eq.mpr c16
          clear c16
          replace H := Option.bind_eq_some_iff.mp H
          obtain ⟨t230, A170, H⟩ := H
          replace H : (if t230 = true then ((impl_within.f a0_1 1 9).bind fun t231 => (if t231 = true then (if x3_2 = true then (if t229 = true then (if a0_3.toList = ([] : List UInt8) then (some true) else (some (a0_0 == 5))) else (some false)) else (some false)) else (some false))) else (some false)) = some r := H
          have A17 := Aside0.mk A170
          clear A170
          by_cases c18 : t230 = true
          · subst c18
            have H1 : ((impl_within.f a0_1 1 9).bind fun t231 => (if t231 = true then (if x3_2 = true then (if t229 = true then (if a0_3.toList = ([] : List UInt8) then (some true) else (some (a0_0 == 5))) else (some false)) else (some false)) else (some false))) = some r := by rw [if_pos rfl] at H; exact H
            clear H
            have H := H1
            clear H1
            replace H := Option.bind_eq_some_iff.mp H
            obtain ⟨t231, A190, H⟩ := H
            replace H : (if t231 = true then (if x3_2 = true then (if t229 = true then (if a0_3.toList = ([] : List UInt8) then (some true) else (some (a0_0 == 5))) else (some false)) else (some false)) else (some false)) = some r := H
            have A19 := Aside0.mk A190
            clear A190
            by_cases c20 : t231 = true
            · subst c20
              have H1 : (if x3_2 = true then (if t229 = true then (if a0_3.toList = ([] : List UInt8) then (some true) else (some (a0_0 == 5))) else (some false)) else (some false)) = some r := by rw [if_pos rfl] at H; exact H
              clear H
              have H := H1
              clear H1
              by_cases c21 : x3_2 = true
              · subst c21
                have H1 : (if t229 = true then (if a0_3.toList = ([] : List UInt8) then (some true) else (some (a0_0 == 5))) else (some false)) = some r := by rw [if_pos rfl] at H; exact H
                clear H
                have H := H1
                clear H1
                by_cases c22 : t229 = true
                · subst c22
                  have H1 : (if a0_3.toList = ([] : List UInt8) then (some true) else (some (a0_0 == 5))) = some r := by rw [if_pos rfl] at H; exact H
                  clear H
                  have H := H1
                  clear H1
                  by_cases c23 : a0_3.toList = ([] : List UInt8)
                  · rw [if_pos c23] at H
                    have c23b0 : (a0_3.toList == ([] : List UInt8)) = true := beq_iff_eq.mpr c23
                    have c23b1 : (a0_3.toList != ([] : List UInt8)) = false := bne_eq_false_iff_eq.mpr c23
                    clear c23
                    obtain rfl := Option.some.inj H
                    have hcz24_0 : wc.cell? ⟨gb221, 0, none⟩ = some (.int .i64 a0_0) := (blk_cell BK221.out 0).trans rfl
                    have hcz24_1 : wc.cell? ⟨gb221, 1, none⟩ = some (.int .i64 a0_1) := (blk_cell BK221.out 1).trans rfl
                    have hcz24_2 : wc.cell? ⟨gb221, 2, none⟩ = some (.string a0_2) := (blk_cell BK221.out 2).trans rfl
                    have hcz24_3 : wc.cell? ⟨gb221, 3, none⟩ = some (.string a0_3) := (blk_cell BK221.out 3).trans rfl
                    have hcz24_4 : wc.cell? ⟨gb221, 4, none⟩ = some (.string a0_4) := (blk_cell BK221.out 4).trans rfl
                    have hcz24_5 : wc.cell? ⟨gb221, 5, none⟩ = some (.int .i64 a0_5) := (blk_cell BK221.out 5).trans rfl
                    have hfz24_0 := blk_frozen BK221.out 0
                    have hfz24_1 := blk_frozen BK221.out 1
                    have hfz24_2 := blk_frozen BK221.out 2
                    have hfz24_3 := blk_frozen BK221.out 3
                    have hfz24_4 := blk_frozen BK221.out 4
                    have hfz24_5 := blk_frozen BK221.out 5
                    go_wp2_with (first | ((with_reducible refine gate_callee (f := 30) rfl ?_); refine GL (some 24) rfl rfl Tryd.func30 #[.int .i64 (a0_4.size : Int), .int .i64 1, .int .i64 60] rfl ?_; (with_reducible refine (impl_within.calls (a0_4.size : Int) 1 60 true _ A15.out).mono ?_); rintro e w' ⟨rfl, ⟨nd, rfl⟩⟩; refine ⟨_, rfl, ?_⟩) | ((with_reducible refine gate_callee (f := 30) rfl ?_); refine GL (some 40) rfl rfl Tryd.func30 #[.int .i64 a0_0, .int .i64 1, .int .i64 10] rfl ?_; (with_reducible refine (impl_within.calls a0_0 1 10 true _ A17.out).mono ?_); rintro e w' ⟨rfl, ⟨nd, rfl⟩⟩; refine ⟨_, rfl, ?_⟩) | (go_at_call 30; (with_reducible refine (impl_within.calls a0_1 1 9 true _ A19.out).mono ?_); rintro e w' ⟨rfl, ⟨nd, rfl⟩⟩))
                    go_ret
                    exact ⟨ER, (BB1 HB.out GE221.out)⟩
                  · rw [if_neg c23] at H
                    have c23b0 : (a0_3.toList == ([] : List UInt8)) = false := beq_eq_false_iff_ne.mpr c23
                    have c23b1 : (a0_3.toList != ([] : List UInt8)) = true := bne_iff_ne.mpr c23
                    obtain rfl := Option.some.inj H
                    have hcz25_0 : wc.cell? ⟨gb221, 0, none⟩ = some (.int .i64 a0_0) := (blk_cell BK221.out 0).trans rfl
                    have hcz25_1 : wc.cell? ⟨gb221, 1, none⟩ = some (.int .i64 a0_1) := (blk_cell BK221.out 1).trans rfl
                    have hcz25_2 : wc.cell? ⟨gb221, 2, none⟩ = some (.string a0_2) := (blk_cell BK221.out 2).trans rfl
                    have hcz25_3 : wc.cell? ⟨gb221, 3, none⟩ = some (.string a0_3) := (blk_cell BK221.out 3).trans rfl
                    have hcz25_4 : wc.cell? ⟨gb221, 4, none⟩ = some (.string a0_4) := (blk_cell BK221.out 4).trans rfl
                    have hcz25_5 : wc.cell? ⟨gb221, 5, none⟩ = some (.int .i64 a0_5) := (blk_cell BK221.out 5).trans rfl
                    have hfz25_0 := blk_frozen BK221.out 0
                    have hfz25_1 := blk_frozen BK221.out 1
                    have hfz25_2 := blk_frozen BK221.out 2
                    have hfz25_3 := blk_frozen BK221.out 3
                    have hfz25_4 := blk_frozen BK221.out 4
                    have hfz25_5 := blk_frozen BK221.out 5
                    go_wp2_with (first | ((with_reducible refine gate_callee (f := 30) rfl ?_); refine GL (some 24) rfl rfl Tryd.func30 #[.int .i64 (a0_4.size : Int), .int .i64 1, .int .i64 60] rfl ?_; (with_reducible refine (impl_within.calls (a0_4.size : Int) 1 60 true _ A15.out).mono ?_); rintro e w' ⟨rfl, ⟨nd, rfl⟩⟩; refine ⟨_, rfl, ?_⟩) | ((with_reducible refine gate_callee (f := 30) rfl ?_); refine GL (some 40) rfl rfl Tryd.func30 #[.int .i64 a0_0, .int .i64 1, .int .i64 10] rfl ?_; (with_reducible refine (impl_within.calls a0_0 1 10 true _ A17.out).mono ?_); rintro e w' ⟨rfl, ⟨nd, rfl⟩⟩; refine ⟨_, rfl, ?_⟩) | (go_at_call 30; (with_reducible refine (impl_within.calls a0_1 1 9 true _ A19.out).mono ?_); rintro e w' ⟨rfl, ⟨nd, rfl⟩⟩))
                    go_ret
                    exact ⟨ER, (BB1 HB.out GE221.out)⟩
                · replace c22 := Bool.eq_false_iff.mpr c22
                  subst c22
                  have H1 : (some false) = some r := by rw [if_neg (show ¬ (false = true) by decide)] at H; exact H
                  clear H
                  have H := H1
                  clear H1
                  obtain rfl := Option.some.inj H
                  have hcz26_0 : wc.cell? ⟨gb221, 0, none⟩ = some (.int .i64 a0_0) := (blk_cell BK221.out 0).trans rfl
                  have hcz26_1 : wc.cell? ⟨gb221, 1, none⟩ = some (.int .i64 a0_1) := (blk_cell BK221.out 1).trans rfl
                  have hcz26_2 : wc.cell? ⟨gb221, 2, none⟩ = some (.string a0_2) := (blk_cell BK221.out 2).trans rfl
                  have hcz26_3 : wc.cell? ⟨gb221, 3, none⟩ = some (.string a0_3) := (blk_cell BK221.out 3).trans rfl
                  have hcz26_4 : wc.cell? ⟨gb221, 4, none⟩ = some (.string a0_4) := (blk_cell BK221.out 4).trans rfl
                  have hcz26_5 : wc.cell? ⟨gb221, 5, none⟩ = some (.int .i64 a0_5) := (blk_cell BK221.out 5).trans rfl
                  have hfz26_0 := blk_frozen BK221.out 0
                  have hfz26_1 := blk_frozen BK221.out 1
                  have hfz26_2 := blk_frozen BK221.out 2
                  have hfz26_3 := blk_frozen BK221.out 3
                  have hfz26_4 := blk_frozen BK221.out 4
                  have hfz26_5 := blk_frozen BK221.out 5
                  go_wp2_with (first | ((with_reducible refine gate_callee (f := 30) rfl ?_); refine GL (some 24) rfl rfl Tryd.func30 #[.int .i64 (a0_4.size : Int), .int .i64 1, .int .i64 60] rfl ?_; (with_reducible refine (impl_within.calls (a0_4.size : Int) 1 60 false _ A15.out).mono ?_); rintro e w' ⟨rfl, ⟨nd, rfl⟩⟩; refine ⟨_, rfl, ?_⟩) | ((with_reducible refine gate_callee (f := 30) rfl ?_); refine GL (some 40) rfl rfl Tryd.func30 #[.int .i64 a0_0, .int .i64 1, .int .i64 10] rfl ?_; (with_reducible refine (impl_within.calls a0_0 1 10 true _ A17.out).mono ?_); rintro e w' ⟨rfl, ⟨nd, rfl⟩⟩; refine ⟨_, rfl, ?_⟩) | (go_at_call 30; (with_reducible refine (impl_within.calls a0_1 1 9 true _ A19.out).mono ?_); rintro e w' ⟨rfl, ⟨nd, rfl⟩⟩))
                  go_ret
                  exact ⟨ER, (BB1 HB.out GE221.out)⟩
              · replace c21 := Bool.eq_false_iff.mpr c21
                subst c21
                have H1 : (some false) = some r := by rw [if_neg (show ¬ (false = true) by decide)] at H; exact H
                clear H
                have H := H1
                clear H1
                obtain rfl := Option.some.inj H
                have hcz27_0 : wc.cell? ⟨gb221, 0, none⟩ = some (.int .i64 a0_0) := (blk_cell BK221.out 0).trans rfl
                have hcz27_1 : wc.cell? ⟨gb221, 1, none⟩ = some (.int .i64 a0_1) := (blk_cell BK221.out 1).trans rfl
                have hcz27_2 : wc.cell? ⟨gb221, 2, none⟩ = some (.string a0_2) := (blk_cell BK221.out 2).trans rfl
                have hcz27_3 : wc.cell? ⟨gb221, 3, none⟩ = some (.string a0_3) := (blk_cell BK221.out 3).trans rfl
                have hcz27_4 : wc.cell? ⟨gb221, 4, none⟩ = some (.string a0_4) := (blk_cell BK221.out 4).trans rfl
                have hcz27_5 : wc.cell? ⟨gb221, 5, none⟩ = some (.int .i64 a0_5) := (blk_cell BK221.out 5).trans rfl
                have hfz27_0 := blk_frozen BK221.out 0
                have hfz27_1 := blk_frozen BK221.out 1
                have hfz27_2 := blk_frozen BK221.out 2
                have hfz27_3 := blk_frozen BK221.out 3
                have hfz27_4 := blk_frozen BK221.out 4
                have hfz27_5 := blk_frozen BK221.out 5
                go_wp2_with (first | ((with_reducible refine gate_callee (f := 30) rfl ?_); refine GL (some 24) rfl rfl Tryd.func30 #[.int .i64 (a0_4.size : Int), .int .i64 1, .int .i64 60] rfl ?_; (with_reducible refine (impl_within.calls (a0_4.size : Int) 1 60 t229 _ A15.out).mono ?_); rintro e w' ⟨rfl, ⟨nd, rfl⟩⟩; refine ⟨_, rfl, ?_⟩) | ((with_reducible refine gate_callee (f := 30) rfl ?_); refine GL (some 40) rfl rfl Tryd.func30 #[.int .i64 a0_0, .int .i64 1, .int .i64 10] rfl ?_; (with_reducible refine (impl_within.calls a0_0 1 10 true _ A17.out).mono ?_); rintro e w' ⟨rfl, ⟨nd, rfl⟩⟩; refine ⟨_, rfl, ?_⟩) | (go_at_call 30; (with_reducible refine (impl_within.calls a0_1 1 9 true _ A19.out).mono ?_); rintro e w' ⟨rfl, ⟨nd, rfl⟩⟩))
                go_ret
                exact ⟨ER, (BB1 HB.out GE221.out)⟩
            · replace c20 := Bool.eq_false_iff.mpr c20
              subst c20
              have H1 : (some false) = some r := by rw [if_neg (show ¬ (false = true) by decide)] at H; exact H
              clear H
              have H := H1
              clear H1
              obtain rfl := Option.some.inj H
              have hcz28_0 : wc.cell? ⟨gb221, 0, none⟩ = some (.int .i64 a0_0) := (blk_cell BK221.out 0).trans rfl
              have hcz28_1 : wc.cell? ⟨gb221, 1, none⟩ = some (.int .i64 a0_1) := (blk_cell BK221.out 1).trans rfl
              have hcz28_2 : wc.cell? ⟨gb221, 2, none⟩ = some (.string a0_2) := (blk_cell BK221.out 2).trans rfl
              have hcz28_3 : wc.cell? ⟨gb221, 3, none⟩ = some (.string a0_3) := (blk_cell BK221.out 3).trans rfl
              have hcz28_4 : wc.cell? ⟨gb221, 4, none⟩ = some (.string a0_4) := (blk_cell BK221.out 4).trans rfl
              have hcz28_5 : wc.cell? ⟨gb221, 5, none⟩ = some (.int .i64 a0_5) := (blk_cell BK221.out 5).trans rfl
              have hfz28_0 := blk_frozen BK221.out 0
              have hfz28_1 := blk_frozen BK221.out 1
              have hfz28_2 := blk_frozen BK221.out 2
              have hfz28_3 := blk_frozen BK221.out 3
              have hfz28_4 := blk_frozen BK221.out 4
              have hfz28_5 := blk_frozen BK221.out 5
              go_wp2_with (first | ((with_reducible refine gate_callee (f := 30) rfl ?_); refine GL (some 24) rfl rfl Tryd.func30 #[.int .i64 (a0_4.size : Int), .int .i64 1, .int .i64 60] rfl ?_; (with_reducible refine (impl_within.calls (a0_4.size : Int) 1 60 t229 _ A15.out).mono ?_); rintro e w' ⟨rfl, ⟨nd, rfl⟩⟩; refine ⟨_, rfl, ?_⟩) | ((with_reducible refine gate_callee (f := 30) rfl ?_); refine GL (some 40) rfl rfl Tryd.func30 #[.int .i64 a0_0, .int .i64 1, .int .i64 10] rfl ?_; (with_reducible refine (impl_within.calls a0_0 1 10 true _ A17.out).mono ?_); rintro e w' ⟨rfl, ⟨nd, rfl⟩⟩; refine ⟨_, rfl, ?_⟩) | (go_at_call 30; (with_reducible refine (impl_within.calls a0_1 1 9 false _ A19.out).mono ?_); rintro e w' ⟨rfl, ⟨nd, rfl⟩⟩))
              go_ret
              exact ⟨ER, (BB1 HB.out GE221.out)⟩
          · replace c18 := Bool.eq_false_iff.mpr c18
            subst c18
            have H1 : (some false) = some r := by rw [if_neg (show ¬ (false = true) by decide)] at H; exact H
            clear H
            have H := H1
            clear H1
            obtain rfl := Option.some.inj H
            have hcz29_0 : wc.cell? ⟨gb221, 0, none⟩ = some (.int .i64 a0_0) := (blk_cell BK221.out 0).trans rfl
            have hcz29_1 : wc.cell? ⟨gb221, 1, none⟩ = some (.int .i64 a0_1) := (blk_cell BK221.out 1).trans rfl
            have hcz29_2 : wc.cell? ⟨gb221, 2, none⟩ = some (.string a0_2) := (blk_cell BK221.out 2).trans rfl
            have hcz29_3 : wc.cell? ⟨gb221, 3, none⟩ = some (.string a0_3) := (blk_cell BK221.out 3).trans rfl
            have hcz29_4 : wc.cell? ⟨gb221, 4, none⟩ = some (.string a0_4) := (blk_cell BK221.out 4).trans rfl
            have hcz29_5 : wc.cell? ⟨gb221, 5, none⟩ = some (.int .i64 a0_5) := (blk_cell BK221.out 5).trans rfl
            have hfz29_0 := blk_frozen BK221.out 0
            have hfz29_1 := blk_frozen BK221.out 1
            have hfz29_2 := blk_frozen BK221.out 2
            have hfz29_3 := blk_frozen BK221.out 3
            have hfz29_4 := blk_frozen BK221.out 4
            have hfz29_5 := blk_frozen BK221.out 5
            go_wp2_with (first | ((with_reducible refine gate_callee (f := 30) rfl ?_); refine GL (some 24) rfl rfl Tryd.func30 #[.int .i64 (a0_4.size : Int), .int .i64 1, .int .i64 60] rfl ?_; (with_reducible refine (impl_within.calls (a0_4.size : Int) 1 60 t229 _ A15.out).mono ?_); rintro e w' ⟨rfl, ⟨nd, rfl⟩⟩; refine ⟨_, rfl, ?_⟩) | ((with_reducible refine gate_callee (f := 30) rfl ?_); refine GL (some 40) rfl rfl Tryd.func30 #[.int .i64 a0_0, .int .i64 1, .int .i64 10] rfl ?_; (with_reducible refine (impl_within.calls a0_0 1 10 false _ A17.out).mono ?_); rintro e w' ⟨rfl, ⟨nd, rfl⟩⟩; refine ⟨_, rfl, ?_⟩))
            go_ret
            exact ⟨ER, (BB1 HB.out GE221.out)⟩
        · rw [if_neg c16] at H
          have c16b0 : (a0_5 == 0) = false := beq_eq_false_iff_ne.mpr c16
          have c16b1 : (a0_5 != 0) = true := bne_iff_ne.mpr c16
          by_cases c30 : a0_0 = 8
          · rw [if_pos c30] at H
            have c30b0 : (a0_0 == 8) = true := beq_iff_eq.mpr c30
            have c30b1 : (a0_0 != 8) = false := bne_eq_false_iff_eq.mpr c30
            clear c30
            replace H := Option.bind_eq_some_iff.mp H
            obtain ⟨t232, A310, H⟩ := H
            replace H : (if t232 = true then ((impl_within.f a0_1 1 9).bind fun t233 => (if t233 = true then (if x3_2 = true then (if t229 = true then (if a0_3.toList = ([] : List UInt8) then (some true) else (some (a0_0 == 5))) else (some false)) else (some false)) else (some false))) else (some false)) = some r := H
            have A31 := Aside0.mk A310
            clear A310
            by_cases c32 : t232 = true
            · subst c32
              have H1 : ((impl_within.f a0_1 1 9).bind fun t233 => (if t233 = true then (if x3_2 = true then (if t229 = true then (if a0_3.toList = ([] : List UInt8) then (some true) else (some (a0_0 == 5))) else (some false)) else (some false)) else (some false))) = some r := by rw [if_pos rfl] at H; exact H
              clear H
              have H := H1
              clear H1
              replace H := Option.bind_eq_some_iff.mp H
              obtain ⟨t233, A330, H⟩ := H
              replace H : (if t233 = true then (if x3_2 = true then (if t229 = true then (if a0_3.toList = ([] : List UInt8) then (some true) else (some (a0_0 == 5))) else (some false)) else (some false)) else (some false)) = some r := H
              have A33 := Aside0.mk A330
              clear A330
              by_cases c34 : t233 = true
              · subst c34
                have H1 : (if x3_2 = true then (if t229 = true then (if a0_3.toList = ([] : List UInt8) then (some true) else (some (a0_0 == 5))) else (some false)) else (some false)) = some r := by rw [if_pos rfl] at H; exact H
                clear H
                have H := H1
                clear H1
                by_cases c35 : x3_2 = true
                · subst c35
                  have H1 : (if t229 = true then (if a0_3.toList = ([] : List UInt8) then (some true) else (some (a0_0 == 5))) else (some false)) = some r := by rw [if_pos rfl] at H; exact H
                  clear H
                  have H := H1
                  clear H1
                  by_cases c36 : t229 = true
                  · subst c36
                    have H1 : (if a0_3.toList = ([] : List UInt8) then (some true) else (some (a0_0 == 5))) = some r := by rw [if_pos rfl] at H; exact H
                    clear H
                    have H := H1
                    clear H1
                    by_cases c37 : a0_3.toList = ([] : List UInt8)
                    · rw [if_pos c37] at H
                      have c37b0 : (a0_3.toList == ([] : List UInt8)) = true := beq_iff_eq.mpr c37
                      have c37b1 : (a0_3.toList != ([] : List UInt8)) = false := bne_eq_false_iff_eq.mpr c37
                      clear c37
                      obtain rfl := Option.some.inj H
                      have hcz38_0 : wc.cell? ⟨gb221, 0, none⟩ = some (.int .i64 a0_0) := (blk_cell BK221.out 0).trans rfl
                      have hcz38_1 : wc.cell? ⟨gb221, 1, none⟩ = some (.int .i64 a0_1) := (blk_cell BK221.out 1).trans rfl
                      have hcz38_2 : wc.cell? ⟨gb221, 2, none⟩ = some (.string a0_2) := (blk_cell BK221.out 2).trans rfl
                      have hcz38_3 : wc.cell? ⟨gb221, 3, none⟩ = some (.string a0_3) := (blk_cell BK221.out 3).trans rfl
                      have hcz38_4 : wc.cell? ⟨gb221, 4, none⟩ = some (.string a0_4) := (blk_cell BK221.out 4).trans rfl
                      have hcz38_5 : wc.cell? ⟨gb221, 5, none⟩ = some (.int .i64 a0_5) := (blk_cell BK221.out 5).trans rfl
                      have hfz38_0 := blk_frozen BK221.out 0
                      have hfz38_1 := blk_frozen BK221.out 1
                      have hfz38_2 := blk_frozen BK221.out 2
                      have hfz38_3 := blk_frozen BK221.out 3
                      have hfz38_4 := blk_frozen BK221.out 4
                      have hfz38_5 := blk_frozen BK221.out 5
                      go_wp2_with (first | ((with_reducible refine gate_callee (f := 30) rfl ?_); refine GL (some 24) rfl rfl Tryd.func30 #[.int .i64 (a0_4.size : Int), .int .i64 1, .int .i64 60] rfl ?_; (with_reducible refine (impl_within.calls (a0_4.size : Int) 1 60 true _ A15.out).mono ?_); rintro e w' ⟨rfl, ⟨nd, rfl⟩⟩; refine ⟨_, rfl, ?_⟩) | ((with_reducible refine gate_callee (f := 30) rfl ?_); refine GL (some 40) rfl rfl Tryd.func30 #[.int .i64 a0_0, .int .i64 1, .int .i64 10] rfl ?_; (with_reducible refine (impl_within.calls a0_0 1 10 true _ A31.out).mono ?_); rintro e w' ⟨rfl, ⟨nd, rfl⟩⟩; refine ⟨_, rfl, ?_⟩) | (go_at_call 30; (with_reducible refine (impl_within.calls a0_1 1 9 true _ A33.out).mono ?_); rintro e w' ⟨rfl, ⟨nd, rfl⟩⟩))
                      go_ret
                      exact ⟨ER, (BB1 HB.out GE221.out)⟩
                    · rw [if_neg c37] at H
                      have c37b0 : (a0_3.toList == ([] : List UInt8)) = false := beq_eq_false_iff_ne.mpr c37
                      have c37b1 : (a0_3.toList != ([] : List UInt8)) = true := bne_iff_ne.mpr c37
                      obtain rfl := Option.some.inj H
                      have hcz39_0 : wc.cell? ⟨gb221, 0, none⟩ = some (.int .i64 a0_0) := (blk_cell BK221.out 0).trans rfl
                      have hcz39_1 : wc.cell? ⟨gb221, 1, none⟩ = some (.int .i64 a0_1) := (blk_cell BK221.out 1).trans rfl
                      have hcz39_2 : wc.cell? ⟨gb221, 2, none⟩ = some (.string a0_2) := (blk_cell BK221.out 2).trans rfl
                      have hcz39_3 : wc.cell? ⟨gb221, 3, none⟩ = some (.string a0_3) := (blk_cell BK221.out 3).trans rfl
                      have hcz39_4 : wc.cell? ⟨gb221, 4, none⟩ = some (.string a0_4) := (blk_cell BK221.out 4).trans rfl
                      have hcz39_5 : wc.cell? ⟨gb221, 5, none⟩ = some (.int .i64 a0_5) := (blk_cell BK221.out 5).trans rfl
                      have hfz39_0 := blk_frozen BK221.out 0
                      have hfz39_1 := blk_frozen BK221.out 1
                      have hfz39_2 := blk_frozen BK221.out 2
                      have hfz39_3 := blk_frozen BK221.out 3
                      have hfz39_4 := blk_frozen BK221.out 4
                      have hfz39_5 := blk_frozen BK221.out 5
                      go_wp2_with (first | ((with_reducible refine gate_callee (f := 30) rfl ?_); refine GL (some 24) rfl rfl Tryd.func30 #[.int .i64 (a0_4.size : Int), .int .i64 1, .int .i64 60] rfl ?_; (with_reducible refine (impl_within.calls (a0_4.size : Int) 1 60 true _ A15.out).mono ?_); rintro e w' ⟨rfl, ⟨nd, rfl⟩⟩; refine ⟨_, rfl, ?_⟩) | ((with_reducible refine gate_callee (f := 30) rfl ?_); refine GL (some 40) rfl rfl Tryd.func30 #[.int .i64 a0_0, .int .i64 1, .int .i64 10] rfl ?_; (with_reducible refine (impl_within.calls a0_0 1 10 true _ A31.out).mono ?_); rintro e w' ⟨rfl, ⟨nd, rfl⟩⟩; refine ⟨_, rfl, ?_⟩) | (go_at_call 30; (with_reducible refine (impl_within.calls a0_1 1 9 true _ A33.out).mono ?_); rintro e w' ⟨rfl, ⟨nd, rfl⟩⟩))
                      go_ret
                      exact ⟨ER, (BB1 HB.out GE221.out)⟩
                  · replace c36 := Bool.eq_false_iff.mpr c36
                    subst c36
                    have H1 : (some false) = some r := by rw [if_neg (show ¬ (false = true) by decide)] at H; exact H
                    clear H
                    have H := H1
                    clear H1
                    obtain rfl := Option.some.inj H
                    have hcz40_0 : wc.cell? ⟨gb221, 0, none⟩ = some (.int .i64 a0_0) := (blk_cell BK221.out 0).trans rfl
                    have hcz40_1 : wc.cell? ⟨gb221, 1, none⟩ = some (.int .i64 a0_1) := (blk_cell BK221.out 1).trans rfl
                    have hcz40_2 : wc.cell? ⟨gb221, 2, none⟩ = some (.string a0_2) := (blk_cell BK221.out 2).trans rfl
                    have hcz40_3 : wc.cell? ⟨gb221, 3, none⟩ = some (.string a0_3) := (blk_cell BK221.out 3).trans rfl
                    have hcz40_4 : wc.cell? ⟨gb221, 4, none⟩ = some (.string a0_4) := (blk_cell BK221.out 4).trans rfl
                    have hcz40_5 : wc.cell? ⟨gb221, 5, none⟩ = some (.int .i64 a0_5) := (blk_cell BK221.out 5).trans rfl
                    have hfz40_0 := blk_frozen BK221.out 0
                    have hfz40_1 := blk_frozen BK221.out 1
                    have hfz40_2 := blk_frozen BK221.out 2
                    have hfz40_3 := blk_frozen BK221.out 3
                    have hfz40_4 := blk_frozen BK221.out 4
                    have hfz40_5 := blk_frozen BK221.out 5
                    go_wp2_with (first | ((with_reducible refine gate_callee (f := 30) rfl ?_); refine GL (some 24) rfl rfl Tryd.func30 #[.int .i64 (a0_4.size : Int), .int .i64 1, .int .i64 60] rfl ?_; (with_reducible refine (impl_within.calls (a0_4.size : Int) 1 60 false _ A15.out).mono ?_); rintro e w' ⟨rfl, ⟨nd, rfl⟩⟩; refine ⟨_, rfl, ?_⟩) | ((with_reducible refine gate_callee (f := 30) rfl ?_); refine GL (some 40) rfl rfl Tryd.func30 #[.int .i64 a0_0, .int .i64 1, .int .i64 10] rfl ?_; (with_reducible refine (impl_within.calls a0_0 1 10 true _ A31.out).mono ?_); rintro e w' ⟨rfl, ⟨nd, rfl⟩⟩; refine ⟨_, rfl, ?_⟩) | (go_at_call 30; (with_reducible refine (impl_within.calls a0_1 1 9 true _ A33.out).mono ?_); rintro e w' ⟨rfl, ⟨nd, rfl⟩⟩))
                    go_ret
                    exact ⟨ER, (BB1 HB.out GE221.out)⟩
                · replace c35 := Bool.eq_false_iff.mpr c35
                  subst c35
                  have H1 : (some false) = some r := by rw [if_neg (show ¬ (false = true) by decide)] at H; exact H
                  clear H
                  have H := H1
                  clear H1
                  obtain rfl := Option.some.inj H
                  have hcz41_0 : wc.cell? ⟨gb221, 0, none⟩ = some (.int .i64 a0_0) := (blk_cell BK221.out 0).trans rfl
                  have hcz41_1 : wc.cell? ⟨gb221, 1, none⟩ = some (.int .i64 a0_1) := (blk_cell BK221.out 1).trans rfl
                  have hcz41_2 : wc.cell? ⟨gb221, 2, none⟩ = some (.string a0_2) := (blk_cell BK221.out 2).trans rfl
                  have hcz41_3 : wc.cell? ⟨gb221, 3, none⟩ = some (.string a0_3) := (blk_cell BK221.out 3).trans rfl
                  have hcz41_4 : wc.cell? ⟨gb221, 4, none⟩ = some (.string a0_4) := (blk_cell BK221.out 4).trans rfl
                  have hcz41_5 : wc.cell? ⟨gb221, 5, none⟩ = some (.int .i64 a0_5) := (blk_cell BK221.out 5).trans rfl
                  have hfz41_0 := blk_frozen BK221.out 0
                  have hfz41_1 := blk_frozen BK221.out 1
                  have hfz41_2 := blk_frozen BK221.out 2
                  have hfz41_3 := blk_frozen BK221.out 3
                  have hfz41_4 := blk_frozen BK221.out 4
                  have hfz41_5 := blk_frozen BK221.out 5
                  go_wp2_with (first | ((with_reducible refine gate_callee (f := 30) rfl ?_); refine GL (some 24) rfl rfl Tryd.func30 #[.int .i64 (a0_4.size : Int), .int .i64 1, .int .i64 60] rfl ?_; (with_reducible refine (impl_within.calls (a0_4.size : Int) 1 60 t229 _ A15.out).mono ?_); rintro e w' ⟨rfl, ⟨nd, rfl⟩⟩; refine ⟨_, rfl, ?_⟩) | ((with_reducible refine gate_callee (f := 30) rfl ?_); refine GL (some 40) rfl rfl Tryd.func30 #[.int .i64 a0_0, .int .i64 1, .int .i64 10] rfl ?_; (with_reducible refine (impl_within.calls a0_0 1 10 true _ A31.out).mono ?_); rintro e w' ⟨rfl, ⟨nd, rfl⟩⟩; refine ⟨_, rfl, ?_⟩) | (go_at_call 30; (with_reducible refine (impl_within.calls a0_1 1 9 true _ A33.out).mono ?_); rintro e w' ⟨rfl, ⟨nd, rfl⟩⟩))
                  go_ret
                  exact ⟨ER, (BB1 HB.out GE221.out)⟩
              · replace c34 := Bool.eq_false_iff.mpr c34
                subst c34
                have H1 : (some false) = some r := by rw [if_neg (show ¬ (false = true) by decide)] at H; exact H
                clear H
                have H := H1
                clear H1
                obtain rfl := Option.some.inj H
                have hcz42_0 : wc.cell? ⟨gb221, 0, none⟩ = some (.int .i64 a0_0) := (blk_cell BK221.out 0).trans rfl
                have hcz42_1 : wc.cell? ⟨gb221, 1, none⟩ = some (.int .i64 a0_1) := (blk_cell BK221.out 1).trans rfl
                have hcz42_2 : wc.cell? ⟨gb221, 2, none⟩ = some (.string a0_2) := (blk_cell BK221.out 2).trans rfl
                have hcz42_3 : wc.cell? ⟨gb221, 3, none⟩ = some (.string a0_3) := (blk_cell BK221.out 3).trans rfl
                have hcz42_4 : wc.cell? ⟨gb221, 4, none⟩ = some (.string a0_4) := (blk_cell BK221.out 4).trans rfl
                have hcz42_5 : wc.cell? ⟨gb221, 5, none⟩ = some (.int .i64 a0_5) := (blk_cell BK221.out 5).trans rfl
                have hfz42_0 := blk_frozen BK221.out 0
                have hfz42_1 := blk_frozen BK221.out 1
                have hfz42_2 := blk_frozen BK221.out 2
                have hfz42_3 := blk_frozen BK221.out 3
                have hfz42_4 := blk_frozen BK221.out 4
                have hfz42_5 := blk_frozen BK221.out 5
                go_wp2_with (first | ((with_reducible refine gate_callee (f := 30) rfl ?_); refine GL (some 24) rfl rfl Tryd.func30 #[.int .i64 (a0_4.size : Int), .int .i64 1, .int .i64 60] rfl ?_; (with_reducible refine (impl_within.calls (a0_4.size : Int) 1 60 t229 _ A15.out).mono ?_); rintro e w' ⟨rfl, ⟨nd, rfl⟩⟩; refine ⟨_, rfl, ?_⟩) | ((with_reducible refine gate_callee (f := 30) rfl ?_); refine GL (some 40) rfl rfl Tryd.func30 #[.int .i64 a0_0, .int .i64 1, .int .i64 10] rfl ?_; (with_reducible refine (impl_within.calls a0_0 1 10 true _ A31.out).mono ?_); rintro e w' ⟨rfl, ⟨nd, rfl⟩⟩; refine ⟨_, rfl, ?_⟩) | (go_at_call 30; (with_reducible refine (impl_within.calls a0_1 1 9 false _ A33.out).mono ?_); rintro e w' ⟨rfl, ⟨nd, rfl⟩⟩))
                go_ret
                exact ⟨ER, (BB1 HB.out GE221.out)⟩
            · replace c32 := Bool.eq_false_iff.mpr c32
              subst c32
              have H1 : (some false) = some r := by rw [if_neg (show ¬ (false = true) by decide)] at H; exact H
              clear H
              have H := H1
              clear H1
              obtain rfl := Option.some.inj H
              have hcz43_0 : wc.cell? ⟨gb221, 0, none⟩ = some (.int .i64 a0_0) := (blk_cell BK221.out 0).trans rfl
              have hcz43_1 : wc.cell? ⟨gb221, 1, none⟩ = some (.int .i64 a0_1) := (blk_cell BK221.out 1).trans rfl
              have hcz43_2 : wc.cell? ⟨gb221, 2, none⟩ = some (.string a0_2) := (blk_cell BK221.out 2).trans rfl
              have hcz43_3 : wc.cell? ⟨gb221, 3, none⟩ = some (.string a0_3) := (blk_cell BK221.out 3).trans rfl
              have hcz43_4 : wc.cell? ⟨gb221, 4, none⟩ = some (.string a0_4) := (blk_cell BK221.out 4).trans rfl
              have hcz43_5 : wc.cell? ⟨gb221, 5, none⟩ = some (.int .i64 a0_5) := (blk_cell BK221.out 5).trans rfl
              have hfz43_0 := blk_frozen BK221.out 0
              have hfz43_1 := blk_frozen BK221.out 1
              have hfz43_2 := blk_frozen BK221.out 2
              have hfz43_3 := blk_frozen BK221.out 3
              have hfz43_4 := blk_frozen BK221.out 4
              have hfz43_5 := blk_frozen BK221.out 5
              go_wp2_with (first | ((with_reducible refine gate_callee (f := 30) rfl ?_); refine GL (some 24) rfl rfl Tryd.func30 #[.int .i64 (a0_4.size : Int), .int .i64 1, .int .i64 60] rfl ?_; (with_reducible refine (impl_within.calls (a0_4.size : Int) 1 60 t229 _ A15.out).mono ?_); rintro e w' ⟨rfl, ⟨nd, rfl⟩⟩; refine ⟨_, rfl, ?_⟩) | ((with_reducible refine gate_callee (f := 30) rfl ?_); refine GL (some 40) rfl rfl Tryd.func30 #[.int .i64 a0_0, .int .i64 1, .int .i64 10] rfl ?_; (with_reducible refine (impl_within.calls a0_0 1 10 false _ A31.out).mono ?_); rintro e w' ⟨rfl, ⟨nd, rfl⟩⟩; refine ⟨_, rfl, ?_⟩))
              go_ret
              exact ⟨ER, (BB1 HB.out GE221.out)⟩
          · rw [if_neg c30] at H
            have c30b0 : (a0_0 == 8) = false := beq_eq_false_iff_ne.mpr c30
            have c30b1 : (a0_0 != 8) = true := bne_iff_ne.mpr c30
            replace H := Option.bind_eq_some_iff.mp H
            obtain ⟨t234, A440, H⟩ := H
            replace H : (if t234 = true then ((impl_within.f a0_1 1 9).bind fun t235 => (if t235 = true then (if x3_2 = true then (if t229 = true then (if a0_0 = 9 then (if a0_3.toList = ([] : List UInt8) then (some true) else (some (a0_0 == 5))) else (some false)) else (some false)) else (some false)) else (some false))) else (some false)) = some r := H
            have A44 := Aside0.mk A440
            clear A440
            by_cases c45 : t234 = true
            · subst c45
              have H1 : ((impl_within.f a0_1 1 9).bind fun t235 => (if t235 = true then (if x3_2 = true then (if t229 = true then (if a0_0 = 9 then (if a0_3.toList = ([] : List UInt8) then (some true) else (some (a0_0 == 5))) else (some false)) else (some false)) else (some false)) else (some false))) = some r := by rw [if_pos rfl] at H; exact H
              clear H
              have H := H1
              clear H1
              replace H := Option.bind_eq_some_iff.mp H
              obtain ⟨t235, A460, H⟩ := H
              replace H : (if t235 = true then (if x3_2 = true then (if t229 = true then (if a0_0 = 9 then (if a0_3.toList = ([] : List UInt8) then (some true) else (some (a0_0 == 5))) else (some false)) else (some false)) else (some false)) else (some false)) = some r := H
              have A46 := Aside0.mk A460
              clear A460
              by_cases c47 : t235 = true
              · subst c47
                have H1 : (if x3_2 = true then (if t229 = true then (if a0_0 = 9 then (if a0_3.toList = ([] : List UInt8) then (some true) else (some (a0_0 == 5))) else (some false)) else (some false)) else (some false)) = some r := by rw [if_pos rfl] at H; exact H
                clear H
                have H := H1
                clear H1
                by_cases c48 : x3_2 = true
                · subst c48
                  have H1 : (if t229 = true then (if a0_0 = 9 then (if a0_3.toList = ([] : List UInt8) then (some true) else (some (a0_0 == 5))) else (some false)) else (some false)) = some r := by rw [if_pos rfl] at H; exact H
                  clear H
                  have H := H1
                  clear H1
                  by_cases c49 : t229 = true
                  · subst c49
                    have H1 : (if a0_0 = 9 then (if a0_3.toList = ([] : List UInt8) then (some true) else (some (a0_0 == 5))) else (some false)) = some r := by rw [if_pos rfl] at H; exact H
                    clear H
                    have H := H1
                    clear H1
                    by_cases c50 : a0_0 = 9
                    · rw [if_pos c50] at H
                      have c50b0 : (a0_0 == 9) = true := beq_iff_eq.mpr c50
                      have c50b1 : (a0_0 != 9) = false := bne_eq_false_iff_eq.mpr c50
                      clear c50
                      by_cases c51 : a0_3.toList = ([] : List UInt8)
                      · rw [if_pos c51] at H
                        have c51b0 : (a0_3.toList == ([] : List UInt8)) = true := beq_iff_eq.mpr c51
                        have c51b1 : (a0_3.toList != ([] : List UInt8)) = false := bne_eq_false_iff_eq.mpr c51
                        clear c51
                        obtain rfl := Option.some.inj H
                        have hcz52_0 : wc.cell? ⟨gb221, 0, none⟩ = some (.int .i64 a0_0) := (blk_cell BK221.out 0).trans rfl
                        have hcz52_1 : wc.cell? ⟨gb221, 1, none⟩ = some (.int .i64 a0_1) := (blk_cell BK221.out 1).trans rfl
                        have hcz52_2 : wc.cell? ⟨gb221, 2, none⟩ = some (.string a0_2) := (blk_cell BK221.out 2).trans rfl
                        have hcz52_3 : wc.cell? ⟨gb221, 3, none⟩ = some (.string a0_3) := (blk_cell BK221.out 3).trans rfl
                        have hcz52_4 : wc.cell? ⟨gb221, 4, none⟩ = some (.string a0_4) := (blk_cell BK221.out 4).trans rfl
                        have hcz52_5 : wc.cell? ⟨gb221, 5, none⟩ = some (.int .i64 a0_5) := (blk_cell BK221.out 5).trans rfl
                        have hfz52_0 := blk_frozen BK221.out 0
                        have hfz52_1 := blk_frozen BK221.out 1
                        have hfz52_2 := blk_frozen BK221.out 2
                        have hfz52_3 := blk_frozen BK221.out 3
                        have hfz52_4 := blk_frozen BK221.out 4
                        have hfz52_5 := blk_frozen BK221.out 5
                        go_wp2_with (first | ((with_reducible refine gate_callee (f := 30) rfl ?_); refine GL (some 24) rfl rfl Tryd.func30 #[.int .i64 (a0_4.size : Int), .int .i64 1, .int .i64 60] rfl ?_; (with_reducible refine (impl_within.calls (a0_4.size : Int) 1 60 true _ A15.out).mono ?_); rintro e w' ⟨rfl, ⟨nd, rfl⟩⟩; refine ⟨_, rfl, ?_⟩) | ((with_reducible refine gate_callee (f := 30) rfl ?_); refine GL (some 40) rfl rfl Tryd.func30 #[.int .i64 a0_0, .int .i64 1, .int .i64 10] rfl ?_; (with_reducible refine (impl_within.calls a0_0 1 10 true _ A44.out).mono ?_); rintro e w' ⟨rfl, ⟨nd, rfl⟩⟩; refine ⟨_, rfl, ?_⟩) | (go_at_call 30; (with_reducible refine (impl_within.calls a0_1 1 9 true _ A46.out).mono ?_); rintro e w' ⟨rfl, ⟨nd, rfl⟩⟩))
                        go_ret
                        exact ⟨ER, (BB1 HB.out GE221.out)⟩
                      · rw [if_neg c51] at H
                        have c51b0 : (a0_3.toList == ([] : List UInt8)) = false := beq_eq_false_iff_ne.mpr c51
                        have c51b1 : (a0_3.toList != ([] : List UInt8)) = true := bne_iff_ne.mpr c51
                        obtain rfl := Option.some.inj H
                        have hcz53_0 : wc.cell? ⟨gb221, 0, none⟩ = some (.int .i64 a0_0) := (blk_cell BK221.out 0).trans rfl
                        have hcz53_1 : wc.cell? ⟨gb221, 1, none⟩ = some (.int .i64 a0_1) := (blk_cell BK221.out 1).trans rfl
                        have hcz53_2 : wc.cell? ⟨gb221, 2, none⟩ = some (.string a0_2) := (blk_cell BK221.out 2).trans rfl
                        have hcz53_3 : wc.cell? ⟨gb221, 3, none⟩ = some (.string a0_3) := (blk_cell BK221.out 3).trans rfl
                        have hcz53_4 : wc.cell? ⟨gb221, 4, none⟩ = some (.string a0_4) := (blk_cell BK221.out 4).trans rfl
                        have hcz53_5 : wc.cell? ⟨gb221, 5, none⟩ = some (.int .i64 a0_5) := (blk_cell BK221.out 5).trans rfl
                        have hfz53_0 := blk_frozen BK221.out 0
                        have hfz53_1 := blk_frozen BK221.out 1
                        have hfz53_2 := blk_frozen BK221.out 2
                        have hfz53_3 := blk_frozen BK221.out 3
                        have hfz53_4 := blk_frozen BK221.out 4
                        have hfz53_5 := blk_frozen BK221.out 5
                        go_wp2_with (first | ((with_reducible refine gate_callee (f := 30) rfl ?_); refine GL (some 24) rfl rfl Tryd.func30 #[.int .i64 (a0_4.size : Int), .int .i64 1, .int .i64 60] rfl ?_; (with_reducible refine (impl_within.calls (a0_4.size : Int) 1 60 true _ A15.out).mono ?_); rintro e w' ⟨rfl, ⟨nd, rfl⟩⟩; refine ⟨_, rfl, ?_⟩) | ((with_reducible refine gate_callee (f := 30) rfl ?_); refine GL (some 40) rfl rfl Tryd.func30 #[.int .i64 a0_0, .int .i64 1, .int .i64 10] rfl ?_; (with_reducible refine (impl_within.calls a0_0 1 10 true _ A44.out).mono ?_); rintro e w' ⟨rfl, ⟨nd, rfl⟩⟩; refine ⟨_, rfl, ?_⟩) | (go_at_call 30; (with_reducible refine (impl_within.calls a0_1 1 9 true _ A46.out).mono ?_); rintro e w' ⟨rfl, ⟨nd, rfl⟩⟩))
                        go_ret
                        exact ⟨ER, (BB1 HB.out GE221.out)⟩
                    · rw [if_neg c50] at H
                      have c50b0 : (a0_0 == 9) = false := beq_eq_false_iff_ne.mpr c50
                      have c50b1 : (a0_0 != 9) = true := bne_iff_ne.mpr c50
                      obtain rfl := Option.some.inj H
                      have hcz54_0 : wc.cell? ⟨gb221, 0, none⟩ = some (.int .i64 a0_0) := (blk_cell BK221.out 0).trans rfl
                      have hcz54_1 : wc.cell? ⟨gb221, 1, none⟩ = some (.int .i64 a0_1) := (blk_cell BK221.out 1).trans rfl
                      have hcz54_2 : wc.cell? ⟨gb221, 2, none⟩ = some (.string a0_2) := (blk_cell BK221.out 2).trans rfl
                      have hcz54_3 : wc.cell? ⟨gb221, 3, none⟩ = some (.string a0_3) := (blk_cell BK221.out 3).trans rfl
                      have hcz54_4 : wc.cell? ⟨gb221, 4, none⟩ = some (.string a0_4) := (blk_cell BK221.out 4).trans rfl
                      have hcz54_5 : wc.cell? ⟨gb221, 5, none⟩ = some (.int .i64 a0_5) := (blk_cell BK221.out 5).trans rfl
                      have hfz54_0 := blk_frozen BK221.out 0
                      have hfz54_1 := blk_frozen BK221.out 1
                      have hfz54_2 := blk_frozen BK221.out 2
                      have hfz54_3 := blk_frozen BK221.out 3
                      have hfz54_4 := blk_frozen BK221.out 4
                      have hfz54_5 := blk_frozen BK221.out 5
                      go_wp2_with (first | ((with_reducible refine gate_callee (f := 30) rfl ?_); refine GL (some 24) rfl rfl Tryd.func30 #[.int .i64 (a0_4.size : Int), .int .i64 1, .int .i64 60] rfl ?_; (with_reducible refine (impl_within.calls (a0_4.size : Int) 1 60 true _ A15.out).mono ?_); rintro e w' ⟨rfl, ⟨nd, rfl⟩⟩; refine ⟨_, rfl, ?_⟩) | ((with_reducible refine gate_callee (f := 30) rfl ?_); refine GL (some 40) rfl rfl Tryd.func30 #[.int .i64 a0_0, .int .i64 1, .int .i64 10] rfl ?_; (with_reducible refine (impl_within.calls a0_0 1 10 true _ A44.out).mono ?_); rintro e w' ⟨rfl, ⟨nd, rfl⟩⟩; refine ⟨_, rfl, ?_⟩) | (go_at_call 30; (with_reducible refine (impl_within.calls a0_1 1 9 true _ A46.out).mono ?_); rintro e w' ⟨rfl, ⟨nd, rfl⟩⟩))
                      go_ret
                      exact ⟨ER, (BB1 HB.out GE221.out)⟩
                  · replace c49 := Bool.eq_false_iff.mpr c49
                    subst c49
                    have H1 : (some false) = some r := by rw [if_neg (show ¬ (false = true) by decide)] at H; exact H
                    clear H
                    have H := H1
                    clear H1
                    obtain rfl := Option.some.inj H
                    have hcz55_0 : wc.cell? ⟨gb221, 0, none⟩ = some (.int .i64 a0_0) := (blk_cell BK221.out 0).trans rfl
                    have hcz55_1 : wc.cell? ⟨gb221, 1, none⟩ = some (.int .i64 a0_1) := (blk_cell BK221.out 1).trans rfl
                    have hcz55_2 : wc.cell? ⟨gb221, 2, none⟩ = some (.string a0_2) := (blk_cell BK221.out 2).trans rfl
                    have hcz55_3 : wc.cell? ⟨gb221, 3, none⟩ = some (.string a0_3) := (blk_cell BK221.out 3).trans rfl
                    have hcz55_4 : wc.cell? ⟨gb221, 4, none⟩ = some (.string a0_4) := (blk_cell BK221.out 4).trans rfl
                    have hcz55_5 : wc.cell? ⟨gb221, 5, none⟩ = some (.int .i64 a0_5) := (blk_cell BK221.out 5).trans rfl
                    have hfz55_0 := blk_frozen BK221.out 0
                    have hfz55_1 := blk_frozen BK221.out 1
                    have hfz55_2 := blk_frozen BK221.out 2
                    have hfz55_3 := blk_frozen BK221.out 3
                    have hfz55_4 := blk_frozen BK221.out 4
                    have hfz55_5 := blk_frozen BK221.out 5
                    go_wp2_with (first | ((with_reducible refine gate_callee (f := 30) rfl ?_); refine GL (some 24) rfl rfl Tryd.func30 #[.int .i64 (a0_4.size : Int), .int .i64 1, .int .i64 60] rfl ?_; (with_reducible refine (impl_within.calls (a0_4.size : Int) 1 60 false _ A15.out).mono ?_); rintro e w' ⟨rfl, ⟨nd, rfl⟩⟩; refine ⟨_, rfl, ?_⟩) | ((with_reducible refine gate_callee (f := 30) rfl ?_); refine GL (some 40) rfl rfl Tryd.func30 #[.int .i64 a0_0, .int .i64 1, .int .i64 10] rfl ?_; (with_reducible refine (impl_within.calls a0_0 1 10 true _ A44.out).mono ?_); rintro e w' ⟨rfl, ⟨nd, rfl⟩⟩; refine ⟨_, rfl, ?_⟩) | (go_at_call 30; (with_reducible refine (impl_within.calls a0_1 1 9 true _ A46.out).mono ?_); rintro e w' ⟨rfl, ⟨nd, rfl⟩⟩))
                    go_ret
                    exact ⟨ER, (BB1 HB.out GE221.out)⟩
                · replace c48 := Bool.eq_false_iff.mpr c48
                  subst c48
                  have H1 : (some false) = some r := by rw [if_neg (show ¬ (false = true) by decide)] at H; exact H
                  clear H
                  have H := H1
                  clear H1
                  obtain rfl := Option.some.inj H
                  have hcz56_0 : wc.cell? ⟨gb221, 0, none⟩ = some (.int .i64 a0_0) := (blk_cell BK221.out 0).trans rfl
                  have hcz56_1 : wc.cell? ⟨gb221, 1, none⟩ = some (.int .i64 a0_1) := (blk_cell BK221.out 1).trans rfl
                  have hcz56_2 : wc.cell? ⟨gb221, 2, none⟩ = some (.string a0_2) := (blk_cell BK221.out 2).trans rfl
                  have hcz56_3 : wc.cell? ⟨gb221, 3, none⟩ = some (.string a0_3) := (blk_cell BK221.out 3).trans rfl
                  have hcz56_4 : wc.cell? ⟨gb221, 4, none⟩ = some (.string a0_4) := (blk_cell BK221.out 4).trans rfl
                  have hcz56_5 : wc.cell? ⟨gb221, 5, none⟩ = some (.int .i64 a0_5) := (blk_cell BK221.out 5).trans rfl
                  have hfz56_0 := blk_frozen BK221.out 0
                  have hfz56_1 := blk_frozen BK221.out 1
                  have hfz56_2 := blk_frozen BK221.out 2
                  have hfz56_3 := blk_frozen BK221.out 3
                  have hfz56_4 := blk_frozen BK221.out 4
                  have hfz56_5 := blk_frozen BK221.out 5
                  go_wp2_with (first | ((with_reducible refine gate_callee (f := 30) rfl ?_); refine GL (some 24) rfl rfl Tryd.func30 #[.int .i64 (a0_4.size : Int), .int .i64 1, .int .i64 60] rfl ?_; (with_reducible refine (impl_within.calls (a0_4.size : Int) 1 60 t229 _ A15.out).mono ?_); rintro e w' ⟨rfl, ⟨nd, rfl⟩⟩; refine ⟨_, rfl, ?_⟩) | ((with_reducible refine gate_callee (f := 30) rfl ?_); refine GL (some 40) rfl rfl Tryd.func30 #[.int .i64 a0_0, .int .i64 1, .int .i64 10] rfl ?_; (with_reducible refine (impl_within.calls a0_0 1 10 true _ A44.out).mono ?_); rintro e w' ⟨rfl, ⟨nd, rfl⟩⟩; refine ⟨_, rfl, ?_⟩) | (go_at_call 30; (with_reducible refine (impl_within.calls a0_1 1 9 true _ A46.out).mono ?_); rintro e w' ⟨rfl, ⟨nd, rfl⟩⟩))
                  go_ret
                  exact ⟨ER, (BB1 HB.out GE221.out)⟩
              · replace c47 := Bool.eq_false_iff.mpr c47
                subst c47
                have H1 : (some false) = some r := by rw [if_neg (show ¬ (false = true) by decide)] at H; exact H
                clear H
                have H := H1
                clear H1
                obtain rfl := Option.some.inj H
                have hcz57_0 : wc.cell? ⟨gb221, 0, none⟩ = some (.int .i64 a0_0) := (blk_cell BK221.out 0).trans rfl
                have hcz57_1 : wc.cell? ⟨gb221, 1, none⟩ = some (.int .i64 a0_1) := (blk_cell BK221.out 1).trans rfl
                have hcz57_2 : wc.cell? ⟨gb221, 2, none⟩ = some (.string a0_2) := (blk_cell BK221.out 2).trans rfl
                have hcz57_3 : wc.cell? ⟨gb221, 3, none⟩ = some (.string a0_3) := (blk_cell BK221.out 3).trans rfl
                have hcz57_4 : wc.cell? ⟨gb221, 4, none⟩ = some (.string a0_4) := (blk_cell BK221.out 4).trans rfl
                have hcz57_5 : wc.cell? ⟨gb221, 5, none⟩ = some (.int .i64 a0_5) := (blk_cell BK221.out 5).trans rfl
                have hfz57_0 := blk_frozen BK221.out 0
                have hfz57_1 := blk_frozen BK221.out 1
                have hfz57_2 := blk_frozen BK221.out 2
                have hfz57_3 := blk_frozen BK221.out 3
                have hfz57_4 := blk_frozen BK221.out 4
                have hfz57_5 := blk_frozen BK221.out 5
                go_wp2_with (first | ((with_reducible refine gate_callee (f := 30) rfl ?_); refine GL (some 24) rfl rfl Tryd.func30 #[.int .i64 (a0_4.size : Int), .int .i64 1, .int .i64 60] rfl ?_; (with_reducible refine (impl_within.calls (a0_4.size : Int) 1 60 t229 _ A15.out).mono ?_); rintro e w' ⟨rfl, ⟨nd, rfl⟩⟩; refine ⟨_, rfl, ?_⟩) | ((with_reducible refine gate_callee (f := 30) rfl ?_); refine GL (some 40) rfl rfl Tryd.func30 #[.int .i64 a0_0, .int .i64 1, .int .i64 10] rfl ?_; (with_reducible refine (impl_within.calls a0_0 1 10 true _ A44.out).mono ?_); rintro e w' ⟨rfl, ⟨nd, rfl⟩⟩; refine ⟨_, rfl, ?_⟩) | (go_at_call 30; (with_reducible refine (impl_within.calls a0_1 1 9 false _ A46.out).mono ?_); rintro e w' ⟨rfl, ⟨nd, rfl⟩⟩))
                go_ret
                exact ⟨ER, (BB1 HB.out GE221.out)⟩
            · replace c45 := Bool.eq_false_iff.mpr c45
              subst c45
              have H1 : (some false) = some r := by rw [if_neg (show ¬ (false = true) by decide)] at H; exact H
              clear H
              have H := H1
              clear H1
              obtain rfl := Option.some.inj H
              have hcz58_0 : wc.cell? ⟨gb221, 0, none⟩ = some (.int .i64 a0_0) := (blk_cell BK221.out 0).trans rfl
              have hcz58_1 : wc.cell? ⟨gb221, 1, none⟩ = some (.int .i64 a0_1) := (blk_cell BK221.out 1).trans rfl
              have hcz58_2 : wc.cell? ⟨gb221, 2, none⟩ = some (.string a0_2) := (blk_cell BK221.out 2).trans rfl
              have hcz58_3 : wc.cell? ⟨gb221, 3, none⟩ = some (.string a0_3) := (blk_cell BK221.out 3).trans rfl
              have hcz58_4 : wc.cell? ⟨gb221, 4, none⟩ = some (.string a0_4) := (blk_cell BK221.out 4).trans rfl
              have hcz58_5 : wc.cell? ⟨gb221, 5, none⟩ = some (.int .i64 a0_5) := (blk_cell BK221.out 5).trans rfl
              have hfz58_0 := blk_frozen BK221.out 0
              have hfz58_1 := blk_frozen BK221.out 1
              have hfz58_2 := blk_frozen BK221.out 2
              have hfz58_3 := blk_frozen BK221.out 3
              have hfz58_4 := blk_frozen BK221.out 4
              have hfz58_5 := blk_frozen BK221.out 5
              go_wp2_with (first | ((with_reducible refine gate_callee (f := 30) rfl ?_); refine GL (some 24) rfl rfl Tryd.func30 #[.int .i64 (a0_4.size : Int), .int .i64 1, .int .i64 60] rfl ?_; (with_reducible refine (impl_within.calls (a0_4.size : Int) 1 60 t229 _ A15.out).mono ?_); rintro e w' ⟨rfl, ⟨nd, rfl⟩⟩; refine ⟨_, rfl, ?_⟩) | ((with_reducible refine gate_callee (f := 30) rfl ?_); refine GL (some 40) rfl rfl Tryd.func30 #[.int .i64 a0_0, .int .i64 1, .int .i64 10] rfl ?_; (with_reducible refine (impl_within.calls a0_0 1 10 false _ A44.out).mono ?_); rintro e w' ⟨rfl, ⟨nd, rfl⟩⟩; refine ⟨_, rfl, ?_⟩))
              go_ret
              exact ⟨ER, (BB1 HB.out GE221.out)⟩
      · rw [if_neg c14] at H
        have c14b0 : (a0_0 == 3) = false := beq_eq_false_iff_ne.mpr c14
        have c14b1 : (a0_0 != 3) = true := bne_iff_ne.mpr c14
        by_cases c59 : a0_5 = 0
        · rw [if_pos c59] at H
          have c59b0 : (a0_5 == 0) = true := beq_iff_eq.mpr c59
          have c59b1 : (a0_5 != 0) = false := bne_eq_false_iff_eq.mpr c59
          clear c59
          replace H := Option.bind_eq_some_iff.mp H
          obtain ⟨t236, A600, H⟩ := H
          replace H : (if t236 = true then ((impl_within.f a0_1 1 9).bind fun t237 => (if t237 = true then (if x3_2 = true then (if a0_4.toList = ([] : List UInt8) then (if a0_3.toList = ([] : List UInt8) then (some true) else (some (a0_0 == 5))) else (some false)) else (some false)) else (some false))) else (some false)) = some r := H
          have A60 := Aside0.mk A600
          clear A600
          by_cases c61 : t236 = true
          · subst c61
            have H1 : ((impl_within.f a0_1 1 9).bind fun t237 => (if t237 = true then (if x3_2 = true then (if a0_4.toList = ([] : List UInt8) then (if a0_3.toList = ([] : List UInt8) then (some true) else (some (a0_0 == 5))) else (some false)) else (some false)) else (some false))) = some r := by rw [if_pos rfl] at H; exact H
            clear H
            have H := H1
            clear H1
            replace H := Option.bind_eq_some_iff.mp H
            obtain ⟨t237, A620, H⟩ := H
            replace H : (if t237 = true then (if x3_2 = true then (if a0_4.toList = ([] : List UInt8) then (if a0_3.toList = ([] : List UInt8) then (some true) else (some (a0_0 == 5))) else (some false)) else (some false)) else (some false)) = some r := H
            have A62 := Aside0.mk A620
            clear A620
            by_cases c63 : t237 = true
            · subst c63
              have H1 : (if x3_2 = true then (if a0_4.toList = ([] : List UInt8) then (if a0_3.toList = ([] : List UInt8) then (some true) else (some (a0_0 == 5))) else (some false)) else (some false)) = some r := by rw [if_pos rfl] at H; exact H
              clear H
              have H := H1
              clear H1
              by_cases c64 : x3_2 = true
              · subst c64
                have H1 : (if a0_4.toList = ([] : List UInt8) then (if a0_3.toList = ([] : List UInt8) then (some true) else (some (a0_0 == 5))) else (some false)) = some r := by rw [if_pos rfl] at H; exact H
                clear H
                have H := H1
                clear H1
                by_cases c65 : a0_4.toList = ([] : List UInt8)
                · rw [if_pos c65] at H
                  have c65b0 : (a0_4.toList == ([] : List UInt8)) = true := beq_iff_eq.mpr c65
                  have c65b1 : (a0_4.toList != ([] : List UInt8)) = false := bne_eq_false_iff_eq.mpr c65
                  clear c65
                  by_cases c66 : a0_3.toList = ([] : List UInt8)
                  · rw [if_pos c66] at H
                    have c66b0 : (a0_3.toList == ([] : List UInt8)) = true := beq_iff_eq.mpr c66
                    have c66b1 : (a0_3.toList != ([] : List UInt8)) = false := bne_eq_false_iff_eq.mpr c66
                    clear c66
                    obtain rfl := Option.some.inj H
                    have hcz67_0 : wc.cell? ⟨gb221, 0, none⟩ = some (.int .i64 a0_0) := (blk_cell BK221.out 0).trans rfl
                    have hcz67_1 : wc.cell? ⟨gb221, 1, none⟩ = some (.int .i64 a0_1) := (blk_cell BK221.out 1).trans rfl
                    have hcz67_2 : wc.cell? ⟨gb221, 2, none⟩ = some (.string a0_2) := (blk_cell BK221.out 2).trans rfl
                    have hcz67_3 : wc.cell? ⟨gb221, 3, none⟩ = some (.string a0_3) := (blk_cell BK221.out 3).trans rfl
                    have hcz67_4 : wc.cell? ⟨gb221, 4, none⟩ = some (.string a0_4) := (blk_cell BK221.out 4).trans rfl
                    have hcz67_5 : wc.cell? ⟨gb221, 5, none⟩ = some (.int .i64 a0_5) := (blk_cell BK221.out 5).trans rfl
                    have hfz67_0 := blk_frozen BK221.out 0
                    have hfz67_1 := blk_frozen BK221.out 1
                    have hfz67_2 := blk_frozen BK221.out 2
                    have hfz67_3 := blk_frozen BK221.out 3
                    have hfz67_4 := blk_frozen BK221.out 4
                    have hfz67_5 := blk_frozen BK221.out 5
                    go_wp2_with (first | ((with_reducible refine gate_callee (f := 30) rfl ?_); refine GL (some 40) rfl rfl Tryd.func30 #[.int .i64 a0_0, .int .i64 1, .int .i64 10] rfl ?_; (with_reducible refine (impl_within.calls a0_0 1 10 true _ A60.out).mono ?_); rintro e w' ⟨rfl, ⟨nd, rfl⟩⟩; refine ⟨_, rfl, ?_⟩) | (go_at_call 30; (with_reducible refine (impl_within.calls a0_1 1 9 true _ A62.out).mono ?_); rintro e w' ⟨rfl, ⟨nd, rfl⟩⟩))
                    go_ret
                    exact ⟨ER, (BB1 HB.out GE221.out)⟩
                  · rw [if_neg c66] at H
                    have c66b0 : (a0_3.toList == ([] : List UInt8)) = false := beq_eq_false_iff_ne.mpr c66
                    have c66b1 : (a0_3.toList != ([] : List UInt8)) = true := bne_iff_ne.mpr c66
                    obtain rfl := Option.some.inj H
                    have hcz68_0 : wc.cell? ⟨gb221, 0, none⟩ = some (.int .i64 a0_0) := (blk_cell BK221.out 0).trans rfl
                    have hcz68_1 : wc.cell? ⟨gb221, 1, none⟩ = some (.int .i64 a0_1) := (blk_cell BK221.out 1).trans rfl
                    have hcz68_2 : wc.cell? ⟨gb221, 2, none⟩ = some (.string a0_2) := (blk_cell BK221.out 2).trans rfl
                    have hcz68_3 : wc.cell? ⟨gb221, 3, none⟩ = some (.string a0_3) := (blk_cell BK221.out 3).trans rfl
                    have hcz68_4 : wc.cell? ⟨gb221, 4, none⟩ = some (.string a0_4) := (blk_cell BK221.out 4).trans rfl
                    have hcz68_5 : wc.cell? ⟨gb221, 5, none⟩ = some (.int .i64 a0_5) := (blk_cell BK221.out 5).trans rfl
                    have hfz68_0 := blk_frozen BK221.out 0
                    have hfz68_1 := blk_frozen BK221.out 1
                    have hfz68_2 := blk_frozen BK221.out 2
                    have hfz68_3 := blk_frozen BK221.out 3
                    have hfz68_4 := blk_frozen BK221.out 4
                    have hfz68_5 := blk_frozen BK221.out 5
                    go_wp2_with (first | ((with_reducible refine gate_callee (f := 30) rfl ?_); refine GL (some 40) rfl rfl Tryd.func30 #[.int .i64 a0_0, .int .i64 1, .int .i64 10] rfl ?_; (with_reducible refine (impl_within.calls a0_0 1 10 true _ A60.out).mono ?_); rintro e w' ⟨rfl, ⟨nd, rfl⟩⟩; refine ⟨_, rfl, ?_⟩) | (go_at_call 30; (with_reducible refine (impl_within.calls a0_1 1 9 true _ A62.out).mono ?_); rintro e w' ⟨rfl, ⟨nd, rfl⟩⟩))
                    go_ret
                    exact ⟨ER, (BB1 HB.out GE221.out)⟩
                · rw [if_neg c65] at H
                  have c65b0 : (a0_4.toList == ([] : List UInt8)) = false := beq_eq_false_iff_ne.mpr c65
                  have c65b1 : (a0_4.toList != ([] : List UInt8)) = true := bne_iff_ne.mpr c65
                  obtain rfl := Option.some.inj H
                  have hcz69_0 : wc.cell? ⟨gb221, 0, none⟩ = some (.int .i64 a0_0) := (blk_cell BK221.out 0).trans rfl
                  have hcz69_1 : wc.cell? ⟨gb221, 1, none⟩ = some (.int .i64 a0_1) := (blk_cell BK221.out 1).trans rfl
                  have hcz69_2 : wc.cell? ⟨gb221, 2, none⟩ = some (.string a0_2) := (blk_cell BK221.out 2).trans rfl
                  have hcz69_3 : wc.cell? ⟨gb221, 3, none⟩ = some (.string a0_3) := (blk_cell BK221.out 3).trans rfl
                  have hcz69_4 : wc.cell? ⟨gb221, 4, none⟩ = some (.string a0_4) := (blk_cell BK221.out 4).trans rfl
                  have hcz69_5 : wc.cell? ⟨gb221, 5, none⟩ = some (.int .i64 a0_5) := (blk_cell BK221.out 5).trans rfl
                  have hfz69_0 := blk_frozen BK221.out 0
                  have hfz69_1 := blk_frozen BK221.out 1
                  have hfz69_2 := blk_frozen BK221.out 2
                  have hfz69_3 := blk_frozen BK221.out 3
                  have hfz69_4 := blk_frozen BK221.out 4
                  have hfz69_5 := blk_frozen BK221.out 5
                  go_wp2_with (first | ((with_reducible refine gate_callee (f := 30) rfl ?_); refine GL (some 40) rfl rfl Tryd.func30 #[.int .i64 a0_0, .int .i64 1, .int .i64 10] rfl ?_; (with_reducible refine (impl_within.calls a0_0 1 10 true _ A60.out).mono ?_); rintro e w' ⟨rfl, ⟨nd, rfl⟩⟩; refine ⟨_, rfl, ?_⟩) | (go_at_call 30; (with_reducible refine (impl_within.calls a0_1 1 9 true _ A62.out).mono ?_); rintro e w' ⟨rfl, ⟨nd, rfl⟩⟩))
                  go_ret
                  exact ⟨ER, (BB1 HB.out GE221.out)⟩
              · replace c64 := Bool.eq_false_iff.mpr c64
                subst c64
                have H1 : (some false) = some r := by rw [if_neg (show ¬ (false = true) by decide)] at H; exact H
                clear H
                have H := H1
                clear H1
                obtain rfl := Option.some.inj H
                have hcz70_0 : wc.cell? ⟨gb221, 0, none⟩ = some (.int .i64 a0_0) := (blk_cell BK221.out 0).trans rfl
                have hcz70_1 : wc.cell? ⟨gb221, 1, none⟩ = some (.int .i64 a0_1) := (blk_cell BK221.out 1).trans rfl
                have hcz70_2 : wc.cell? ⟨gb221, 2, none⟩ = some (.string a0_2) := (blk_cell BK221.out 2).trans rfl
                have hcz70_3 : wc.cell? ⟨gb221, 3, none⟩ = some (.string a0_3) := (blk_cell BK221.out 3).trans rfl
                have hcz70_4 : wc.cell? ⟨gb221, 4, none⟩ = some (.string a0_4) := (blk_cell BK221.out 4).trans rfl
                have hcz70_5 : wc.cell? ⟨gb221, 5, none⟩ = some (.int .i64 a0_5) := (blk_cell BK221.out 5).trans rfl
                have hfz70_0 := blk_frozen BK221.out 0
                have hfz70_1 := blk_frozen BK221.out 1
                have hfz70_2 := blk_frozen BK221.out 2
                have hfz70_3 := blk_frozen BK221.out 3
                have hfz70_4 := blk_frozen BK221.out 4
                have hfz70_5 := blk_frozen BK221.out 5
                go_wp2_with (first | ((with_reducible refine gate_callee (f := 30) rfl ?_); refine GL (some 40) rfl rfl Tryd.func30 #[.int .i64 a0_0, .int .i64 1, .int .i64 10] rfl ?_; (with_reducible refine (impl_within.calls a0_0 1 10 true _ A60.out).mono ?_); rintro e w' ⟨rfl, ⟨nd, rfl⟩⟩; refine ⟨_, rfl, ?_⟩) | (go_at_call 30; (with_reducible refine (impl_within.calls a0_1 1 9 true _ A62.out).mono ?_); rintro e w' ⟨rfl, ⟨nd, rfl⟩⟩))
                go_ret
                exact ⟨ER, (BB1 HB.out GE221.out)⟩
            · replace c63 := Bool.eq_false_iff.mpr c63
              subst c63
              have H1 : (some false) = some r := by rw [if_neg (show ¬ (false = true) by decide)] at H; exact H
              clear H
              have H := H1
              clear H1
              obtain rfl := Option.some.inj H
              have hcz71_0 : wc.cell? ⟨gb221, 0, none⟩ = some (.int .i64 a0_0) := (blk_cell BK221.out 0).trans rfl
              have hcz71_1 : wc.cell? ⟨gb221, 1, none⟩ = some (.int .i64 a0_1) := (blk_cell BK221.out 1).trans rfl
              have hcz71_2 : wc.cell? ⟨gb221, 2, none⟩ = some (.string a0_2) := (blk_cell BK221.out 2).trans rfl
              have hcz71_3 : wc.cell? ⟨gb221, 3, none⟩ = some (.string a0_3) := (blk_cell BK221.out 3).trans rfl
              have hcz71_4 : wc.cell? ⟨gb221, 4, none⟩ = some (.string a0_4) := (blk_cell BK221.out 4).trans rfl
              have hcz71_5 : wc.cell? ⟨gb221, 5, none⟩ = some (.int .i64 a0_5) := (blk_cell BK221.out 5).trans rfl
              have hfz71_0 := blk_frozen BK221.out 0
              have hfz71_1 := blk_frozen BK221.out 1
              have hfz71_2 := blk_frozen BK221.out 2
              have hfz71_3 := blk_frozen BK221.out 3
              have hfz71_4 := blk_frozen BK221.out 4
              have hfz71_5 := blk_frozen BK221.out 5
              go_wp2_with (first | ((with_reducible refine gate_callee (f := 30) rfl ?_); refine GL (some 40) rfl rfl Tryd.func30 #[.int .i64 a0_0, .int .i64 1, .int .i64 10] rfl ?_; (with_reducible refine (impl_within.calls a0_0 1 10 true _ A60.out).mono ?_); rintro e w' ⟨rfl, ⟨nd, rfl⟩⟩; refine ⟨_, rfl, ?_⟩) | (go_at_call 30; (with_reducible refine (impl_within.calls a0_1 1 9 false _ A62.out).mono ?_); rintro e w' ⟨rfl, ⟨nd, rfl⟩⟩))
              go_ret
              exact ⟨ER, (BB1 HB.out GE221.out)⟩
          · replace c61 := Bool.eq_false_iff.mpr c61
            subst c61
            have H1 : (some false) = some r := by rw [if_neg (show ¬ (false = true) by decide)] at H; exact H
            clear H
            have H := H1
            clear H1
            obtain rfl := Option.some.inj H
            have hcz72_0 : wc.cell? ⟨gb221, 0, none⟩ = some (.int .i64 a0_0) := (blk_cell BK221.out 0).trans rfl
            have hcz72_1 : wc.cell? ⟨gb221, 1, none⟩ = some (.int .i64 a0_1) := (blk_cell BK221.out 1).trans rfl
            have hcz72_2 : wc.cell? ⟨gb221, 2, none⟩ = some (.string a0_2) := (blk_cell BK221.out 2).trans rfl
            have hcz72_3 : wc.cell? ⟨gb221, 3, none⟩ = some (.string a0_3) := (blk_cell BK221.out 3).trans rfl
            have hcz72_4 : wc.cell? ⟨gb221, 4, none⟩ = some (.string a0_4) := (blk_cell BK221.out 4).trans rfl
            have hcz72_5 : wc.cell? ⟨gb221, 5, none⟩ = some (.int .i64 a0_5) := (blk_cell BK221.out 5).trans rfl
            have hfz72_0 := blk_frozen BK221.out 0
            have hfz72_1 := blk_frozen BK221.out 1
            have hfz72_2 := blk_frozen BK221.out 2
            have hfz72_3 := blk_frozen BK221.out 3
            have hfz72_4 := blk_frozen BK221.out 4
            have hfz72_5 := blk_frozen BK221.out 5
            go_wp2_with (first | ((with_reducible refine gate_callee (f := 30) rfl ?_); refine GL (some 40) rfl rfl Tryd.func30 #[.int .i64 a0_0, .int .i64 1, .int .i64 10] rfl ?_; (with_reducible refine (impl_within.calls a0_0 1 10 false _ A60.out).mono ?_); rintro e w' ⟨rfl, ⟨nd, rfl⟩⟩; refine ⟨_, rfl, ?_⟩))
            go_ret
            exact ⟨ER, (BB1 HB.out GE221.out)⟩
        · rw [if_neg c59] at H
          have c59b0 : (a0_5 == 0) = false := beq_eq_false_iff_ne.mpr c59
          have c59b1 : (a0_5 != 0) = true := bne_iff_ne.mpr c59
          by_cases c73 : a0_0 = 8
          · rw [if_pos c73] at H
            have c73b0 : (a0_0 == 8) = true := beq_iff_eq.mpr c73
            have c73b1 : (a0_0 != 8) = false := bne_eq_false_iff_eq.mpr c73
            clear c73
            replace H := Option.bind_eq_some_iff.mp H
            obtain ⟨t238, A740, H⟩ := H
            replace H : (if t238 = true then ((impl_within.f a0_1 1 9).bind fun t239 => (if t239 = true then (if x3_2 = true then (if a0_4.toList = ([] : List UInt8) then (if a0_3.toList = ([] : List UInt8) then (some true) else (some (a0_0 == 5))) else (some false)) else (some false)) else (some false))) else (some false)) = some r := H
            have A74 := Aside0.mk A740
            clear A740
            by_cases c75 : t238 = true
            · subst c75
              have H1 : ((impl_within.f a0_1 1 9).bind fun t239 => (if t239 = true then (if x3_2 = true then (if a0_4.toList = ([] : List UInt8) then (if a0_3.toList = ([] : List UInt8) then (some true) else (some (a0_0 == 5))) else (some false)) else (some false)) else (some false))) = some r := by rw [if_pos rfl] at H; exact H
              clear H
              have H := H1
              clear H1
              replace H := Option.bind_eq_some_iff.mp H
              obtain ⟨t239, A760, H⟩ := H
              replace H : (if t239 = true then (if x3_2 = true then (if a0_4.toList = ([] : List UInt8) then (if a0_3.toList = ([] : List UInt8) then (some true) else (some (a0_0 == 5))) else (some false)) else (some false)) else (some false)) = some r := H
              have A76 := Aside0.mk A760
              clear A760
              by_cases c77 : t239 = true
              · subst c77
                have H1 : (if x3_2 = true then (if a0_4.toList = ([] : List UInt8) then (if a0_3.toList = ([] : List UInt8) then (some true) else (some (a0_0 == 5))) else (some false)) else (some false)) = some r := by rw [if_pos rfl] at H; exact H
                clear H
                have H := H1
                clear H1
                by_cases c78 : x3_2 = true
                · subst c78
                  have H1 : (if a0_4.toList = ([] : List UInt8) then (if a0_3.toList = ([] : List UInt8) then (some true) else (some (a0_0 == 5))) else (some false)) = some r := by rw [if_pos rfl] at H; exact H
                  clear H
                  have H := H1
                  clear H1
                  by_cases c79 : a0_4.toList = ([] : List UInt8)
                  · rw [if_pos c79] at H
                    have c79b0 : (a0_4.toList == ([] : List UInt8)) = true := beq_iff_eq.mpr c79
                    have c79b1 : (a0_4.toList != ([] : List UInt8)) = false := bne_eq_false_iff_eq.mpr c79
                    clear c79
                    by_cases c80 : a0_3.toList = ([] : List UInt8)
                    · rw [if_pos c80] at H
                      have c80b0 : (a0_3.toList == ([] : List UInt8)) = true := beq_iff_eq.mpr c80
                      have c80b1 : (a0_3.toList != ([] : List UInt8)) = false := bne_eq_false_iff_eq.mpr c80
                      clear c80
                      obtain rfl := Option.some.inj H
                      have hcz81_0 : wc.cell? ⟨gb221, 0, none⟩ = some (.int .i64 a0_0) := (blk_cell BK221.out 0).trans rfl
                      have hcz81_1 : wc.cell? ⟨gb221, 1, none⟩ = some (.int .i64 a0_1) := (blk_cell BK221.out 1).trans rfl
                      have hcz81_2 : wc.cell? ⟨gb221, 2, none⟩ = some (.string a0_2) := (blk_cell BK221.out 2).trans rfl
                      have hcz81_3 : wc.cell? ⟨gb221, 3, none⟩ = some (.string a0_3) := (blk_cell BK221.out 3).trans rfl
                      have hcz81_4 : wc.cell? ⟨gb221, 4, none⟩ = some (.string a0_4) := (blk_cell BK221.out 4).trans rfl
                      have hcz81_5 : wc.cell? ⟨gb221, 5, none⟩ = some (.int .i64 a0_5) := (blk_cell BK221.out 5).trans rfl
                      have hfz81_0 := blk_frozen BK221.out 0
                      have hfz81_1 := blk_frozen BK221.out 1
                      have hfz81_2 := blk_frozen BK221.out 2
                      have hfz81_3 := blk_frozen BK221.out 3
                      have hfz81_4 := blk_frozen BK221.out 4
                      have hfz81_5 := blk_frozen BK221.out 5
                      go_wp2_with (first | ((with_reducible refine gate_callee (f := 30) rfl ?_); refine GL (some 40) rfl rfl Tryd.func30 #[.int .i64 a0_0, .int .i64 1, .int .i64 10] rfl ?_; (with_reducible refine (impl_within.calls a0_0 1 10 true _ A74.out).mono ?_); rintro e w' ⟨rfl, ⟨nd, rfl⟩⟩; refine ⟨_, rfl, ?_⟩) | (go_at_call 30; (with_reducible refine (impl_within.calls a0_1 1 9 true _ A76.out).mono ?_); rintro e w' ⟨rfl, ⟨nd, rfl⟩⟩))
                      go_ret
                      exact ⟨ER, (BB1 HB.out GE221.out)⟩
                    · rw [if_neg c80] at H
                      have c80b0 : (a0_3.toList == ([] : List UInt8)) = false := beq_eq_false_iff_ne.mpr c80
                      have c80b1 : (a0_3.toList != ([] : List UInt8)) = true := bne_iff_ne.mpr c80
                      obtain rfl := Option.some.inj H
                      have hcz82_0 : wc.cell? ⟨gb221, 0, none⟩ = some (.int .i64 a0_0) := (blk_cell BK221.out 0).trans rfl
                      have hcz82_1 : wc.cell? ⟨gb221, 1, none⟩ = some (.int .i64 a0_1) := (blk_cell BK221.out 1).trans rfl
                      have hcz82_2 : wc.cell? ⟨gb221, 2, none⟩ = some (.string a0_2) := (blk_cell BK221.out 2).trans rfl
                      have hcz82_3 : wc.cell? ⟨gb221, 3, none⟩ = some (.string a0_3) := (blk_cell BK221.out 3).trans rfl
                      have hcz82_4 : wc.cell? ⟨gb221, 4, none⟩ = some (.string a0_4) := (blk_cell BK221.out 4).trans rfl
                      have hcz82_5 : wc.cell? ⟨gb221, 5, none⟩ = some (.int .i64 a0_5) := (blk_cell BK221.out 5).trans rfl
                      have hfz82_0 := blk_frozen BK221.out 0
                      have hfz82_1 := blk_frozen BK221.out 1
                      have hfz82_2 := blk_frozen BK221.out 2
                      have hfz82_3 := blk_frozen BK221.out 3
                      have hfz82_4 := blk_frozen BK221.out 4
                      have hfz82_5 := blk_frozen BK221.out 5
                      go_wp2_with (first | ((with_reducible refine gate_callee (f := 30) rfl ?_); refine GL (some 40) rfl rfl Tryd.func30 #[.int .i64 a0_0, .int .i64 1, .int .i64 10] rfl ?_; (with_reducible refine (impl_within.calls a0_0 1 10 true _ A74.out).mono ?_); rintro e w' ⟨rfl, ⟨nd, rfl⟩⟩; refine ⟨_, rfl, ?_⟩) | (go_at_call 30; (with_reducible refine (impl_within.calls a0_1 1 9 true _ A76.out).mono ?_); rintro e w' ⟨rfl, ⟨nd, rfl⟩⟩))
                      go_ret
                      exact ⟨ER, (BB1 HB.out GE221.out)⟩
                  · rw [if_neg c79] at H
                    have c79b0 : (a0_4.toList == ([] : List UInt8)) = false := beq_eq_false_iff_ne.mpr c79
                    have c79b1 : (a0_4.toList != ([] : List UInt8)) = true := bne_iff_ne.mpr c79
                    obtain rfl := Option.some.inj H
                    have hcz83_0 : wc.cell? ⟨gb221, 0, none⟩ = some (.int .i64 a0_0) := (blk_cell BK221.out 0).trans rfl
                    have hcz83_1 : wc.cell? ⟨gb221, 1, none⟩ = some (.int .i64 a0_1) := (blk_cell BK221.out 1).trans rfl
                    have hcz83_2 : wc.cell? ⟨gb221, 2, none⟩ = some (.string a0_2) := (blk_cell BK221.out 2).trans rfl
                    have hcz83_3 : wc.cell? ⟨gb221, 3, none⟩ = some (.string a0_3) := (blk_cell BK221.out 3).trans rfl
                    have hcz83_4 : wc.cell? ⟨gb221, 4, none⟩ = some (.string a0_4) := (blk_cell BK221.out 4).trans rfl
                    have hcz83_5 : wc.cell? ⟨gb221, 5, none⟩ = some (.int .i64 a0_5) := (blk_cell BK221.out 5).trans rfl
                    have hfz83_0 := blk_frozen BK221.out 0
                    have hfz83_1 := blk_frozen BK221.out 1
                    have hfz83_2 := blk_frozen BK221.out 2
                    have hfz83_3 := blk_frozen BK221.out 3
                    have hfz83_4 := blk_frozen BK221.out 4
                    have hfz83_5 := blk_frozen BK221.out 5
                    go_wp2_with (first | ((with_reducible refine gate_callee (f := 30) rfl ?_); refine GL (some 40) rfl rfl Tryd.func30 #[.int .i64 a0_0, .int .i64 1, .int .i64 10] rfl ?_; (with_reducible refine (impl_within.calls a0_0 1 10 true _ A74.out).mono ?_); rintro e w' ⟨rfl, ⟨nd, rfl⟩⟩; refine ⟨_, rfl, ?_⟩) | (go_at_call 30; (with_reducible refine (impl_within.calls a0_1 1 9 true _ A76.out).mono ?_); rintro e w' ⟨rfl, ⟨nd, rfl⟩⟩))
                    go_ret
                    exact ⟨ER, (BB1 HB.out GE221.out)⟩
                · replace c78 := Bool.eq_false_iff.mpr c78
                  subst c78
                  have H1 : (some false) = some r := by rw [if_neg (show ¬ (false = true) by decide)] at H; exact H
                  clear H
                  have H := H1
                  clear H1
                  obtain rfl := Option.some.inj H
                  have hcz84_0 : wc.cell? ⟨gb221, 0, none⟩ = some (.int .i64 a0_0) := (blk_cell BK221.out 0).trans rfl
                  have hcz84_1 : wc.cell? ⟨gb221, 1, none⟩ = some (.int .i64 a0_1) := (blk_cell BK221.out 1).trans rfl
                  have hcz84_2 : wc.cell? ⟨gb221, 2, none⟩ = some (.string a0_2) := (blk_cell BK221.out 2).trans rfl
                  have hcz84_3 : wc.cell? ⟨gb221, 3, none⟩ = some (.string a0_3) := (blk_cell BK221.out 3).trans rfl
                  have hcz84_4 : wc.cell? ⟨gb221, 4, none⟩ = some (.string a0_4) := (blk_cell BK221.out 4).trans rfl
                  have hcz84_5 : wc.cell? ⟨gb221, 5, none⟩ = some (.int .i64 a0_5) := (blk_cell BK221.out 5).trans rfl
                  have hfz84_0 := blk_frozen BK221.out 0
                  have hfz84_1 := blk_frozen BK221.out 1
                  have hfz84_2 := blk_frozen BK221.out 2
                  have hfz84_3 := blk_frozen BK221.out 3
                  have hfz84_4 := blk_frozen BK221.out 4
                  have hfz84_5 := blk_frozen BK221.out 5
                  go_wp2_with (first | ((with_reducible refine gate_callee (f := 30) rfl ?_); refine GL (some 40) rfl rfl Tryd.func30 #[.int .i64 a0_0, .int .i64 1, .int .i64 10] rfl ?_; (with_reducible refine (impl_within.calls a0_0 1 10 true _ A74.out).mono ?_); rintro e w' ⟨rfl, ⟨nd, rfl⟩⟩; refine ⟨_, rfl, ?_⟩) | (go_at_call 30; (with_reducible refine (impl_within.calls a0_1 1 9 true _ A76.out).mono ?_); rintro e w' ⟨rfl, ⟨nd, rfl⟩⟩))
                  go_ret
                  exact ⟨ER, (BB1 HB.out GE221.out)⟩
              · replace c77 := Bool.eq_false_iff.mpr c77
                subst c77
                have H1 : (some false) = some r := by rw [if_neg (show ¬ (false = true) by decide)] at H; exact H
                clear H
                have H := H1
                clear H1
                obtain rfl := Option.some.inj H
                have hcz85_0 : wc.cell? ⟨gb221, 0, none⟩ = some (.int .i64 a0_0) := (blk_cell BK221.out 0).trans rfl
                have hcz85_1 : wc.cell? ⟨gb221, 1, none⟩ = some (.int .i64 a0_1) := (blk_cell BK221.out 1).trans rfl
                have hcz85_2 : wc.cell? ⟨gb221, 2, none⟩ = some (.string a0_2) := (blk_cell BK221.out 2).trans rfl
                have hcz85_3 : wc.cell? ⟨gb221, 3, none⟩ = some (.string a0_3) := (blk_cell BK221.out 3).trans rfl
                have hcz85_4 : wc.cell? ⟨gb221, 4, none⟩ = some (.string a0_4) := (blk_cell BK221.out 4).trans rfl
                have hcz85_5 : wc.cell? ⟨gb221, 5, none⟩ = some (.int .i64 a0_5) := (blk_cell BK221.out 5).trans rfl
                have hfz85_0 := blk_frozen BK221.out 0
                have hfz85_1 := blk_frozen BK221.out 1
                have hfz85_2 := blk_frozen BK221.out 2
                have hfz85_3 := blk_frozen BK221.out 3
                have hfz85_4 := blk_frozen BK221.out 4
                have hfz85_5 := blk_frozen BK221.out 5
                go_wp2_with (first | ((with_reducible refine gate_callee (f := 30) rfl ?_); refine GL (some 40) rfl rfl Tryd.func30 #[.int .i64 a0_0, .int .i64 1, .int .i64 10] rfl ?_; (with_reducible refine (impl_within.calls a0_0 1 10 true _ A74.out).mono ?_); rintro e w' ⟨rfl, ⟨nd, rfl⟩⟩; refine ⟨_, rfl, ?_⟩) | (go_at_call 30; (with_reducible refine (impl_within.calls a0_1 1 9 false _ A76.out).mono ?_); rintro e w' ⟨rfl, ⟨nd, rfl⟩⟩))
                go_ret
                exact ⟨ER, (BB1 HB.out GE221.out)⟩
            · replace c75 := Bool.eq_false_iff.mpr c75
              subst c75
              have H1 : (some false) = some r := by rw [if_neg (show ¬ (false = true) by decide)] at H; exact H
              clear H
              have H := H1
              clear H1
              obtain rfl := Option.some.inj H
              have hcz86_0 : wc.cell? ⟨gb221, 0, none⟩ = some (.int .i64 a0_0) := (blk_cell BK221.out 0).trans rfl
              have hcz86_1 : wc.cell? ⟨gb221, 1, none⟩ = some (.int .i64 a0_1) := (blk_cell BK221.out 1).trans rfl
              have hcz86_2 : wc.cell? ⟨gb221, 2, none⟩ = some (.string a0_2) := (blk_cell BK221.out 2).trans rfl
              have hcz86_3 : wc.cell? ⟨gb221, 3, none⟩ = some (.string a0_3) := (blk_cell BK221.out 3).trans rfl
              have hcz86_4 : wc.cell? ⟨gb221, 4, none⟩ = some (.string a0_4) := (blk_cell BK221.out 4).trans rfl
              have hcz86_5 : wc.cell? ⟨gb221, 5, none⟩ = some (.int .i64 a0_5) := (blk_cell BK221.out 5).trans rfl
              have hfz86_0 := blk_frozen BK221.out 0
              have hfz86_1 := blk_frozen BK221.out 1
              have hfz86_2 := blk_frozen BK221.out 2
              have hfz86_3 := blk_frozen BK221.out 3
              have hfz86_4 := blk_frozen BK221.out 4
              have hfz86_5 := blk_frozen BK221.out 5
              go_wp2_with (first | ((with_reducible refine gate_callee (f := 30) rfl ?_); refine GL (some 40) rfl rfl Tryd.func30 #[.int .i64 a0_0, .int .i64 1, .int .i64 10] rfl ?_; (with_reducible refine (impl_within.calls a0_0 1 10 false _ A74.out).mono ?_); rintro e w' ⟨rfl, ⟨nd, rfl⟩⟩; refine ⟨_, rfl, ?_⟩))
              go_ret
              exact ⟨ER, (BB1 HB.out GE221.out)⟩
          · rw [if_neg c73] at H
            have c73b0 : (a0_0 == 8) = false := beq_eq_false_iff_ne.mpr c73
            have c73b1 : (a0_0 != 8) = true := bne_iff_ne.mpr c73
            replace H := Option.bind_eq_some_iff.mp H
            obtain ⟨t240, A870, H⟩ := H
            replace H : (if t240 = true then ((impl_within.f a0_1 1 9).bind fun t241 => (if t241 = true then (if x3_2 = true then (if a0_4.toList = ([] : List UInt8) then (if a0_0 = 9 then (if a0_3.toList = ([] : List UInt8) then (some true) else (some (a0_0 == 5))) else (some false)) else (some false)) else (some false)) else (some false))) else (some false)) = some r := H
            have A87 := Aside0.mk A870
            clear A870
            by_cases c88 : t240 = true
            · subst c88
              have H1 : ((impl_within.f a0_1 1 9).bind fun t241 => (if t241 = true then (if x3_2 = true then (if a0_4.toList = ([] : List UInt8) then (if a0_0 = 9 then (if a0_3.toList = ([] : List UInt8) then (some true) else (some (a0_0 == 5))) else (some false)) else (some false)) else (some false)) else (some false))) = some r := by rw [if_pos rfl] at H; exact H
              clear H
              have H := H1
              clear H1
              replace H := Option.bind_eq_some_iff.mp H
              obtain ⟨t241, A890, H⟩ := H
              replace H : (if t241 = true then (if x3_2 = true then (if a0_4.toList = ([] : List UInt8) then (if a0_0 = 9 then (if a0_3.toList = ([] : List UInt8) then (some true) else (some (a0_0 == 5))) else (some false)) else (some false)) else (some false)) else (some false)) = some r := H
              have A89 := Aside0.mk A890
              clear A890
              by_cases c90 : t241 = true
              · subst c90
                have H1 : (if x3_2 = true then (if a0_4.toList = ([] : List UInt8) then (if a0_0 = 9 then (if a0_3.toList = ([] : List UInt8) then (some true) else (some (a0_0 == 5))) else (some false)) else (some false)) else (some false)) = some r := by rw [if_pos rfl] at H; exact H
                clear H
                have H := H1
                clear H1
                by_cases c91 : x3_2 = true
                · subst c91
                  have H1 : (if a0_4.toList = ([] : List UInt8) then (if a0_0 = 9 then (if a0_3.toList = ([] : List UInt8) then (some true) else (some (a0_0 == 5))) else (some false)) else (some false)) = some r := by rw [if_pos rfl] at H; exact H
                  clear H
                  have H := H1
                  clear H1
                  by_cases c92 : a0_4.toList = ([] : List UInt8)
                  · rw [if_pos c92] at H
                    have c92b0 : (a0_4.toList == ([] : List UInt8)) = true := beq_iff_eq.mpr c92
                    have c92b1 : (a0_4.toList != ([] : List UInt8)) = false := bne_eq_false_iff_eq.mpr c92
                    clear c92
                    by_cases c93 : a0_0 = 9
                    · rw [if_pos c93] at H
                      have c93b0 : (a0_0 == 9) = true := beq_iff_eq.mpr c93
                      have c93b1 : (a0_0 != 9) = false := bne_eq_false_iff_eq.mpr c93
                      clear c93
                      by_cases c94 : a0_3.toList = ([] : List UInt8)
                      · rw [if_pos c94] at H
                        have c94b0 : (a0_3.toList == ([] : List UInt8)) = true := beq_iff_eq.mpr c94
                        have c94b1 : (a0_3.toList != ([] : List UInt8)) = false := bne_eq_false_iff_eq.mpr c94
                        clear c94
                        obtain rfl := Option.some.inj H
                        have hcz95_0 : wc.cell? ⟨gb221, 0, none⟩ = some (.int .i64 a0_0) := (blk_cell BK221.out 0).trans rfl
                        have hcz95_1 : wc.cell? ⟨gb221, 1, none⟩ = some (.int .i64 a0_1) := (blk_cell BK221.out 1).trans rfl
                        have hcz95_2 : wc.cell? ⟨gb221, 2, none⟩ = some (.string a0_2) := (blk_cell BK221.out 2).trans rfl
                        have hcz95_3 : wc.cell? ⟨gb221, 3, none⟩ = some (.string a0_3) := (blk_cell BK221.out 3).trans rfl
                        have hcz95_4 : wc.cell? ⟨gb221, 4, none⟩ = some (.string a0_4) := (blk_cell BK221.out 4).trans rfl
                        have hcz95_5 : wc.cell? ⟨gb221, 5, none⟩ = some (.int .i64 a0_5) := (blk_cell BK221.out 5).trans rfl
                        have hfz95_0 := blk_frozen BK221.out 0
                        have hfz95_1 := blk_frozen BK221.out 1
                        have hfz95_2 := blk_frozen BK221.out 2
                        have hfz95_3 := blk_frozen BK221.out 3
                        have hfz95_4 := blk_frozen BK221.out 4
                        have hfz95_5 := blk_frozen BK221.out 5
                        go_wp2_with (first | ((with_reducible refine gate_callee (f := 30) rfl ?_); refine GL (some 40) rfl rfl Tryd.func30 #[.int .i64 a0_0, .int .i64 1, .int .i64 10] rfl ?_; (with_reducible refine (impl_within.calls a0_0 1 10 true _ A87.out).mono ?_); rintro e w' ⟨rfl, ⟨nd, rfl⟩⟩; refine ⟨_, rfl, ?_⟩) | (go_at_call 30; (with_reducible refine (impl_within.calls a0_1 1 9 true _ A89.out).mono ?_); rintro e w' ⟨rfl, ⟨nd, rfl⟩⟩))
                        go_ret
                        exact ⟨ER, (BB1 HB.out GE221.out)⟩
                      · rw [if_neg c94] at H
                        have c94b0 : (a0_3.toList == ([] : List UInt8)) = false := beq_eq_false_iff_ne.mpr c94
                        have c94b1 : (a0_3.toList != ([] : List UInt8)) = true := bne_iff_ne.mpr c94
                        obtain rfl := Option.some.inj H
                        have hcz96_0 : wc.cell? ⟨gb221, 0, none⟩ = some (.int .i64 a0_0) := (blk_cell BK221.out 0).trans rfl
                        have hcz96_1 : wc.cell? ⟨gb221, 1, none⟩ = some (.int .i64 a0_1) := (blk_cell BK221.out 1).trans rfl
                        have hcz96_2 : wc.cell? ⟨gb221, 2, none⟩ = some (.string a0_2) := (blk_cell BK221.out 2).trans rfl
                        have hcz96_3 : wc.cell? ⟨gb221, 3, none⟩ = some (.string a0_3) := (blk_cell BK221.out 3).trans rfl
                        have hcz96_4 : wc.cell? ⟨gb221, 4, none⟩ = some (.string a0_4) := (blk_cell BK221.out 4).trans rfl
                        have hcz96_5 : wc.cell? ⟨gb221, 5, none⟩ = some (.int .i64 a0_5) := (blk_cell BK221.out 5).trans rfl
                        have hfz96_0 := blk_frozen BK221.out 0
                        have hfz96_1 := blk_frozen BK221.out 1
                        have hfz96_2 := blk_frozen BK221.out 2
                        have hfz96_3 := blk_frozen BK221.out 3
                        have hfz96_4 := blk_frozen BK221.out 4
                        have hfz96_5 := blk_frozen BK221.out 5
                        go_wp2_with (first | ((with_reducible refine gate_callee (f := 30) rfl ?_); refine GL (some 40) rfl rfl Tryd.func30 #[.int .i64 a0_0, .int .i64 1, .int .i64 10] rfl ?_; (with_reducible refine (impl_within.calls a0_0 1 10 true _ A87.out).mono ?_); rintro e w' ⟨rfl, ⟨nd, rfl⟩⟩; refine ⟨_, rfl, ?_⟩) | (go_at_call 30; (with_reducible refine (impl_within.calls a0_1 1 9 true _ A89.out).mono ?_); rintro e w' ⟨rfl, ⟨nd, rfl⟩⟩))
                        go_ret
                        exact ⟨ER, (BB1 HB.out GE221.out)⟩
                    · rw [if_neg c93] at H
                      have c93b0 : (a0_0 == 9) = false := beq_eq_false_iff_ne.mpr c93
                      have c93b1 : (a0_0 != 9) = true := bne_iff_ne.mpr c93
                      obtain rfl := Option.some.inj H
                      have hcz97_0 : wc.cell? ⟨gb221, 0, none⟩ = some (.int .i64 a0_0) := (blk_cell BK221.out 0).trans rfl
                      have hcz97_1 : wc.cell? ⟨gb221, 1, none⟩ = some (.int .i64 a0_1) := (blk_cell BK221.out 1).trans rfl
                      have hcz97_2 : wc.cell? ⟨gb221, 2, none⟩ = some (.string a0_2) := (blk_cell BK221.out 2).trans rfl
                      have hcz97_3 : wc.cell? ⟨gb221, 3, none⟩ = some (.string a0_3) := (blk_cell BK221.out 3).trans rfl
                      have hcz97_4 : wc.cell? ⟨gb221, 4, none⟩ = some (.string a0_4) := (blk_cell BK221.out 4).trans rfl
                      have hcz97_5 : wc.cell? ⟨gb221, 5, none⟩ = some (.int .i64 a0_5) := (blk_cell BK221.out 5).trans rfl
                      have hfz97_0 := blk_frozen BK221.out 0
                      have hfz97_1 := blk_frozen BK221.out 1
                      have hfz97_2 := blk_frozen BK221.out 2
                      have hfz97_3 := blk_frozen BK221.out 3
                      have hfz97_4 := blk_frozen BK221.out 4
                      have hfz97_5 := blk_frozen BK221.out 5
                      go_wp2_with (first | ((with_reducible refine gate_callee (f := 30) rfl ?_); refine GL (some 40) rfl rfl Tryd.func30 #[.int .i64 a0_0, .int .i64 1, .int .i64 10] rfl ?_; (with_reducible refine (impl_within.calls a0_0 1 10 true _ A87.out).mono ?_); rintro e w' ⟨rfl, ⟨nd, rfl⟩⟩; refine ⟨_, rfl, ?_⟩) | (go_at_call 30; (with_reducible refine (impl_within.calls a0_1 1 9 true _ A89.out).mono ?_); rintro e w' ⟨rfl, ⟨nd, rfl⟩⟩))
                      go_ret
                      exact ⟨ER, (BB1 HB.out GE221.out)⟩
                  · rw [if_neg c92] at H
                    have c92b0 : (a0_4.toList == ([] : List UInt8)) = false := beq_eq_false_iff_ne.mpr c92
                    have c92b1 : (a0_4.toList != ([] : List UInt8)) = true := bne_iff_ne.mpr c92
                    obtain rfl := Option.some.inj H
                    have hcz98_0 : wc.cell? ⟨gb221, 0, none⟩ = some (.int .i64 a0_0) := (blk_cell BK221.out 0).trans rfl
                    have hcz98_1 : wc.cell? ⟨gb221, 1, none⟩ = some (.int .i64 a0_1) := (blk_cell BK221.out 1).trans rfl
                    have hcz98_2 : wc.cell? ⟨gb221, 2, none⟩ = some (.string a0_2) := (blk_cell BK221.out 2).trans rfl
                    have hcz98_3 : wc.cell? ⟨gb221, 3, none⟩ = some (.string a0_3) := (blk_cell BK221.out 3).trans rfl
                    have hcz98_4 : wc.cell? ⟨gb221, 4, none⟩ = some (.string a0_4) := (blk_cell BK221.out 4).trans rfl
                    have hcz98_5 : wc.cell? ⟨gb221, 5, none⟩ = some (.int .i64 a0_5) := (blk_cell BK221.out 5).trans rfl
                    have hfz98_0 := blk_frozen BK221.out 0
                    have hfz98_1 := blk_frozen BK221.out 1
                    have hfz98_2 := blk_frozen BK221.out 2
                    have hfz98_3 := blk_frozen BK221.out 3
                    have hfz98_4 := blk_frozen BK221.out 4
                    have hfz98_5 := blk_frozen BK221.out 5
                    go_wp2_with (first | ((with_reducible refine gate_callee (f := 30) rfl ?_); refine GL (some 40) rfl rfl Tryd.func30 #[.int .i64 a0_0, .int .i64 1, .int .i64 10] rfl ?_; (with_reducible refine (impl_within.calls a0_0 1 10 true _ A87.out).mono ?_); rintro e w' ⟨rfl, ⟨nd, rfl⟩⟩; refine ⟨_, rfl, ?_⟩) | (go_at_call 30; (with_reducible refine (impl_within.calls a0_1 1 9 true _ A89.out).mono ?_); rintro e w' ⟨rfl, ⟨nd, rfl⟩⟩))
                    go_ret
                    exact ⟨ER, (BB1 HB.out GE221.out)⟩
                · replace c91 := Bool.eq_false_iff.mpr c91
                  subst c91
                  have H1 : (some false) = some r := by rw [if_neg (show ¬ (false = true) by decide)] at H; exact H
                  clear H
                  have H := H1
                  clear H1
                  obtain rfl := Option.some.inj H
                  have hcz99_0 : wc.cell? ⟨gb221, 0, none⟩ = some (.int .i64 a0_0) := (blk_cell BK221.out 0).trans rfl
                  have hcz99_1 : wc.cell? ⟨gb221, 1, none⟩ = some (.int .i64 a0_1) := (blk_cell BK221.out 1).trans rfl
                  have hcz99_2 : wc.cell? ⟨gb221, 2, none⟩ = some (.string a0_2) := (blk_cell BK221.out 2).trans rfl
                  have hcz99_3 : wc.cell? ⟨gb221, 3, none⟩ = some (.string a0_3) := (blk_cell BK221.out 3).trans rfl
                  have hcz99_4 : wc.cell? ⟨gb221, 4, none⟩ = some (.string a0_4) := (blk_cell BK221.out 4).trans rfl
                  have hcz99_5 : wc.cell? ⟨gb221, 5, none⟩ = some (.int .i64 a0_5) := (blk_cell BK221.out 5).trans rfl
                  have hfz99_0 := blk_frozen BK221.out 0
                  have hfz99_1 := blk_frozen BK221.out 1
                  have hfz99_2 := blk_frozen BK221.out 2
                  have hfz99_3 := blk_frozen BK221.out 3
                  have hfz99_4 := blk_frozen BK221.out 4
                  have hfz99_5 := blk_frozen BK221.out 5
                  go_wp2_with (first | ((with_reducible refine gate_callee (f := 30) rfl ?_); refine GL (some 40) rfl rfl Tryd.func30 #[.int .i64 a0_0, .int .i64 1, .int .i64 10] rfl ?_; (with_reducible refine (impl_within.calls a0_0 1 10 true _ A87.out).mono ?_); rintro e w' ⟨rfl, ⟨nd, rfl⟩⟩; refine ⟨_, rfl, ?_⟩) | (go_at_call 30; (with_reducible refine (impl_within.calls a0_1 1 9 true _ A89.out).mono ?_); rintro e w' ⟨rfl, ⟨nd, rfl⟩⟩))
                  go_ret
                  exact ⟨ER, (BB1 HB.out GE221.out)⟩
              · replace c90 := Bool.eq_false_iff.mpr c90
                subst c90
                have H1 : (some false) = some r := by rw [if_neg (show ¬ (false = true) by decide)] at H; exact H
                clear H
                have H := H1
                clear H1
                obtain rfl := Option.some.inj H
                have hcz100_0 : wc.cell? ⟨gb221, 0, none⟩ = some (.int .i64 a0_0) := (blk_cell BK221.out 0).trans rfl
                have hcz100_1 : wc.cell? ⟨gb221, 1, none⟩ = some (.int .i64 a0_1) := (blk_cell BK221.out 1).trans rfl
                have hcz100_2 : wc.cell? ⟨gb221, 2, none⟩ = some (.string a0_2) := (blk_cell BK221.out 2).trans rfl
                have hcz100_3 : wc.cell? ⟨gb221, 3, none⟩ = some (.string a0_3) := (blk_cell BK221.out 3).trans rfl
                have hcz100_4 : wc.cell? ⟨gb221, 4, none⟩ = some (.string a0_4) := (blk_cell BK221.out 4).trans rfl
                have hcz100_5 : wc.cell? ⟨gb221, 5, none⟩ = some (.int .i64 a0_5) := (blk_cell BK221.out 5).trans rfl
                have hfz100_0 := blk_frozen BK221.out 0
                have hfz100_1 := blk_frozen BK221.out 1
                have hfz100_2 := blk_frozen BK221.out 2
                have hfz100_3 := blk_frozen BK221.out 3
                have hfz100_4 := blk_frozen BK221.out 4
                have hfz100_5 := blk_frozen BK221.out 5
                go_wp2_with (first | ((with_reducible refine gate_callee (f := 30) rfl ?_); refine GL (some 40) rfl rfl Tryd.func30 #[.int .i64 a0_0, .int .i64 1, .int .i64 10] rfl ?_; (with_reducible refine (impl_within.calls a0_0 1 10 true _ A87.out).mono ?_); rintro e w' ⟨rfl, ⟨nd, rfl⟩⟩; refine ⟨_, rfl, ?_⟩) | (go_at_call 30; (with_reducible refine (impl_within.calls a0_1 1 9 false _ A89.out).mono ?_); rintro e w' ⟨rfl, ⟨nd, rfl⟩⟩))
                go_ret
                exact ⟨ER, (BB1 HB.out GE221.out)⟩
            · replace c88 := Bool.eq_false_iff.mpr c88
              subst c88
              have H1 : (some false) = some r := by rw [if_neg (show ¬ (false = true) by decide)] at H; exact H
              clear H
              have H := H1
              clear H1
              obtain rfl := Option.some.inj H
              have hcz101_0 : wc.cell? ⟨gb221, 0, none⟩ = some (.int .i64 a0_0) := (blk_cell BK221.out 0).trans rfl
              have hcz101_1 : wc.cell? ⟨gb221, 1, none⟩ = some (.int .i64 a0_1) := (blk_cell BK221.out 1).trans rfl
              have hcz101_2 : wc.cell? ⟨gb221, 2, none⟩ = some (.string a0_2) := (blk_cell BK221.out 2).trans rfl
              have hcz101_3 : wc.cell? ⟨gb221, 3, none⟩ = some (.string a0_3) := (blk_cell BK221.out 3).trans rfl
              have hcz101_4 : wc.cell? ⟨gb221, 4, none⟩ = some (.string a0_4) := (blk_cell BK221.out 4).trans rfl
              have hcz101_5 : wc.cell? ⟨gb221, 5, none⟩ = some (.int .i64 a0_5) := (blk_cell BK221.out 5).trans rfl
              have hfz101_0 := blk_frozen BK221.out 0
              have hfz101_1 := blk_frozen BK221.out 1
              have hfz101_2 := blk_frozen BK221.out 2
              have hfz101_3 := blk_frozen BK221.out 3
              have hfz101_4 := blk_frozen BK221.out 4
              have hfz101_5 := blk_frozen BK221.out 5
              go_wp2_with (first | ((with_reducible refine gate_callee (f := 30) rfl ?_); refine GL (some 40) rfl rfl Tryd.func30 #[.int .i64 a0_0, .int .i64 1, .int .i64 10] rfl ?_; (with_reducible refine (impl_within.calls a0_0 1 10 false _ A87.out).mono ?_); rintro e w' ⟨rfl, ⟨nd, rfl⟩⟩; refine ⟨_, rfl, ?_⟩))
              go_ret
              exact ⟨ER, (BB1 HB.out GE221.out)⟩

end Go.Proofs.YtfgnaneajonapaaDoor.Pr

namespace Go.Proofs.YtfgnaneajonapaaDoor.Pr
open Go.RowKit Go.Proofs.YtfgnaneajonapaaDoorW.PrintWords Go.Proofs.YtfgnaneajonapaaDoorW.PrintLast Go.Proofs.YtfgnaneajonapaaDoorW.PrintMore
attribute [local go_sem] max2_int min2_int max_two min_two max_three min_three max_four min_four
set_option linter.unusedVariables false
set_option linter.unusedSimpArgs false
def impl_EventOk.f (k : Nat) (a0_0 : Int) (a0_1 : Int) (a0_2 : Int) (a0_3 : ByteArray) (a0_4 : ByteArray) (a0_5 : ByteArray) (a0_6 : Int) (a0_7 : Int) (a0_8 : Int) (a0_9 : Bool) (l0_10 : List Int) : Option (Bool) := (impl_within.f a0_0 1 9).bind fun t283 => (if t283 = true then (if a0_0 = 1 then ((impl_AskOk.f k a0_1 a0_2 a0_3 a0_4 a0_5 a0_6).bind fun t284 => (if t284 = true then ((impl_within.f a0_7 1 7).bind fun t285 => (if t285 = true then (if a0_8 ≥ 0 then (some (decide ((l0_10.length : Int) ≤ 30))) else (some false)) else (some false))) else (some false))) else ((impl_within.f a0_7 1 7).bind fun t286 => (if t286 = true then (if a0_8 ≥ 0 then (some (decide ((l0_10.length : Int) ≤ 30))) else (some false)) else (some false)))) else (some false))
set_option maxHeartbeats 8000000 in
set_option maxRecDepth 100000 in
theorem impl_EventOk.calls (k : Nat) (a0_0 : Int) (a0_1 : Int) (a0_2 : Int) (a0_3 : ByteArray) (a0_4 : ByteArray) (a0_5 : ByteArray) (a0_6 : Int) (a0_7 : Int) (a0_8 : Int) (a0_9 : Bool) (A0_10 : Option Addr) (c0_10 : Nat) (l0_10 : List Int) (r : Bool) (w : World) (hr0_10 : Kd.C (Kd.int .i64) w A0_10 l0_10.length l0_10) (hc0_10 : l0_10.length ≤ c0_10) (h : impl_EventOk.f k a0_0 a0_1 a0_2 a0_3 a0_4 a0_5 a0_6 a0_7 a0_8 a0_9 l0_10 = some r) :
    Calls Tryd.prog 19 #[.agg #[.int .i64 a0_0, .int .i64 a0_1, .int .i64 a0_2, .string a0_3, .string a0_4, .string a0_5, .int .i64 a0_6, .int .i64 a0_7, .int .i64 a0_8, .bool a0_9, .slice A0_10 l0_10.length c0_10]] w fun e w' => e = .returned (.bool r) ∧ Below w.heap.size w w' := by
  have hu42 := Tryd.underlying42
  have hu33 := Tryd.underlying33
  have HR0_10 := Aside0.mk hr0_10
  have HC0_10 := Aside0.mk hc0_10
  clear hr0_10 hc0_10
  have HB := Aside0.mk (Below.refl w.heap.size w)
  have H : ((impl_within.f a0_0 1 9).bind fun t283 => (if t283 = true then (if a0_0 = 1 then ((impl_AskOk.f k a0_1 a0_2 a0_3 a0_4 a0_5 a0_6).bind fun t284 => (if t284 = true then ((impl_within.f a0_7 1 7).bind fun t285 => (if t285 = true then (if a0_8 ≥ 0 then (some (decide ((l0_10.length : Int) ≤ 30))) else (some false)) else (some false))) else (some false))) else ((impl_within.f a0_7 1 7).bind fun t286 => (if t286 = true then (if a0_8 ≥ 0 then (some (decide ((l0_10.length : Int) ≤ 30))) else (some false)) else (some false)))) else (some false))) = some r := h
  clear h
  replace H := Option.bind_eq_some_iff.mp H
  obtain ⟨t283, A20, H⟩ := H
  replace H : (if t283 = true then (if a0_0 = 1 then ((impl_AskOk.f k a0_1 a0_2 a0_3 a0_4 a0_5 a0_6).bind fun t284 => (if t284 = true then ((impl_within.f a0_7 1 7).bind fun t285 => (if t285 = true then (if a0_8 ≥ 0 then (some (decide ((l0_10.length : Int) ≤ 30))) else (some false)) else (some false))) else (some false))) else ((impl_within.f a0_7 1 7).bind fun t286 => (if t286 = true then (if a0_8 ≥ 0 then (some (decide ((l0_10.length : Int) ≤ 30))) else (some false)) else (some false)))) else (some false)) = some r := H
  have A2 := Aside0.mk A20
  clear A20
  by_cases c3 : t283 = true
  · subst c3
    have H1 : (if a0_0 = 1 then ((impl_AskOk.f k a0_1 a0_2 a0_3 a0_4 a0_5 a0_6).bind fun t284 => (if t284 = true then ((impl_within.f a0_7 1 7).bind fun t285 => (if t285 = true then (if a0_8 ≥ 0 then (some (decide ((l0_10.length : Int) ≤ 30))) else (some false)) else (some false))) else (some false))) else ((impl_within.f a0_7 1 7).bind fun t286 => (if t286 = true then (if a0_8 ≥ 0 then (some (decide ((l0_10.length : Int) ≤ 30))) else (some false)) else (some false)))) = some r := by rw [if_pos rfl] at H; exact H
    clear H
    have H := H1
    clear H1
    by_cases c4 : a0_0 = 1
    · rw [if_pos c4] at H
      have c4b0 : (a0_0 == 1) = true := beq_iff_eq.mpr c4
      have c4b1 : (a0_0 != 1) = false := bne_eq_false_iff_eq.mpr c4
      clear c4
      replace H := Option.bind_eq_some_iff.mp H
      obtain ⟨t284, A50, H⟩ := H
      replace H : (if t284 = true then ((impl_within.f a0_7 1 7).bind fun t285 => (if t285 = true then (if a0_8 ≥ 0 then (some (decide ((l0_10.length : Int) ≤ 30))) else (some false)) else (some false))) else (some false)) = some r := H
      have A5 := Aside0.mk A50
      clear A50
      by_cases c6 : t284 = true
      · subst c6
        have H1 : ((impl_within.f a0_7 1 7).bind fun t285 => (if t285 = true then (if a0_8 ≥ 0 then (some (decide ((l0_10.length : Int) ≤ 30))) else (some false)) else (some false))) = some r := by rw [if_pos rfl] at H; exact H
        clear H
        have H := H1
        clear H1
        replace H := Option.bind_eq_some_iff.mp H
        obtain ⟨t285, A70, H⟩ := H
        replace H : (if t285 = true then (if a0_8 ≥ 0 then (some (decide ((l0_10.length : Int) ≤ 30))) else (some false)) else (some false)) = some r := H
        have A7 := Aside0.mk A70
        clear A70
        by_cases c8 : t285 = true
        · subst c8
          have H1 : (if a0_8 ≥ 0 then (some (decide ((l0_10.length : Int) ≤ 30))) else (some false)) = some r := by rw [if_pos rfl] at H; exact H
          clear H
          have H := H1
          clear H1
          by_cases c9 : a0_8 ≥ 0
          · rw [if_pos c9] at H
            have c9b0 : decide (0 ≤ a0_8) = true := decide_eq_true c9
            clear c9
            obtain rfl := Option.some.inj H
            go_enter Tryd.func19, Tryd.ntmps19
            go_wp2_with (first | ((with_reducible refine gate_dst (N := 1) rfl ?_); (try (refine gate_guard (by rfl) ?_; dsimp only)); refine BX 1 #[.int .i64 a0_0, .int .i64 a0_1, .int .i64 a0_2, .string a0_3, .string a0_4, .string a0_5, .int .i64 a0_6, .int .i64 a0_7, .int .i64 a0_8, .bool a0_9, .slice A0_10 l0_10.length c0_10] 42 ?_; intro gb282 hg w10 hbox hb; have BK282 := Aside0.mk (hbox); have GW282 : Aside0 (w.heap.size ≤ gb282) := WG hg (BB HB.out); have GE282 := GW282; replace HB := Aside0.mk (below_step (BB HB.out) hb); clear hb hbox hg; have hcz11 := blk_cell BK282.out; have hfz11 := blk_frozen BK282.out) | ((with_reducible refine gate_callee (f := 30) rfl ?_); refine GL (some 5) rfl rfl Tryd.func30 #[.int .i64 a0_0, .int .i64 1, .int .i64 9] rfl ?_; (with_reducible refine (impl_within.calls a0_0 1 9 true _ A2.out).mono ?_); rintro e w' ⟨rfl, ⟨nd, rfl⟩⟩; refine ⟨_, rfl, ?_⟩) | (go_at_call 15; (with_reducible refine (impl_AskOk.calls k a0_1 a0_2 a0_3 a0_4 a0_5 a0_6 true _ A5.out).mono ?_); rintro e w12 ⟨rfl, hb⟩; replace BK282 := Aside0.mk (KB BK282.out hb); replace HB := Aside0.mk (below_step (BB1 HB.out GE282.out) hb); (try clear hb); (try clear hb2); (try clear hk); (try clear hi); have hcz13 := blk_cell BK282.out; have hfz13 := blk_frozen BK282.out) | (go_at_call 30; (with_reducible refine (impl_within.calls a0_7 1 7 true _ A7.out).mono ?_); rintro e w' ⟨rfl, ⟨nd, rfl⟩⟩))
            go_ret
            exact ⟨ER, (BB1 HB.out GE282.out)⟩
          · rw [if_neg c9] at H
            have c9b0 : decide (0 ≤ a0_8) = false := decide_eq_false c9
            clear c9
            obtain rfl := Option.some.inj H
            go_enter Tryd.func19, Tryd.ntmps19
            go_wp2_with (first | ((with_reducible refine gate_dst (N := 1) rfl ?_); (try (refine gate_guard (by rfl) ?_; dsimp only)); refine BX 1 #[.int .i64 a0_0, .int .i64 a0_1, .int .i64 a0_2, .string a0_3, .string a0_4, .string a0_5, .int .i64 a0_6, .int .i64 a0_7, .int .i64 a0_8, .bool a0_9, .slice A0_10 l0_10.length c0_10] 42 ?_; intro gb282 hg w14 hbox hb; have BK282 := Aside0.mk (hbox); have GW282 : Aside0 (w.heap.size ≤ gb282) := WG hg (BB HB.out); have GE282 := GW282; replace HB := Aside0.mk (below_step (BB HB.out) hb); clear hb hbox hg; have hcz15 := blk_cell BK282.out; have hfz15 := blk_frozen BK282.out) | ((with_reducible refine gate_callee (f := 30) rfl ?_); refine GL (some 5) rfl rfl Tryd.func30 #[.int .i64 a0_0, .int .i64 1, .int .i64 9] rfl ?_; (with_reducible refine (impl_within.calls a0_0 1 9 true _ A2.out).mono ?_); rintro e w' ⟨rfl, ⟨nd, rfl⟩⟩; refine ⟨_, rfl, ?_⟩) | (go_at_call 15; (with_reducible refine (impl_AskOk.calls k a0_1 a0_2 a0_3 a0_4 a0_5 a0_6 true _ A5.out).mono ?_); rintro e w16 ⟨rfl, hb⟩; replace BK282 := Aside0.mk (KB BK282.out hb); replace HB := Aside0.mk (below_step (BB1 HB.out GE282.out) hb); (try clear hb); (try clear hb2); (try clear hk); (try clear hi); have hcz17 := blk_cell BK282.out; have hfz17 := blk_frozen BK282.out) | (go_at_call 30; (with_reducible refine (impl_within.calls a0_7 1 7 true _ A7.out).mono ?_); rintro e w' ⟨rfl, ⟨nd, rfl⟩⟩))
            go_ret
            exact ⟨ER, (BB1 HB.out GE282.out)⟩
        · replace c8 := Bool.eq_false_iff.mpr c8
          subst c8
          have H1 : (some false) = some r := by rw [if_neg (show ¬ (false = true) by decide)] at H; exact H
          clear H
          have H := H1
          clear H1
          obtain rfl := Option.some.inj H
          go_enter Tryd.func19, Tryd.ntmps19
          go_wp2_with (first | ((with_reducible refine gate_dst (N := 1) rfl ?_); (try (refine gate_guard (by rfl) ?_; dsimp only)); refine BX 1 #[.int .i64 a0_0, .int .i64 a0_1, .int .i64 a0_2, .string a0_3, .string a0_4, .string a0_5, .int .i64 a0_6, .int .i64 a0_7, .int .i64 a0_8, .bool a0_9, .slice A0_10 l0_10.length c0_10] 42 ?_; intro gb282 hg w18 hbox hb; have BK282 := Aside0.mk (hbox); have GW282 : Aside0 (w.heap.size ≤ gb282) := WG hg (BB HB.out); have GE282 := GW282; replace HB := Aside0.mk (below_step (BB HB.out) hb); clear hb hbox hg; have hcz19 := blk_cell BK282.out; have hfz19 := blk_frozen BK282.out) | ((with_reducible refine gate_callee (f := 30) rfl ?_); refine GL (some 5) rfl rfl Tryd.func30 #[.int .i64 a0_0, .int .i64 1, .int .i64 9] rfl ?_; (with_reducible refine (impl_within.calls a0_0 1 9 true _ A2.out).mono ?_); rintro e w' ⟨rfl, ⟨nd, rfl⟩⟩; refine ⟨_, rfl, ?_⟩) | (go_at_call 15; (with_reducible refine (impl_AskOk.calls k a0_1 a0_2 a0_3 a0_4 a0_5 a0_6 true _ A5.out).mono ?_); rintro e w20 ⟨rfl, hb⟩; replace BK282 := Aside0.mk (KB BK282.out hb); replace HB := Aside0.mk (below_step (BB1 HB.out GE282.out) hb); (try clear hb); (try clear hb2); (try clear hk); (try clear hi); have hcz21 := blk_cell BK282.out; have hfz21 := blk_frozen BK282.out) | (go_at_call 30; (with_reducible refine (impl_within.calls a0_7 1 7 false _ A7.out).mono ?_); rintro e w' ⟨rfl, ⟨nd, rfl⟩⟩))
          go_ret
          exact ⟨ER, (BB1 HB.out GE282.out)⟩
      · replace c6 := Bool.eq_false_iff.mpr c6
        subst c6
        have H1 : (some false) = some r := by rw [if_neg (show ¬ (false = true) by decide)] at H; exact H
        clear H
        have H := H1
        clear H1
        obtain rfl := Option.some.inj H
        go_enter Tryd.func19, Tryd.ntmps19
        go_wp2_with (first | ((with_reducible refine gate_dst (N := 1) rfl ?_); (try (refine gate_guard (by rfl) ?_; dsimp only)); refine BX 1 #[.int .i64 a0_0, .int .i64 a0_1, .int .i64 a0_2, .string a0_3, .string a0_4, .string a0_5, .int .i64 a0_6, .int .i64 a0_7, .int .i64 a0_8, .bool a0_9, .slice A0_10 l0_10.length c0_10] 42 ?_; intro gb282 hg w22 hbox hb; have BK282 := Aside0.mk (hbox); have GW282 : Aside0 (w.heap.size ≤ gb282) := WG hg (BB HB.out); have GE282 := GW282; replace HB := Aside0.mk (below_step (BB HB.out) hb); clear hb hbox hg; have hcz23 := blk_cell BK282.out; have hfz23 := blk_frozen BK282.out) | ((with_reducible refine gate_callee (f := 30) rfl ?_); refine GL (some 5) rfl rfl Tryd.func30 #[.int .i64 a0_0, .int .i64 1, .int .i64 9] rfl ?_; (with_reducible refine (impl_within.calls a0_0 1 9 true _ A2.out).mono ?_); rintro e w' ⟨rfl, ⟨nd, rfl⟩⟩; refine ⟨_, rfl, ?_⟩) | (go_at_call 15; (with_reducible refine (impl_AskOk.calls k a0_1 a0_2 a0_3 a0_4 a0_5 a0_6 false _ A5.out).mono ?_); rintro e w24 ⟨rfl, hb⟩; replace BK282 := Aside0.mk (KB BK282.out hb); replace HB := Aside0.mk (below_step (BB1 HB.out GE282.out) hb); (try clear hb); (try clear hb2); (try clear hk); (try clear hi)))
        go_ret
        exact ⟨ER, (BB1 HB.out GE282.out)⟩
    · rw [if_neg c4] at H
      have c4b0 : (a0_0 == 1) = false := beq_eq_false_iff_ne.mpr c4
      have c4b1 : (a0_0 != 1) = true := bne_iff_ne.mpr c4
      replace H := Option.bind_eq_some_iff.mp H
      obtain ⟨t286, A250, H⟩ := H
      replace H : (if t286 = true then (if a0_8 ≥ 0 then (some (decide ((l0_10.length : Int) ≤ 30))) else (some false)) else (some false)) = some r := H
      have A25 := Aside0.mk A250
      clear A250
      by_cases c26 : t286 = true
      · subst c26
        have H1 : (if a0_8 ≥ 0 then (some (decide ((l0_10.length : Int) ≤ 30))) else (some false)) = some r := by rw [if_pos rfl] at H; exact H
        clear H
        have H := H1
        clear H1
        by_cases c27 : a0_8 ≥ 0
        · rw [if_pos c27] at H
          have c27b0 : decide (0 ≤ a0_8) = true := decide_eq_true c27
          clear c27
          obtain rfl := Option.some.inj H
          go_enter Tryd.func19, Tryd.ntmps19
          go_wp2_with (first | ((with_reducible refine gate_dst (N := 1) rfl ?_); (try (refine gate_guard (by rfl) ?_; dsimp only)); refine BX 1 #[.int .i64 a0_0, .int .i64 a0_1, .int .i64 a0_2, .string a0_3, .string a0_4, .string a0_5, .int .i64 a0_6, .int .i64 a0_7, .int .i64 a0_8, .bool a0_9, .slice A0_10 l0_10.length c0_10] 42 ?_; intro gb282 hg w28 hbox hb; have BK282 := Aside0.mk (hbox); have GW282 : Aside0 (w.heap.size ≤ gb282) := WG hg (BB HB.out); have GE282 := GW282; replace HB := Aside0.mk (below_step (BB HB.out) hb); clear hb hbox hg; have hcz29 := blk_cell BK282.out; have hfz29 := blk_frozen BK282.out) | ((with_reducible refine gate_callee (f := 30) rfl ?_); refine GL (some 5) rfl rfl Tryd.func30 #[.int .i64 a0_0, .int .i64 1, .int .i64 9] rfl ?_; (with_reducible refine (impl_within.calls a0_0 1 9 true _ A2.out).mono ?_); rintro e w' ⟨rfl, ⟨nd, rfl⟩⟩; refine ⟨_, rfl, ?_⟩) | (go_at_call 30; (with_reducible refine (impl_within.calls a0_7 1 7 true _ A25.out).mono ?_); rintro e w' ⟨rfl, ⟨nd, rfl⟩⟩))
          go_ret
          exact ⟨ER, (BB1 HB.out GE282.out)⟩
        · rw [if_neg c27] at H
          have c27b0 : decide (0 ≤ a0_8) = false := decide_eq_false c27
          clear c27
          obtain rfl := Option.some.inj H
          go_enter Tryd.func19, Tryd.ntmps19
          go_wp2_with (first | ((with_reducible refine gate_dst (N := 1) rfl ?_); (try (refine gate_guard (by rfl) ?_; dsimp only)); refine BX 1 #[.int .i64 a0_0, .int .i64 a0_1, .int .i64 a0_2, .string a0_3, .string a0_4, .string a0_5, .int .i64 a0_6, .int .i64 a0_7, .int .i64 a0_8, .bool a0_9, .slice A0_10 l0_10.length c0_10] 42 ?_; intro gb282 hg w30 hbox hb; have BK282 := Aside0.mk (hbox); have GW282 : Aside0 (w.heap.size ≤ gb282) := WG hg (BB HB.out); have GE282 := GW282; replace HB := Aside0.mk (below_step (BB HB.out) hb); clear hb hbox hg; have hcz31 := blk_cell BK282.out; have hfz31 := blk_frozen BK282.out) | ((with_reducible refine gate_callee (f := 30) rfl ?_); refine GL (some 5) rfl rfl Tryd.func30 #[.int .i64 a0_0, .int .i64 1, .int .i64 9] rfl ?_; (with_reducible refine (impl_within.calls a0_0 1 9 true _ A2.out).mono ?_); rintro e w' ⟨rfl, ⟨nd, rfl⟩⟩; refine ⟨_, rfl, ?_⟩) | (go_at_call 30; (with_reducible refine (impl_within.calls a0_7 1 7 true _ A25.out).mono ?_); rintro e w' ⟨rfl, ⟨nd, rfl⟩⟩))
          go_ret
          exact ⟨ER, (BB1 HB.out GE282.out)⟩
      · replace c26 := Bool.eq_false_iff.mpr c26
        subst c26
        have H1 : (some false) = some r := by rw [if_neg (show ¬ (false = true) by decide)] at H; exact H
        clear H
        have H := H1
        clear H1
        obtain rfl := Option.some.inj H
        go_enter Tryd.func19, Tryd.ntmps19
        go_wp2_with (first | ((with_reducible refine gate_dst (N := 1) rfl ?_); (try (refine gate_guard (by rfl) ?_; dsimp only)); refine BX 1 #[.int .i64 a0_0, .int .i64 a0_1, .int .i64 a0_2, .string a0_3, .string a0_4, .string a0_5, .int .i64 a0_6, .int .i64 a0_7, .int .i64 a0_8, .bool a0_9, .slice A0_10 l0_10.length c0_10] 42 ?_; intro gb282 hg w32 hbox hb; have BK282 := Aside0.mk (hbox); have GW282 : Aside0 (w.heap.size ≤ gb282) := WG hg (BB HB.out); have GE282 := GW282; replace HB := Aside0.mk (below_step (BB HB.out) hb); clear hb hbox hg; have hcz33 := blk_cell BK282.out; have hfz33 := blk_frozen BK282.out) | ((with_reducible refine gate_callee (f := 30) rfl ?_); refine GL (some 5) rfl rfl Tryd.func30 #[.int .i64 a0_0, .int .i64 1, .int .i64 9] rfl ?_; (with_reducible refine (impl_within.calls a0_0 1 9 true _ A2.out).mono ?_); rintro e w' ⟨rfl, ⟨nd, rfl⟩⟩; refine ⟨_, rfl, ?_⟩) | (go_at_call 30; (with_reducible refine (impl_within.calls a0_7 1 7 false _ A25.out).mono ?_); rintro e w' ⟨rfl, ⟨nd, rfl⟩⟩))
        go_ret
        exact ⟨ER, (BB1 HB.out GE282.out)⟩
  · replace c3 := Bool.eq_false_iff.mpr c3
    subst c3
    have H1 : (some false) = some r := by rw [if_neg (show ¬ (false = true) by decide)] at H; exact H
    clear H
    have H := H1
    clear H1
    obtain rfl := Option.some.inj H
    go_enter Tryd.func19, Tryd.ntmps19
    go_wp2_with (first | ((with_reducible refine gate_dst (N := 1) rfl ?_); (try (refine gate_guard (by rfl) ?_; dsimp only)); refine BX 1 #[.int .i64 a0_0, .int .i64 a0_1, .int .i64 a0_2, .string a0_3, .string a0_4, .string a0_5, .int .i64 a0_6, .int .i64 a0_7, .int .i64 a0_8, .bool a0_9, .slice A0_10 l0_10.length c0_10] 42 ?_; intro gb282 hg w34 hbox hb; have BK282 := Aside0.mk (hbox); have GW282 : Aside0 (w.heap.size ≤ gb282) := WG hg (BB HB.out); have GE282 := GW282; replace HB := Aside0.mk (below_step (BB HB.out) hb); clear hb hbox hg; have hcz35 := blk_cell BK282.out; have hfz35 := blk_frozen BK282.out) | ((with_reducible refine gate_callee (f := 30) rfl ?_); refine GL (some 5) rfl rfl Tryd.func30 #[.int .i64 a0_0, .int .i64 1, .int .i64 9] rfl ?_; (with_reducible refine (impl_within.calls a0_0 1 9 false _ A2.out).mono ?_); rintro e w' ⟨rfl, ⟨nd, rfl⟩⟩; refine ⟨_, rfl, ?_⟩))
    go_ret
    exact ⟨ER, (BB1 HB.out GE282.out)⟩

end Go.Proofs.YtfgnaneajonapaaDoor.Pr

namespace Go.Proofs.YtfgnaneajonapaaDoor.Pr
open Go.RowKit Go.Proofs.YtfgnaneajonapaaDoorW.PrintWords Go.Proofs.YtfgnaneajonapaaDoorW.PrintLast Go.Proofs.YtfgnaneajonapaaDoorW.PrintMore
attribute [local go_sem] max2_int min2_int max_two min_two max_three min_three max_four min_four
set_option linter.unusedVariables false
set_option linter.unusedSimpArgs false
def laws_FnExactEventOk.f (k : Nat) (a0_0 : Int) (a0_1 : Int) (a0_2 : Int) (a0_3 : ByteArray) (a0_4 : ByteArray) (a0_5 : ByteArray) (a0_6 : Int) (a0_7 : Int) (a0_8 : Int) (a0_9 : Bool) (l0_10 : List Int) : Option (Bool) := (laws_szEvent.f a0_0 a0_1 a0_2 a0_3 a0_4 a0_5 a0_6 a0_7 a0_8 a0_9 l0_10 1048576).bind fun t296 => (if t296 < 0 then (some true) else ((laws_toEvent.f k a0_0 a0_1 a0_2 a0_3 a0_4 a0_5 a0_6 a0_7 a0_8 a0_9 l0_10).bind fun bt297 => ((spec_EventOk.f k bt297.1 bt297.2.1 bt297.2.2.1 bt297.2.2.2.1 bt297.2.2.2.2.1 bt297.2.2.2.2.2.1 bt297.2.2.2.2.2.2.1 bt297.2.2.2.2.2.2.2.1 bt297.2.2.2.2.2.2.2.2.1 bt297.2.2.2.2.2.2.2.2.2.1 bt297.2.2.2.2.2.2.2.2.2.2).bind fun t310 => ((laws_toEvent.f k a0_0 a0_1 a0_2 a0_3 a0_4 a0_5 a0_6 a0_7 a0_8 a0_9 l0_10).bind fun bt311 => ((impl_EventOk.f k bt311.1 bt311.2.1 bt311.2.2.1 bt311.2.2.2.1 bt311.2.2.2.2.1 bt311.2.2.2.2.2.1 bt311.2.2.2.2.2.2.1 bt311.2.2.2.2.2.2.2.1 bt311.2.2.2.2.2.2.2.2.1 bt311.2.2.2.2.2.2.2.2.2.1 bt311.2.2.2.2.2.2.2.2.2.2).bind fun t325 => (if (t325 != t310) = true then (some false) else ((laws_toEvent.f k a0_0 a0_1 a0_2 a0_3 a0_4 a0_5 a0_6 a0_7 a0_8 a0_9 l0_10).bind fun bt326 => ((laws_eqEvent.f k bt311.1 bt311.2.1 bt311.2.2.1 bt311.2.2.2.1 bt311.2.2.2.2.1 bt311.2.2.2.2.2.1 bt311.2.2.2.2.2.2.1 bt311.2.2.2.2.2.2.2.1 bt311.2.2.2.2.2.2.2.2.1 bt311.2.2.2.2.2.2.2.2.2.1 bt311.2.2.2.2.2.2.2.2.2.2 bt326.1 bt326.2.1 bt326.2.2.1 bt326.2.2.2.1 bt326.2.2.2.2.1 bt326.2.2.2.2.2.1 bt326.2.2.2.2.2.2.1 bt326.2.2.2.2.2.2.2.1 bt326.2.2.2.2.2.2.2.2.1 bt326.2.2.2.2.2.2.2.2.2.1 bt326.2.2.2.2.2.2.2.2.2.2).bind fun t339 => (if t339 = true then (some true) else (some false))))))))))
set_option maxHeartbeats 8000000 in
set_option maxRecDepth 100000 in
theorem laws_FnExactEventOk.calls (k : Nat) (a0_0 : Int) (a0_1 : Int) (a0_2 : Int) (a0_3 : ByteArray) (a0_4 : ByteArray) (a0_5 : ByteArray) (a0_6 : Int) (a0_7 : Int) (a0_8 : Int) (a0_9 : Bool) (A0_10 : Option Addr) (c0_10 : Nat) (l0_10 : List Int) (r : Bool) (w : World) (hr0_10 : Kd.C (Kd.int .i64) w A0_10 l0_10.length l0_10) (hc0_10 : l0_10.length ≤ c0_10) (h : laws_FnExactEventOk.f k a0_0 a0_1 a0_2 a0_3 a0_4 a0_5 a0_6 a0_7 a0_8 a0_9 l0_10 = some r) (hr_ : Aside0 (r = true) := by exact ⟨rfl⟩) :
    Calls Tryd.prog 5 #[.agg #[.int .i64 a0_0, .int .i64 a0_1, .int .i64 a0_2, .string a0_3, .string a0_4, .string a0_5, .int .i64 a0_6, .int .i64 a0_7, .int .i64 a0_8, .bool a0_9, .slice A0_10 l0_10.length c0_10]] w fun e w' => e = .returned (.bool r) ∧ Below w.heap.size w w' := by
  have hu38 := Tryd.underlying38
  have hu42 := Tryd.underlying42
  have HR0_10 := Aside0.mk hr0_10
  have HC0_10 := Aside0.mk hc0_10
  clear hr0_10 hc0_10
  have HB := Aside0.mk (Below.refl w.heap.size w)
  have H : ((laws_szEvent.f a0_0 a0_1 a0_2 a0_3 a0_4 a0_5 a0_6 a0_7 a0_8 a0_9 l0_10 1048576).bind fun t296 => (if t296 < 0 then (some true) else ((laws_toEvent.f k a0_0 a0_1 a0_2 a0_3 a0_4 a0_5 a0_6 a0_7 a0_8 a0_9 l0_10).bind fun bt297 => ((spec_EventOk.f k bt297.1 bt297.2.1 bt297.2.2.1 bt297.2.2.2.1 bt297.2.2.2.2.1 bt297.2.2.2.2.2.1 bt297.2.2.2.2.2.2.1 bt297.2.2.2.2.2.2.2.1 bt297.2.2.2.2.2.2.2.2.1 bt297.2.2.2.2.2.2.2.2.2.1 bt297.2.2.2.2.2.2.2.2.2.2).bind fun t310 => ((laws_toEvent.f k a0_0 a0_1 a0_2 a0_3 a0_4 a0_5 a0_6 a0_7 a0_8 a0_9 l0_10).bind fun bt311 => ((impl_EventOk.f k bt311.1 bt311.2.1 bt311.2.2.1 bt311.2.2.2.1 bt311.2.2.2.2.1 bt311.2.2.2.2.2.1 bt311.2.2.2.2.2.2.1 bt311.2.2.2.2.2.2.2.1 bt311.2.2.2.2.2.2.2.2.1 bt311.2.2.2.2.2.2.2.2.2.1 bt311.2.2.2.2.2.2.2.2.2.2).bind fun t325 => (if (t325 != t310) = true then (some false) else ((laws_toEvent.f k a0_0 a0_1 a0_2 a0_3 a0_4 a0_5 a0_6 a0_7 a0_8 a0_9 l0_10).bind fun bt326 => ((laws_eqEvent.f k bt311.1 bt311.2.1 bt311.2.2.1 bt311.2.2.2.1 bt311.2.2.2.2.1 bt311.2.2.2.2.2.1 bt311.2.2.2.2.2.2.1 bt311.2.2.2.2.2.2.2.1 bt311.2.2.2.2.2.2.2.2.1 bt311.2.2.2.2.2.2.2.2.2.1 bt311.2.2.2.2.2.2.2.2.2.2 bt326.1 bt326.2.1 bt326.2.2.1 bt326.2.2.2.1 bt326.2.2.2.2.1 bt326.2.2.2.2.2.1 bt326.2.2.2.2.2.2.1 bt326.2.2.2.2.2.2.2.1 bt326.2.2.2.2.2.2.2.2.1 bt326.2.2.2.2.2.2.2.2.2.1 bt326.2.2.2.2.2.2.2.2.2.2).bind fun t339 => (if t339 = true then (some true) else (some false))))))))))) = some r := h
  clear h
  replace H := Option.bind_eq_some_iff.mp H
  obtain ⟨t296, A20, H⟩ := H
  replace H : (if t296 < 0 then (some true) else ((laws_toEvent.f k a0_0 a0_1 a0_2 a0_3 a0_4 a0_5 a0_6 a0_7 a0_8 a0_9 l0_10).bind fun bt297 => ((spec_EventOk.f k bt297.1 bt297.2.1 bt297.2.2.1 bt297.2.2.2.1 bt297.2.2.2.2.1 bt297.2.2.2.2.2.1 bt297.2.2.2.2.2.2.1 bt297.2.2.2.2.2.2.2.1 bt297.2.2.2.2.2.2.2.2.1 bt297.2.2.2.2.2.2.2.2.2.1 bt297.2.2.2.2.2.2.2.2.2.2).bind fun t310 => ((laws_toEvent.f k a0_0 a0_1 a0_2 a0_3 a0_4 a0_5 a0_6 a0_7 a0_8 a0_9 l0_10).bind fun bt311 => ((impl_EventOk.f k bt311.1 bt311.2.1 bt311.2.2.1 bt311.2.2.2.1 bt311.2.2.2.2.1 bt311.2.2.2.2.2.1 bt311.2.2.2.2.2.2.1 bt311.2.2.2.2.2.2.2.1 bt311.2.2.2.2.2.2.2.2.1 bt311.2.2.2.2.2.2.2.2.2.1 bt311.2.2.2.2.2.2.2.2.2.2).bind fun t325 => (if (t325 != t310) = true then (some false) else ((laws_toEvent.f k a0_0 a0_1 a0_2 a0_3 a0_4 a0_5 a0_6 a0_7 a0_8 a0_9 l0_10).bind fun bt326 => ((laws_eqEvent.f k bt311.1 bt311.2.1 bt311.2.2.1 bt311.2.2.2.1 bt311.2.2.2.2.1 bt311.2.2.2.2.2.1 bt311.2.2.2.2.2.2.1 bt311.2.2.2.2.2.2.2.1 bt311.2.2.2.2.2.2.2.2.1 bt311.2.2.2.2.2.2.2.2.2.1 bt311.2.2.2.2.2.2.2.2.2.2 bt326.1 bt326.2.1 bt326.2.2.1 bt326.2.2.2.1 bt326.2.2.2.2.1 bt326.2.2.2.2.2.1 bt326.2.2.2.2.2.2.1 bt326.2.2.2.2.2.2.2.1 bt326.2.2.2.2.2.2.2.2.1 bt326.2.2.2.2.2.2.2.2.2.1 bt326.2.2.2.2.2.2.2.2.2.2).bind fun t339 => (if t339 = true then (some true) else (some false)))))))))) = some r := H
  have A2 := Aside0.mk A20
  clear A20
  by_cases c3 : t296 < 0
  · rw [if_pos c3] at H
    have c3b0 : decide (t296 < 0) = true := decide_eq_true c3
    clear c3
    obtain rfl := Option.some.inj H
    go_enter Tryd.func5, Tryd.ntmps5
    go_wp2_with (first | ((with_reducible refine gate_dst (N := 1) rfl ?_); refine BX 1 #[.int .i64 a0_0, .int .i64 a0_1, .int .i64 a0_2, .string a0_3, .string a0_4, .string a0_5, .int .i64 a0_6, .int .i64 a0_7, .int .i64 a0_8, .bool a0_9, .slice A0_10 l0_10.length c0_10] 38 ?_; intro gb295 hg w4 hbox hb; have BK295 := Aside0.mk (hbox); have GW295 : Aside0 (w.heap.size ≤ gb295) := WG hg (BB HB.out); have GE295 := GW295; replace HB := Aside0.mk (below_step (BB HB.out) hb); clear hb hbox hg; have hcz5 := blk_cell BK295.out; have hfz5 := blk_frozen BK295.out) | ((with_reducible refine gate_callee (f := 16) rfl ?_); refine GL (some 9) rfl rfl Tryd.func16 #[.agg #[.int .i64 a0_0, .int .i64 a0_1, .int .i64 a0_2, .string a0_3, .string a0_4, .string a0_5, .int .i64 a0_6, .int .i64 a0_7, .int .i64 a0_8, .bool a0_9, .slice A0_10 l0_10.length c0_10], .int .i64 1048576] rfl ?_; (with_reducible refine (laws_szEvent.calls a0_0 a0_1 a0_2 a0_3 a0_4 a0_5 a0_6 a0_7 a0_8 a0_9 _ _ l0_10 1048576 t296 _ ?side1 ?side2 A2.out).mono ?_); (case side1 => exact CC (Kd.C_below HR0_10.out HB.out)); (case side2 => exact HC0_10.out); rintro e w6 ⟨rfl, hb⟩; refine ⟨_, rfl, ?_⟩; replace BK295 := Aside0.mk (KB BK295.out hb); replace HB := Aside0.mk (below_step (BB1 HB.out GE295.out) hb); (try clear hb)))
    go_ret
    exact ⟨ER, (BB1 HB.out GE295.out)⟩
  · rw [if_neg c3] at H
    have c3b0 : decide (t296 < 0) = false := decide_eq_false c3
    clear c3
    replace H := Option.bind_eq_some_iff.mp H
    obtain ⟨⟨t297, t298, t299, t300, t301, t302, t303, t304, t305, t306, t307⟩, A70, H⟩ := H
    replace H : ((spec_EventOk.f k t297 t298 t299 t300 t301 t302 t303 t304 t305 t306 t307).bind fun t310 => ((laws_toEvent.f k a0_0 a0_1 a0_2 a0_3 a0_4 a0_5 a0_6 a0_7 a0_8 a0_9 l0_10).bind fun bt311 => ((impl_EventOk.f k bt311.1 bt311.2.1 bt311.2.2.1 bt311.2.2.2.1 bt311.2.2.2.2.1 bt311.2.2.2.2.2.1 bt311.2.2.2.2.2.2.1 bt311.2.2.2.2.2.2.2.1 bt311.2.2.2.2.2.2.2.2.1 bt311.2.2.2.2.2.2.2.2.2.1 bt311.2.2.2.2.2.2.2.2.2.2).bind fun t325 => (if (t325 != t310) = true then (some false) else ((laws_toEvent.f k a0_0 a0_1 a0_2 a0_3 a0_4 a0_5 a0_6 a0_7 a0_8 a0_9 l0_10).bind fun bt326 => ((laws_eqEvent.f k bt311.1 bt311.2.1 bt311.2.2.1 bt311.2.2.2.1 bt311.2.2.2.2.1 bt311.2.2.2.2.2.1 bt311.2.2.2.2.2.2.1 bt311.2.2.2.2.2.2.2.1 bt311.2.2.2.2.2.2.2.2.1 bt311.2.2.2.2.2.2.2.2.2.1 bt311.2.2.2.2.2.2.2.2.2.2 bt326.1 bt326.2.1 bt326.2.2.1 bt326.2.2.2.1 bt326.2.2.2.2.1 bt326.2.2.2.2.2.1 bt326.2.2.2.2.2.2.1 bt326.2.2.2.2.2.2.2.1 bt326.2.2.2.2.2.2.2.2.1 bt326.2.2.2.2.2.2.2.2.2.1 bt326.2.2.2.2.2.2.2.2.2.2).bind fun t339 => (if t339 = true then (some true) else (some false)))))))) = some r := H
    have A7 := Aside0.mk A70
    clear A70
    replace H := Option.bind_eq_some_iff.mp H
    obtain ⟨t310, A80, H⟩ := H
    replace H : ((laws_toEvent.f k a0_0 a0_1 a0_2 a0_3 a0_4 a0_5 a0_6 a0_7 a0_8 a0_9 l0_10).bind fun bt311 => ((impl_EventOk.f k bt311.1 bt311.2.1 bt311.2.2.1 bt311.2.2.2.1 bt311.2.2.2.2.1 bt311.2.2.2.2.2.1 bt311.2.2.2.2.2.2.1 bt311.2.2.2.2.2.2.2.1 bt311.2.2.2.2.2.2.2.2.1 bt311.2.2.2.2.2.2.2.2.2.1 bt311.2.2.2.2.2.2.2.2.2.2).bind fun t325 => (if (t325 != t310) = true then (some false) else ((laws_toEvent.f k a0_0 a0_1 a0_2 a0_3 a0_4 a0_5 a0_6 a0_7 a0_8 a0_9 l0_10).bind fun bt326 => ((laws_eqEvent.f k bt311.1 bt311.2.1 bt311.2.2.1 bt311.2.2.2.1 bt311.2.2.2.2.1 bt311.2.2.2.2.2.1 bt311.2.2.2.2.2.2.1 bt311.2.2.2.2.2.2.2.1 bt311.2.2.2.2.2.2.2.2.1 bt311.2.2.2.2.2.2.2.2.2.1 bt311.2.2.2.2.2.2.2.2.2.2 bt326.1 bt326.2.1 bt326.2.2.1 bt326.2.2.2.1 bt326.2.2.2.2.1 bt326.2.2.2.2.2.1 bt326.2.2.2.2.2.2.1 bt326.2.2.2.2.2.2.2.1 bt326.2.2.2.2.2.2.2.2.1 bt326.2.2.2.2.2.2.2.2.2.1 bt326.2.2.2.2.2.2.2.2.2.2).bind fun t339 => (if t339 = true then (some true) else (some false))))))) = some r := H
    have A8 := Aside0.mk A80
    clear A80
    replace H := Option.bind_eq_some_iff.mp H
    obtain ⟨⟨t311, t312, t313, t314, t315, t316, t317, t318, t319, t320, t321⟩, A90, H⟩ := H
    replace H : ((impl_EventOk.f k t311 t312 t313 t314 t315 t316 t317 t318 t319 t320 t321).bind fun t325 => (if (t325 != t310) = true then (some false) else ((laws_toEvent.f k a0_0 a0_1 a0_2 a0_3 a0_4 a0_5 a0_6 a0_7 a0_8 a0_9 l0_10).bind fun bt326 => ((laws_eqEvent.f k t311 t312 t313 t314 t315 t316 t317 t318 t319 t320 t321 bt326.1 bt326.2.1 bt326.2.2.1 bt326.2.2.2.1 bt326.2.2.2.2.1 bt326.2.2.2.2.2.1 bt326.2.2.2.2.2.2.1 bt326.2.2.2.2.2.2.2.1 bt326.2.2.2.2.2.2.2.2.1 bt326.2.2.2.2.2.2.2.2.2.1 bt326.2.2.2.2.2.2.2.2.2.2).bind fun t339 => (if t339 = true then (some true) else (some false)))))) = some r := H
    have A9 := Aside0.mk A90
    clear A90
    replace H := Option.bind_eq_some_iff.mp H
    obtain ⟨t325, A100, H⟩ := H
    replace H : (if (t325 != t310) = true then (some false) else ((laws_toEvent.f k a0_0 a0_1 a0_2 a0_3 a0_4 a0_5 a0_6 a0_7 a0_8 a0_9 l0_10).bind fun bt326 => ((laws_eqEvent.f k t311 t312 t313 t314 t315 t316 t317 t318 t319 t320 t321 bt326.1 bt326.2.1 bt326.2.2.1 bt326.2.2.2.1 bt326.2.2.2.2.1 bt326.2.2.2.2.2.1 bt326.2.2.2.2.2.2.1 bt326.2.2.2.2.2.2.2.1 bt326.2.2.2.2.2.2.2.2.1 bt326.2.2.2.2.2.2.2.2.2.1 bt326.2.2.2.2.2.2.2.2.2.2).bind fun t339 => (if t339 = true then (some true) else (some false))))) = some r := H
    have A10 := Aside0.mk A100
    clear A100
    by_cases c11 : (t325 != t310) = true
    · rw [if_pos c11] at H
      have c11b0 : (t325 != t310) = true := c11
      (try (have c11b1 : decide (t325 = t310) = false := by simpa using c11))
      (try (have c11b2 : (t325 == t310) = false := by simpa using c11))
      (try (have c11b3 : ¬ (t325 = t310) := by simpa using c11))
      clear c11
      exact absurd ((Option.some.inj H).trans hr_.out) (by decide)
    · rw [if_neg c11] at H
      have c11b0 : (t325 != t310) = false := by simpa using c11
      (try (have c11b1 : decide (t325 = t310) = true := by simpa using c11))
      (try (have c11b2 : (t325 == t310) = true := by simpa using c11))
      clear c11
      replace H := Option.bind_eq_some_iff.mp H
      obtain ⟨⟨t326, t327, t328, t329, t330, t331, t332, t333, t334, t335, t336⟩, A120, H⟩ := H
      replace H : ((laws_eqEvent.f k t311 t312 t313 t314 t315 t316 t317 t318 t319 t320 t321 t326 t327 t328 t329 t330 t331 t332 t333 t334 t335 t336).bind fun t339 => (if t339 = true then (some true) else (some false))) = some r := H
      have A12 := Aside0.mk A120
      clear A120
      replace H := Option.bind_eq_some_iff.mp H
      obtain ⟨t339, A130, H⟩ := H
      replace H : (if t339 = true then (some true) else (some false)) = some r := H
      have A13 := Aside0.mk A130
      clear A130
      by_cases c14 : t339 = true
      · subst c14
        have H1 : (some true) = some r := by rw [if_pos rfl] at H; exact H
        clear H
        have H := H1
        clear H1
        obtain rfl := Option.some.inj H
        go_enter Tryd.func5, Tryd.ntmps5
        try go_wp2_with (first | ((with_reducible refine gate_dst (N := 1) rfl ?_); refine BX 1 #[.int .i64 a0_0, .int .i64 a0_1, .int .i64 a0_2, .string a0_3, .string a0_4, .string a0_5, .int .i64 a0_6, .int .i64 a0_7, .int .i64 a0_8, .bool a0_9, .slice A0_10 l0_10.length c0_10] 38 ?_; intro gb295 hg w15 hbox hb; have BK295 := Aside0.mk (hbox); have GW295 : Aside0 (w.heap.size ≤ gb295) := WG hg (BB HB.out); have GE295 := GW295; replace HB := Aside0.mk (below_step (BB HB.out) hb); clear hb hbox hg; have hcz16 := blk_cell BK295.out; have hfz16 := blk_frozen BK295.out) | ((with_reducible refine gate_callee (f := 16) rfl ?_); refine GL (some 9) rfl rfl Tryd.func16 #[.agg #[.int .i64 a0_0, .int .i64 a0_1, .int .i64 a0_2, .string a0_3, .string a0_4, .string a0_5, .int .i64 a0_6, .int .i64 a0_7, .int .i64 a0_8, .bool a0_9, .slice A0_10 l0_10.length c0_10], .int .i64 1048576] rfl ?_; (with_reducible refine (laws_szEvent.calls a0_0 a0_1 a0_2 a0_3 a0_4 a0_5 a0_6 a0_7 a0_8 a0_9 _ _ l0_10 1048576 t296 _ ?side1 ?side2 A2.out).mono ?_); (case side1 => exact CC (Kd.C_below HR0_10.out HB.out)); (case side2 => exact HC0_10.out); rintro e w17 ⟨rfl, hb⟩; refine ⟨_, rfl, ?_⟩; replace BK295 := Aside0.mk (KB BK295.out hb); replace HB := Aside0.mk (below_step (BB1 HB.out GE295.out) hb); (try clear hb); have hcz18 := blk_cell BK295.out; have hfz18 := blk_frozen BK295.out) | ((with_reducible refine gate_callee (f := 18) rfl ?_); refine GL (some 13) rfl rfl Tryd.func18 #[.agg #[.int .i64 a0_0, .int .i64 a0_1, .int .i64 a0_2, .string a0_3, .string a0_4, .string a0_5, .int .i64 a0_6, .int .i64 a0_7, .int .i64 a0_8, .bool a0_9, .slice A0_10 l0_10.length c0_10]] rfl ?_; (with_reducible refine (laws_toEvent.calls k a0_0 a0_1 a0_2 a0_3 a0_4 a0_5 a0_6 a0_7 a0_8 a0_9 _ _ l0_10 t297 t298 t299 t300 t301 t302 t303 t304 t305 t306 t307 _ ?side1 ?side2 A7.out).mono ?_); (case side1 => exact CC (Kd.C_below HR0_10.out HB.out)); (case side2 => exact HC0_10.out); rintro e w19 ⟨v308, rfl, ho0, hb⟩; refine ⟨_, rfl, ?_⟩; have HO309 := Aside0.mk (Kd.R_lower ho0 (below_size (BB1 HB.out GE295.out))); replace BK295 := Aside0.mk (KB BK295.out hb); replace HB := Aside0.mk (below_step (BB1 HB.out GE295.out) hb); (try clear hb); (try clear ho0); obtain ⟨Ao20, co20, eo20⟩ := Kd.R_slice HO309.out; subst eo20) | ((with_reducible refine gate_callee (f := 17) rfl ?_); refine GL (some 14) rfl rfl Tryd.func17 #[.agg #[.int .i64 t297, .int .i64 t298, .int .i64 t299, .string t300, .string t301, .string t302, .int .i64 t303, .int .i64 t304, .int .i64 t305, .bool t306, .slice Ao20 t307.length co20]] rfl ?_; (with_reducible refine (spec_EventOk.calls k t297 t298 t299 t300 t301 t302 t303 t304 t305 t306 _ _ t307 t310 _ ?side1 ?side2 A8.out).mono ?_); (case side1 => exact CC (Kd.R_reads' HO309.out).2.2); (case side2 => exact (Kd.R_reads' HO309.out).2.1); rintro e w21 ⟨rfl, hb⟩; refine ⟨_, rfl, ?_⟩; replace HO309 := Aside0.mk (Kd.R_below (RR HO309.out) hb); replace BK295 := Aside0.mk (KB BK295.out hb); replace HB := Aside0.mk (below_step (BB1 HB.out GE295.out) hb); (try clear hb); have hcz22 := blk_cell BK295.out; have hfz22 := blk_frozen BK295.out) | ((with_reducible refine gate_callee (f := 18) rfl ?_); refine GL (some 16) rfl rfl Tryd.func18 #[.agg #[.int .i64 a0_0, .int .i64 a0_1, .int .i64 a0_2, .string a0_3, .string a0_4, .string a0_5, .int .i64 a0_6, .int .i64 a0_7, .int .i64 a0_8, .bool a0_9, .slice A0_10 l0_10.length c0_10]] rfl ?_; (with_reducible refine (laws_toEvent.calls k a0_0 a0_1 a0_2 a0_3 a0_4 a0_5 a0_6 a0_7 a0_8 a0_9 _ _ l0_10 t311 t312 t313 t314 t315 t316 t317 t318 t319 t320 t321 _ ?side1 ?side2 A9.out).mono ?_); (case side1 => exact CC (Kd.C_below HR0_10.out HB.out)); (case side2 => exact HC0_10.out); rintro e w23 ⟨v322, rfl, ho0, hb⟩; refine ⟨_, rfl, ?_⟩; have HO323 := Aside0.mk (Kd.R_lower (Kd.R_new' ho0 (Kd.R_lt (RR HO309.out))) (below_size (BB1 HB.out GE295.out))); replace HO309 := Aside0.mk (Kd.R_elder' (RR HO309.out) (Kd.R_base ho0) hb); replace BK295 := Aside0.mk (KB BK295.out hb); replace HB := Aside0.mk (below_step (BB1 HB.out GE295.out) hb); (try clear hb); (try clear ho0)) | ((with_reducible refine gate_dst (N := 5) rfl ?_); refine BX 5 #[.int .i64 0, .int .i64 0, .int .i64 0, .string (⟨#[]⟩ : ByteArray), .string (⟨#[]⟩ : ByteArray), .string (⟨#[]⟩ : ByteArray), .int .i64 0, .int .i64 0, .int .i64 0, .bool false, .slice none 0 0] 42 ?_; intro gb324 hg w24 hbox hb; have BK324 := Aside0.mk (hbox); have GW324 : Aside0 (w.heap.size ≤ gb324) := WG hg (BB1 HB.out GE295.out); have GE324 := GW324; have NB295_324 := NL BK295.out hg; have NB324_295 := NG BK295.out hg; replace HO309 := Aside0.mk (Kd.R_below (RR HO309.out) hb); replace HO323 := Aside0.mk (Kd.R_below (RR HO323.out) hb); replace BK295 := Aside0.mk (KB BK295.out hb); replace HB := Aside0.mk (below_step (BB1 HB.out GE295.out) hb); clear hb hbox hg; have hnb25 := NB324_295.out; have hnc25 := NB295_324.out; have hcz26 := blk_cell BK324.out; have hfz26 := blk_frozen BK324.out; obtain ⟨Ao27, co27, eo27⟩ := Kd.R_slice HO323.out; subst eo27) | ((with_reducible refine gate_callee (f := 19) rfl ?_); refine GL (some 18) rfl rfl Tryd.func19 #[.agg #[.int .i64 t311, .int .i64 t312, .int .i64 t313, .string t314, .string t315, .string t316, .int .i64 t317, .int .i64 t318, .int .i64 t319, .bool t320, .slice Ao27 t321.length co27]] rfl ?_; (with_reducible refine (impl_EventOk.calls k t311 t312 t313 t314 t315 t316 t317 t318 t319 t320 _ _ t321 t325 _ ?side1 ?side2 A10.out).mono ?_); (case side1 => refine (Kd.R_reads' (e := 3) (base := w.heap.size) (ok := fun k_ => (True ∧ some k_ ≠ (.slice Ao20 t307.length co20 : Value).ownBlock)) (n := t321.length) (c := co27) ?_).2.2; exact (by (with_reducible repeat (first | apply Kd.R_alloc | apply Kd.R_drewN | apply Kd.R_drew)); exact (Kd.R_mono (Kd.R_far (p := ⟨gb324, 10, none⟩) (Kd.R_far (p := ⟨gb324, 9, none⟩) (Kd.R_far (p := ⟨gb324, 8, none⟩) (Kd.R_far (p := ⟨gb324, 7, none⟩) (Kd.R_far (p := ⟨gb324, 6, none⟩) (Kd.R_far (p := ⟨gb324, 5, none⟩) (Kd.R_far (p := ⟨gb324, 4, none⟩) (Kd.R_far (p := ⟨gb324, 3, none⟩) (Kd.R_far (p := ⟨gb324, 2, none⟩) (Kd.R_far (p := ⟨gb324, 1, none⟩) (Kd.R_far (p := ⟨gb324, 0, none⟩) (Kd.R_types HO323.out BK324.out (by decide)) (fun _ hk => hk.2) (.int .i64 t311)) (fun _ hk => hk.2) (.int .i64 t312)) (fun _ hk => hk.2) (.int .i64 t313)) (fun _ hk => hk.2) (.string t314)) (fun _ hk => hk.2) (.string t315)) (fun _ hk => hk.2) (.string t316)) (fun _ hk => hk.2) (.int .i64 t317)) (fun _ hk => hk.2) (.int .i64 t318)) (fun _ hk => hk.2) (.int .i64 t319)) (fun _ hk => hk.2) (.bool t320)) (fun _ hk => hk.2) (.slice Ao27 t321.length co27)) (fun _ h_ => h_.1)))); (case side2 => exact (Kd.R_reads' HO323.out).2.1); rintro e w28 ⟨rfl, hb⟩; refine ⟨_, rfl, ?_⟩; have n0_ := Aside0.mk (Kd.R_below (by (with_reducible repeat (first | apply Kd.R_alloc | apply Kd.R_drewN | apply Kd.R_drew)); exact (Kd.R_mono (Kd.R_far (p := ⟨gb324, 10, none⟩) (Kd.R_far (p := ⟨gb324, 9, none⟩) (Kd.R_far (p := ⟨gb324, 8, none⟩) (Kd.R_far (p := ⟨gb324, 7, none⟩) (Kd.R_far (p := ⟨gb324, 6, none⟩) (Kd.R_far (p := ⟨gb324, 5, none⟩) (Kd.R_far (p := ⟨gb324, 4, none⟩) (Kd.R_far (p := ⟨gb324, 3, none⟩) (Kd.R_far (p := ⟨gb324, 2, none⟩) (Kd.R_far (p := ⟨gb324, 1, none⟩) (Kd.R_far (p := ⟨gb324, 0, none⟩) (Kd.R_types HO309.out BK324.out (by decide)) (fun _ hk => hk.2) (.int .i64 t311)) (fun _ hk => hk.2) (.int .i64 t312)) (fun _ hk => hk.2) (.int .i64 t313)) (fun _ hk => hk.2) (.string t314)) (fun _ hk => hk.2) (.string t315)) (fun _ hk => hk.2) (.string t316)) (fun _ hk => hk.2) (.int .i64 t317)) (fun _ hk => hk.2) (.int .i64 t318)) (fun _ hk => hk.2) (.int .i64 t319)) (fun _ hk => hk.2) (.bool t320)) (fun _ hk => hk.2) (.slice Ao27 t321.length co27)) (fun _ h_ => h_.1))) hb); have n1_ := Aside0.mk (Kd.R_below (by (with_reducible repeat (first | apply Kd.R_alloc | apply Kd.R_drewN | apply Kd.R_drew)); exact (Kd.R_mono (Kd.R_far (p := ⟨gb324, 10, none⟩) (Kd.R_far (p := ⟨gb324, 9, none⟩) (Kd.R_far (p := ⟨gb324, 8, none⟩) (Kd.R_far (p := ⟨gb324, 7, none⟩) (Kd.R_far (p := ⟨gb324, 6, none⟩) (Kd.R_far (p := ⟨gb324, 5, none⟩) (Kd.R_far (p := ⟨gb324, 4, none⟩) (Kd.R_far (p := ⟨gb324, 3, none⟩) (Kd.R_far (p := ⟨gb324, 2, none⟩) (Kd.R_far (p := ⟨gb324, 1, none⟩) (Kd.R_far (p := ⟨gb324, 0, none⟩) (Kd.R_types HO323.out BK324.out (by decide)) (fun _ hk => hk.2) (.int .i64 t311)) (fun _ hk => hk.2) (.int .i64 t312)) (fun _ hk => hk.2) (.int .i64 t313)) (fun _ hk => hk.2) (.string t314)) (fun _ hk => hk.2) (.string t315)) (fun _ hk => hk.2) (.string t316)) (fun _ hk => hk.2) (.int .i64 t317)) (fun _ hk => hk.2) (.int .i64 t318)) (fun _ hk => hk.2) (.int .i64 t319)) (fun _ hk => hk.2) (.bool t320)) (fun _ hk => hk.2) (.slice Ao27 t321.length co27)) (fun _ h_ => h_.1))) hb); have n2_ := Aside0.mk (blk_below (g := gb295) (o := .cells #[.int .i64 a0_0, .int .i64 a0_1, .int .i64 a0_2, .string a0_3, .string a0_4, .string a0_5, .int .i64 a0_6, .int .i64 a0_7, .int .i64 a0_8, .bool a0_9, .slice A0_10 l0_10.length c0_10] 38 (0, 0)) (by (with_reducible repeat (first | refine blk_drewN ?_ _ | refine blk_drew ?_ | refine blk_alloc ?_ _)); refine blk_far ?_ NB295_324.out _; (with_reducible repeat (first | refine blk_drewN ?_ _ | refine blk_drew ?_ | refine blk_alloc ?_ _)); refine blk_far ?_ NB295_324.out _; (with_reducible repeat (first | refine blk_drewN ?_ _ | refine blk_drew ?_ | refine blk_alloc ?_ _)); refine blk_far ?_ NB295_324.out _; (with_reducible repeat (first | refine blk_drewN ?_ _ | refine blk_drew ?_ | refine blk_alloc ?_ _)); refine blk_far ?_ NB295_324.out _; (with_reducible repeat (first | refine blk_drewN ?_ _ | refine blk_drew ?_ | refine blk_alloc ?_ _)); refine blk_far ?_ NB295_324.out _; (with_reducible repeat (first | refine blk_drewN ?_ _ | refine blk_drew ?_ | refine blk_alloc ?_ _)); refine blk_far ?_ NB295_324.out _; (with_reducible repeat (first | refine blk_drewN ?_ _ | refine blk_drew ?_ | refine blk_alloc ?_ _)); refine blk_far ?_ NB295_324.out _; (with_reducible repeat (first | refine blk_drewN ?_ _ | refine blk_drew ?_ | refine blk_alloc ?_ _)); refine blk_far ?_ NB295_324.out _; (with_reducible repeat (first | refine blk_drewN ?_ _ | refine blk_drew ?_ | refine blk_alloc ?_ _)); refine blk_far ?_ NB295_324.out _; (with_reducible repeat (first | refine blk_drewN ?_ _ | refine blk_drew ?_ | refine blk_alloc ?_ _)); refine blk_far ?_ NB295_324.out _; (with_reducible repeat (first | refine blk_drewN ?_ _ | refine blk_drew ?_ | refine blk_alloc ?_ _)); refine blk_far ?_ NB295_324.out _; (with_reducible repeat (first | refine blk_drewN ?_ _ | refine blk_drew ?_ | refine blk_alloc ?_ _)); exact BK295.out) hb); have n3_ := Aside0.mk (blk_below (g := gb324) (o := .cells #[.int .i64 t311, .int .i64 t312, .int .i64 t313, .string t314, .string t315, .string t316, .int .i64 t317, .int .i64 t318, .int .i64 t319, .bool t320, .slice Ao27 t321.length co27] 42 (0, 0)) (by (with_reducible repeat (first | refine blk_drewN ?_ _ | refine blk_drew ?_ | refine blk_alloc ?_ _)); refine blk_put (cs := #[.int .i64 t311, .int .i64 t312, .int .i64 t313, .string t314, .string t315, .string t316, .int .i64 t317, .int .i64 t318, .int .i64 t319, .bool t320, .slice none 0 0]) ?_ 10 _ rfl; (with_reducible repeat (first | refine blk_drewN ?_ _ | refine blk_drew ?_ | refine blk_alloc ?_ _)); refine blk_put (cs := #[.int .i64 t311, .int .i64 t312, .int .i64 t313, .string t314, .string t315, .string t316, .int .i64 t317, .int .i64 t318, .int .i64 t319, .bool false, .slice none 0 0]) ?_ 9 _ rfl; (with_reducible repeat (first | refine blk_drewN ?_ _ | refine blk_drew ?_ | refine blk_alloc ?_ _)); refine blk_put (cs := #[.int .i64 t311, .int .i64 t312, .int .i64 t313, .string t314, .string t315, .string t316, .int .i64 t317, .int .i64 t318, .int .i64 0, .bool false, .slice none 0 0]) ?_ 8 _ rfl; (with_reducible repeat (first | refine blk_drewN ?_ _ | refine blk_drew ?_ | refine blk_alloc ?_ _)); refine blk_put (cs := #[.int .i64 t311, .int .i64 t312, .int .i64 t313, .string t314, .string t315, .string t316, .int .i64 t317, .int .i64 0, .int .i64 0, .bool false, .slice none 0 0]) ?_ 7 _ rfl; (with_reducible repeat (first | refine blk_drewN ?_ _ | refine blk_drew ?_ | refine blk_alloc ?_ _)); refine blk_put (cs := #[.int .i64 t311, .int .i64 t312, .int .i64 t313, .string t314, .string t315, .string t316, .int .i64 0, .int .i64 0, .int .i64 0, .bool false, .slice none 0 0]) ?_ 6 _ rfl; (with_reducible repeat (first | refine blk_drewN ?_ _ | refine blk_drew ?_ | refine blk_alloc ?_ _)); refine blk_put (cs := #[.int .i64 t311, .int .i64 t312, .int .i64 t313, .string t314, .string t315, .string (⟨#[]⟩ : ByteArray), .int .i64 0, .int .i64 0, .int .i64 0, .bool false, .slice none 0 0]) ?_ 5 _ rfl; (with_reducible repeat (first | refine blk_drewN ?_ _ | refine blk_drew ?_ | refine blk_alloc ?_ _)); refine blk_put (cs := #[.int .i64 t311, .int .i64 t312, .int .i64 t313, .string t314, .string (⟨#[]⟩ : ByteArray), .string (⟨#[]⟩ : ByteArray), .int .i64 0, .int .i64 0, .int .i64 0, .bool false, .slice none 0 0]) ?_ 4 _ rfl; (with_reducible repeat (first | refine blk_drewN ?_ _ | refine blk_drew ?_ | refine blk_alloc ?_ _)); refine blk_put (cs := #[.int .i64 t311, .int .i64 t312, .int .i64 t313, .string (⟨#[]⟩ : ByteArray), .string (⟨#[]⟩ : ByteArray), .string (⟨#[]⟩ : ByteArray), .int .i64 0, .int .i64 0, .int .i64 0, .bool false, .slice none 0 0]) ?_ 3 _ rfl; (with_reducible repeat (first | refine blk_drewN ?_ _ | refine blk_drew ?_ | refine blk_alloc ?_ _)); refine blk_put (cs := #[.int .i64 t311, .int .i64 t312, .int .i64 0, .string (⟨#[]⟩ : ByteArray), .string (⟨#[]⟩ : ByteArray), .string (⟨#[]⟩ : ByteArray), .int .i64 0, .int .i64 0, .int .i64 0, .bool false, .slice none 0 0]) ?_ 2 _ rfl; (with_reducible repeat (first | refine blk_drewN ?_ _ | refine blk_drew ?_ | refine blk_alloc ?_ _)); refine blk_put (cs := #[.int .i64 t311, .int .i64 0, .int .i64 0, .string (⟨#[]⟩ : ByteArray), .string (⟨#[]⟩ : ByteArray), .string (⟨#[]⟩ : ByteArray), .int .i64 0, .int .i64 0, .int .i64 0, .bool false, .slice none 0 0]) ?_ 1 _ rfl; (with_reducible repeat (first | refine blk_drewN ?_ _ | refine blk_drew ?_ | refine blk_alloc ?_ _)); refine blk_put (cs := #[.int .i64 0, .int .i64 0, .int .i64 0, .string (⟨#[]⟩ : ByteArray), .string (⟨#[]⟩ : ByteArray), .string (⟨#[]⟩ : ByteArray), .int .i64 0, .int .i64 0, .int .i64 0, .bool false, .slice none 0 0]) ?_ 0 _ rfl; (with_reducible repeat (first | refine blk_drewN ?_ _ | refine blk_drew ?_ | refine blk_alloc ?_ _)); exact BK324.out) hb); have n4_ := Aside0.mk (below_step (BB2 HB.out GE295.out GE324.out) hb); clear HO309; clear HO323; clear BK295; clear BK324; clear HB; have HO309 := n0_; have HO323 := n1_; have BK295 := n2_; have BK324 := n3_; have HB := n4_; clear n0_ n1_ n2_ n3_ n4_; (try clear hb)))
        have n0_ := Aside0.mk (Kd.R_drew HO309.out)
        have n1_ := Aside0.mk (Kd.R_drew HO323.out)
        have n2_ := Aside0.mk (blk_drew BK295.out)
        have n3_ := Aside0.mk (blk_drew BK324.out)
        have n4_ := Aside0.mk (below_drew1 HB.out)
        clear HO309
        clear HO323
        clear BK295
        clear BK324
        clear HB
        have HO309 := n0_
        have HO323 := n1_
        have BK295 := n2_
        have BK324 := n3_
        have HB := n4_
        clear n0_ n1_ n2_ n3_ n4_
        refine start_ (n := 5) (S := fun w' => w'.cell? ⟨gb324, 0, none⟩ = some (.int .i64 t311) ∧ w'.cell? ⟨gb324, 1, none⟩ = some (.int .i64 t312) ∧ w'.cell? ⟨gb324, 2, none⟩ = some (.int .i64 t313) ∧ w'.cell? ⟨gb324, 3, none⟩ = some (.string t314) ∧ w'.cell? ⟨gb324, 4, none⟩ = some (.string t315) ∧ w'.cell? ⟨gb324, 5, none⟩ = some (.string t316) ∧ w'.cell? ⟨gb324, 6, none⟩ = some (.int .i64 t317) ∧ w'.cell? ⟨gb324, 7, none⟩ = some (.int .i64 t318) ∧ w'.cell? ⟨gb324, 8, none⟩ = some (.int .i64 t319) ∧ w'.cell? ⟨gb324, 9, none⟩ = some (.bool t320) ∧ w'.cell? ⟨gb324, 10, none⟩ = some (.slice Ao27 t321.length co27) ∧ w'.cell? ⟨gb295, 0, none⟩ = some (.int .i64 a0_0) ∧ w'.cell? ⟨gb295, 1, none⟩ = some (.int .i64 a0_1) ∧ w'.cell? ⟨gb295, 2, none⟩ = some (.int .i64 a0_2) ∧ w'.cell? ⟨gb295, 3, none⟩ = some (.string a0_3) ∧ w'.cell? ⟨gb295, 4, none⟩ = some (.string a0_4) ∧ w'.cell? ⟨gb295, 5, none⟩ = some (.string a0_5) ∧ w'.cell? ⟨gb295, 6, none⟩ = some (.int .i64 a0_6) ∧ w'.cell? ⟨gb295, 7, none⟩ = some (.int .i64 a0_7) ∧ w'.cell? ⟨gb295, 8, none⟩ = some (.int .i64 a0_8) ∧ w'.cell? ⟨gb295, 9, none⟩ = some (.bool a0_9) ∧ w'.cell? ⟨gb295, 10, none⟩ = some (.slice A0_10 l0_10.length c0_10)) (ds := []) #[false, false, false, false, false] (by kernel_rfl) rfl rfl ⟨(blk_cell BK324.out 0).trans rfl, (blk_cell BK324.out 1).trans rfl, (blk_cell BK324.out 2).trans rfl, (blk_cell BK324.out 3).trans rfl, (blk_cell BK324.out 4).trans rfl, (blk_cell BK324.out 5).trans rfl, (blk_cell BK324.out 6).trans rfl, (blk_cell BK324.out 7).trans rfl, (blk_cell BK324.out 8).trans rfl, (blk_cell BK324.out 9).trans rfl, (blk_cell BK324.out 10).trans rfl, (blk_cell BK295.out 0).trans rfl, (blk_cell BK295.out 1).trans rfl, (blk_cell BK295.out 2).trans rfl, (blk_cell BK295.out 3).trans rfl, (blk_cell BK295.out 4).trans rfl, (blk_cell BK295.out 5).trans rfl, (blk_cell BK295.out 6).trans rfl, (blk_cell BK295.out 7).trans rfl, (blk_cell BK295.out 8).trans rfl, (blk_cell BK295.out 9).trans rfl, (blk_cell BK295.out 10).trans rfl⟩ (fun hHeld => ?_)
        generalize w28.drew = w29 at HO309 HO323 BK295 BK324 HB hHeld ⊢
        refine take_ (i := 0) (N := some 22) (v := ?_) (a' := ?_) #[true, false, false, false, false] rfl rfl (by kernel_rfl) (fun _ _ _ h => h) (Or.inl ⟨by rfl, ?_⟩) hHeld ?_ ?_
        rotate_left
        · rintro w' ⟨s0, s1, s2, s3, s4, s5, s6, s7, s8, s9, s10, s11, s12, s13, s14, s15, s16, s17, s18, s19, s20, s21⟩
          go_simp
          with_reducible rfl
        rotate_left
        · simp only [Act.put, List.setIfInBounds_toArray, List.set_cons_zero, List.set_cons_succ, i64_w, i32_w]
          rfl
        refine take_ (i := 1) (N := some 23) (v := ?_) (a' := ?_) #[true, true, false, false, false] rfl rfl (by kernel_rfl) (fun _ _ _ h => h) (Or.inl ⟨by rfl, ?_⟩) hHeld ?_ ?_
        rotate_left
        · rintro w' ⟨s0, s1, s2, s3, s4, s5, s6, s7, s8, s9, s10, s11, s12, s13, s14, s15, s16, s17, s18, s19, s20, s21⟩
          go_simp
          with_reducible rfl
        rotate_left
        · simp only [Act.put, List.setIfInBounds_toArray, List.set_cons_zero, List.set_cons_succ, i64_w, i32_w]
          rfl
        refine one_ (i := 2) (N := some 24) #[true, true, true, false, false] rfl rfl (by kernel_rfl) (by decide) (fun K hK => ?_)
        refine goes_ Tryd.func18 (by kernel_rfl) rfl #[.agg #[.int .i64 a0_0, .int .i64 a0_1, .int .i64 a0_2, .string a0_3, .string a0_4, .string a0_5, .int .i64 a0_6, .int .i64 a0_7, .int .i64 a0_8, .bool a0_9, .slice A0_10 l0_10.length c0_10]] (by rfl) rfl rfl (by (try simp only [List.map_toArray, List.map_cons, List.map_nil]); first | done | rfl | (simp only [List.length_drop, List.length_take]; rfl)) ?_
        with_reducible refine (laws_toEvent.calls k a0_0 a0_1 a0_2 a0_3 a0_4 a0_5 a0_6 a0_7 a0_8 a0_9 _ _ l0_10 t326 t327 t328 t329 t330 t331 t332 t333 t334 t335 t336 _ ?side1 ?side2 A12.out).mono ?_
        (case side1 => exact CC (Kd.C_below HR0_10.out HB.out))
        (case side2 => exact HC0_10.out)
        rintro e w30 ⟨v337, rfl, ho0, hb⟩
        refine ⟨_, rfl, ?_⟩
        have n0_ := Aside0.mk (Kd.R_elder' (RR HO309.out) (Kd.R_base ho0) hb)
        have n1_ := Aside0.mk (Kd.R_elder' (RR HO323.out) (Kd.R_base ho0) hb)
        have n2_ := Aside0.mk (Kd.R_lower (Kd.R_new' (Kd.R_new' ho0 (Kd.R_lt (RR HO309.out))) (Kd.R_lt (RR HO323.out))) (below_size (BB2 HB.out GE295.out GE324.out)))
        have n3_ := Aside0.mk (KB BK295.out hb)
        have n4_ := Aside0.mk (KB BK324.out hb)
        have n5_ := Aside0.mk (below_step (BB2 HB.out GE295.out GE324.out) hb)
        clear HO309
        clear HO323
        clear BK295
        clear BK324
        clear HB
        have HO309 := n0_
        have HO323 := n1_
        have HO338 := n2_
        have BK295 := n3_
        have BK324 := n4_
        have HB := n5_
        clear n0_ n1_ n2_ n3_ n4_ n5_
        (try clear hb)
        (try clear hb2)
        (try clear hk)
        (try clear hi)
        (try clear ho0)
        obtain ⟨Ao31, co31, eo31⟩ := Kd.R_slice HO338.out
        (first | subst eo31 | (injection eo31 with f1_ f2_ f3_; have f4_ := f1_.symm; have f5_ := f3_.symm; clear f1_ f2_ f3_; subst f4_; subst f5_))
        refine hK.out _ _ ⟨(blk_cell BK324.out 0).trans rfl, (blk_cell BK324.out 1).trans rfl, (blk_cell BK324.out 2).trans rfl, (blk_cell BK324.out 3).trans rfl, (blk_cell BK324.out 4).trans rfl, (blk_cell BK324.out 5).trans rfl, (blk_cell BK324.out 6).trans rfl, (blk_cell BK324.out 7).trans rfl, (blk_cell BK324.out 8).trans rfl, (blk_cell BK324.out 9).trans rfl, (blk_cell BK324.out 10).trans rfl, (blk_cell BK295.out 0).trans rfl, (blk_cell BK295.out 1).trans rfl, (blk_cell BK295.out 2).trans rfl, (blk_cell BK295.out 3).trans rfl, (blk_cell BK295.out 4).trans rfl, (blk_cell BK295.out 5).trans rfl, (blk_cell BK295.out 6).trans rfl, (blk_cell BK295.out 7).trans rfl, (blk_cell BK295.out 8).trans rfl, (blk_cell BK295.out 9).trans rfl, (blk_cell BK295.out 10).trans rfl⟩ (fun hHeld => ?_)
        clear hK K
        refine norm_ (a' := ?_) ?_ ?_
        rotate_left
        · show Act.put _ (some 24) _ = _
          simp only [Act.put, List.setIfInBounds_toArray, List.set_cons_zero, List.set_cons_succ, i64_w, i32_w]
          rfl
        refine one_ (i := 3) (N := some 25) #[true, true, true, true, false] rfl rfl (by kernel_rfl) (by decide) (fun K hK => ?_)
        refine goes_ Tryd.func20 (by kernel_rfl) rfl #[.agg #[.int .i64 t311, .int .i64 t312, .int .i64 t313, .string t314, .string t315, .string t316, .int .i64 t317, .int .i64 t318, .int .i64 t319, .bool t320, .slice Ao27 t321.length co27], .agg #[.int .i64 t326, .int .i64 t327, .int .i64 t328, .string t329, .string t330, .string t331, .int .i64 t332, .int .i64 t333, .int .i64 t334, .bool t335, .slice Ao31 t336.length co31]] (by rfl) rfl rfl (by (try simp only [List.map_toArray, List.map_cons, List.map_nil]); first | done | rfl | (simp only [List.length_drop, List.length_take]; rfl)) ?_
        with_reducible refine (laws_eqEvent.calls k t311 t312 t313 t314 t315 t316 t317 t318 t319 t320 _ _ t321 t326 t327 t328 t329 t330 t331 t332 t333 t334 t335 _ _ t336 true _ ?side1 ?side2 ?side3 ?side4 A13.out).mono ?_
        (case side1 => exact CC (Kd.R_reads' HO323.out).2.2)
        (case side2 => exact (Kd.R_reads' HO323.out).2.1)
        (case side3 => exact CC (Kd.R_reads' HO338.out).2.2)
        (case side4 => exact (Kd.R_reads' HO338.out).2.1)
        rintro e w32 ⟨rfl, hb⟩
        refine ⟨_, rfl, ?_⟩
        have n0_ := Aside0.mk (Kd.R_below (RR HO309.out) hb)
        have n1_ := Aside0.mk (Kd.R_below (RR HO323.out) hb)
        have n2_ := Aside0.mk (Kd.R_below (RR HO338.out) hb)
        have n3_ := Aside0.mk (KB BK295.out hb)
        have n4_ := Aside0.mk (KB BK324.out hb)
        have n5_ := Aside0.mk (below_step (BB2 HB.out GE295.out GE324.out) hb)
        clear HO309
        clear HO323
        clear HO338
        clear BK295
        clear BK324
        clear HB
        have HO309 := n0_
        have HO323 := n1_
        have HO338 := n2_
        have BK295 := n3_
        have BK324 := n4_
        have HB := n5_
        clear n0_ n1_ n2_ n3_ n4_ n5_
        (try clear hb)
        (try clear hb2)
        (try clear hk)
        (try clear hi)
        refine hK.out _ _ ⟨(blk_cell BK324.out 0).trans rfl, (blk_cell BK324.out 1).trans rfl, (blk_cell BK324.out 2).trans rfl, (blk_cell BK324.out 3).trans rfl, (blk_cell BK324.out 4).trans rfl, (blk_cell BK324.out 5).trans rfl, (blk_cell BK324.out 6).trans rfl, (blk_cell BK324.out 7).trans rfl, (blk_cell BK324.out 8).trans rfl, (blk_cell BK324.out 9).trans rfl, (blk_cell BK324.out 10).trans rfl, (blk_cell BK295.out 0).trans rfl, (blk_cell BK295.out 1).trans rfl, (blk_cell BK295.out 2).trans rfl, (blk_cell BK295.out 3).trans rfl, (blk_cell BK295.out 4).trans rfl, (blk_cell BK295.out 5).trans rfl, (blk_cell BK295.out 6).trans rfl, (blk_cell BK295.out 7).trans rfl, (blk_cell BK295.out 8).trans rfl, (blk_cell BK295.out 9).trans rfl, (blk_cell BK295.out 10).trans rfl⟩ (fun hHeld => ?_)
        clear hK K
        refine norm_ (a' := ?_) ?_ ?_
        rotate_left
        · show Act.put _ (some 25) _ = _
          simp only [Act.put, List.setIfInBounds_toArray, List.set_cons_zero, List.set_cons_succ, i64_w, i32_w]
          rfl
        refine pure_ (i := 4) (N := some 26) (v := ?_) (a' := ?_) #[true, true, true, true, true] rfl rfl (by kernel_rfl) (fun _ _ _ h => h) (Or.inl ⟨by rfl, ?_⟩) ?_ ?_
        rotate_left
        · intro w'
          go_simp
          with_reducible rfl
        rotate_left
        · simp only [Act.put, List.setIfInBounds_toArray, List.set_cons_zero, List.set_cons_succ, i64_w, i32_w]
          rfl
        refine done_ (by kernel_rfl) ?_
        try go_wp2
        go_ret
        exact ⟨ER, (BB2 HB.out GE295.out GE324.out)⟩
      · replace c14 := Bool.eq_false_iff.mpr c14
        subst c14
        have H1 : (some false) = some r := by rw [if_neg (show ¬ (false = true) by decide)] at H; exact H
        clear H
        have H := H1
        clear H1
        exact absurd ((Option.some.inj H).trans hr_.out) (by decide)

end Go.Proofs.YtfgnaneajonapaaDoor.Pr

namespace Go.Proofs.YtfgnaneajonapaaDoor.Opn
open Go.RowKit Go.ChangeShapes Go.WideShapes Go.Deep Go.Proofs.YtfgnaneajonapaaDoorW.PrintWords
def Opens {α : Type} (P : Program) (d : Kd α) (wf : α → Prop) (t : TypeId) : Prop :=
  ∀ (H : Type) (enc : TypeId × Value → H) (w : World) (base : Nat) (spare : Nat → Bool) (held : Bool) (fuel : Nat) (cs : List Value) (x : DataW H × List MemPlace),
    DataW.trod enc P w base spare held fuel t cs = some x → ∃ v, d.K w v cs ∧ wf v

def OpensF {α : Type} (P : Program) (d : Kd α) (wf : α → Prop) (off : Nat) (fs : List Field) : Prop :=
  ∀ (H : Type) (enc : TypeId × Value → H) (w : World) (base : Nat) (spare : Nat → Bool) (held : Bool) (fuel : Nat) (cs : List Value),
    cs.length = off + d.sz → (∀ f ∈ fs, ∃ y, DataW.trod enc P w base spare held fuel f.type ((cs.drop f.offset).take (P.cellsOf f.type)) = some y) → ∃ v, d.K w v (cs.drop off) ∧ wf v

theorem opens_int {P : Program} {t : TypeId} (k : IntKind) (ht : P.underlying t = some (.int k)) : Opens P (Kd.int k) (fun n => (Lit.int k n).wf = true) t := by
  intro H enc w base spare held fuel cs x h
  obtain ⟨n, rfl, _, hw⟩ := DataW.trod_int ht h
  exact ⟨n, rfl, hw⟩
theorem opens_bool {P : Program} {t : TypeId} (ht : P.underlying t = some .bool) : Opens P Kd.bool (fun _ => True) t := by
  intro H enc w base spare held fuel cs x h
  obtain ⟨n, rfl, _⟩ := DataW.trod_bool ht h
  exact ⟨n, rfl, trivial⟩
theorem opens_string {P : Program} {t : TypeId} (ht : P.underlying t = some .string) : Opens P Kd.string (fun s => s.size ≤ maxLen) t := by
  intro H enc w base spare held fuel cs x h
  obtain ⟨s, rfl, _, hs⟩ := DataW.trod_string ht h
  exact ⟨s, rfl, hs⟩

theorem list_of_lt {α : Type} {q : Nat → α → Prop} (len : Nat) (key : ∀ i, i < len → ∃ v, q i v) : ∃ xs : List α, xs.length = len ∧ ∀ i v, xs[i]? = some v → q i v := by
  induction len with
  | zero => exact ⟨[], rfl, fun i v h => by simp at h⟩
  | succ k ih =>
    obtain ⟨xs, hxl, hx⟩ := ih (fun i hik => key i (by omega))
    obtain ⟨v, h1⟩ := key k (by omega)
    refine ⟨xs ++ [v], by simp [hxl], fun i u hu => ?_⟩
    by_cases hik : i < xs.length
    · rw [List.getElem?_append_left hik] at hu
      exact hx i u hu
    · have hil := (List.getElem?_eq_some_iff.1 hu).1
      simp at hil
      have hi' : i = k := by omega
      subst hi'
      rw [List.getElem?_append_right (by omega)] at hu
      simp [hxl] at hu
      subst hu
      exact h1

theorem opens_slice {α : Type} {P : Program} {t e : TypeId} {d : Kd α} {wf : α → Prop} (ht : P.underlying t = some (.slice e)) (hc : P.cellsOf e = d.sz) (he : Opens P d wf e) :
    Opens P (Kd.slice e d) (fun xs => xs.length ≤ maxLen ∧ ∀ x ∈ xs, wf x) t := by
  intro H enc w base spare held fuel cs x h
  rcases Go.Deep.open_slice ht h with ⟨rfl, _⟩ | ⟨a, len, cap, m, n, D, Pl, rfl, _, hl, hm, hmm, _, hi⟩
  · refine ⟨[], ⟨none, 0, rfl, Nat.le_refl _, rfl, by simp, fun h => absurd h (by simp)⟩, by simp, fun x hx => by simp at hx⟩
  · have hlm : len ≤ m := by rw [hmm]; split <;> omega
    have key : ∀ i, i < len → ∃ v c, d.K w v c ∧ wf v ∧ w.cells? base (a.add (i * P.cellsOf e)) (P.cellsOf e) = some c := by
      intro i hil
      obtain ⟨c, h1, h2⟩ := hi i (by omega)
      obtain ⟨v, hk, hw⟩ := he _ _ _ _ _ _ _ _ _ h2
      exact ⟨v, c, hk, hw, h1⟩
    have this := list_of_lt (q := fun i v => ∃ c, d.K w v c ∧ wf v ∧ w.cells? base (a.add (i * P.cellsOf e)) (P.cellsOf e) = some c) len key
    obtain ⟨xs, hxl, hx⟩ := this
    refine ⟨xs, ⟨some a, cap, by rw [hxl], by omega, ?_⟩, by rw [hxl]; omega, ?_⟩
    · refine ⟨rfl, by unfold maxLen at hm; omega, fun _ => ⟨a, rfl, fun j p hj => ?_⟩⟩
      obtain ⟨c, h1, h2, h3⟩ := hx j p hj
      obtain ⟨_, hcl, hat⟩ := World.cells?_some h3
      refine ⟨c, by rw [hcl, hc], h1, fun i u hu => ?_⟩
      have hil : i < P.cellsOf e := by rw [← hcl]; exact (List.getElem?_eq_some_iff.1 hu).1
      rw [← Go.Deep.add_add, ← hc, hat i hil, hu]
    · intro y hy
      obtain ⟨i, hi⟩ := List.mem_iff_getElem?.1 hy
      obtain ⟨c, _, h2, _⟩ := hx i y hi
      exact h2

theorem opensF_one {α : Type} {P : Program} {d : Kd α} {wf : α → Prop} {f : Field} {off : Nat} (h : Opens P d wf f.type) (ho : f.offset = off) (hc : P.cellsOf f.type = d.sz) : OpensF P d wf off [f] := by
  intro H enc w base spare held fuel cs hl hf
  obtain ⟨y, hy⟩ := hf f (by simp)
  rw [ho, hc, List.take_of_length_le (by simp; omega)] at hy
  exact h _ _ _ _ _ _ _ _ _ hy
theorem opensF_cons {α β : Type} {P : Program} {a : Kd α} {b : Kd β} {wa : α → Prop} {wb : β → Prop} {f : Field} {fs : List Field} {off : Nat} (h : Opens P a wa f.type) (ho : f.offset = off) (hc : P.cellsOf f.type = a.sz)
    (ht : OpensF P b wb (off + a.sz) fs) : OpensF P (Kd.pair a b) (fun x => wa x.1 ∧ wb x.2) off (f :: fs) := by
  intro H enc w base spare held fuel cs hl hf
  have hsz : (Kd.pair a b).sz = a.sz + b.sz := rfl
  obtain ⟨y, hy⟩ := hf f (by simp)
  rw [ho, hc] at hy
  obtain ⟨v, hv, hw⟩ := h _ _ _ _ _ _ _ _ _ hy
  obtain ⟨u, hu, hw'⟩ := ht H enc w base spare held fuel cs (by rw [hl, hsz]; omega) (fun g hg => hf g (by simp [hg]))
  refine ⟨(v, u), ⟨_, _, ?_, hv, hu⟩, hw, hw'⟩
  rw [← List.drop_drop, List.take_append_drop]
theorem opens_struct {α : Type} {P : Program} {t : TypeId} {d : Kd α} {wf : α → Prop} {fs : Array Field} (ht : P.underlying t = some (.struct fs)) (hc : P.cellsOf t = d.sz) (h : OpensF P d wf 0 fs.toList) : Opens P d wf t := by
  intro H enc w base spare held fuel cs x hx
  obtain ⟨xs, n, _, _, hlen, hxl, hf⟩ := DataW.trod_struct ht hx
  obtain ⟨v, hv, hw⟩ := h H enc w base spare held n cs (by rw [hlen, hc]; simp) (fun f hfm => by
    obtain ⟨i, hi⟩ := List.mem_iff_getElem?.1 hfm
    have hi' : fs[i]? = some f := by simpa using hi
    have hil : i < xs.length := by rw [hxl]; exact (Array.getElem?_eq_some_iff.1 hi').1
    exact ⟨xs[i], by rw [hf i f hi', List.getElem?_eq_getElem hil]⟩)
  exact ⟨v, by simpa using hv, hw⟩
theorem opens_iso {α β : Type} {P : Program} {t : TypeId} {d : Kd α} {wf : α → Prop} (h : Opens P d wf t) (f : β → α) (g : α → β) (e : ∀ x, f (g x) = x) : Opens P (Kd.iso d f) (fun y => wf (f y)) t := by
  intro H enc w base spare held fuel cs x hx
  obtain ⟨v, hv, hw⟩ := h _ _ _ _ _ _ _ _ _ hx
  refine ⟨g v, ?_, ?_⟩
  · show d.K w (f (g v)) cs
    rw [e]
    exact hv
  · show wf (f (g v))
    rw [e]
    exact hw

theorem arg_struct {α : Type} {P : Program} {t : TypeId} {d : Kd α} {wf : α → Prop} (h : Opens P d wf t) {H : Type} {enc : TypeId × Value → H} {w : World} {base : Nat} {spare : Nat → Bool} {held : Bool}
    {cs : Array Value} {x : DataW H} {p : List MemPlace} (hx : DataW.Trod enc P w base spare held t (.agg cs) x p) : ∃ v : α, d.K w v cs.toList ∧ wf v := by
  obtain ⟨fuel, hf⟩ := hx
  exact h _ _ _ _ _ _ _ _ _ hf
end Go.Proofs.YtfgnaneajonapaaDoor.Opn

namespace Go.Proofs.YtfgnaneajonapaaDoor.SFnExactEventOk
open Go.RowKit Go.Proofs.YtfgnaneajonapaaDoorW.PrintWords Go.Proofs.YtfgnaneajonapaaDoorW.PrintLast Go.Proofs.YtfgnaneajonapaaDoorW.PrintMore Go.Proofs.YtfgnaneajonapaaDoor.Pr Go.Proofs.YtfgnaneajonapaaDoor.Opn
set_option linter.unusedVariables false
def wf30 (x : S30) : Prop := ((Lit.int .i64 x.f0).wf = true) ∧ ((Lit.int .i64 x.f1).wf = true) ∧ (x.f2.size ≤ maxLen) ∧ (x.f3.size ≤ maxLen) ∧ (x.f4.size ≤ maxLen) ∧ ((Lit.int .i64 x.f5).wf = true)
set_option maxRecDepth 100000 in
theorem op30 : Opens Tryd.prog k30 wf30 30 := opens_iso (opens_struct Tryd.underlying30 (by kernel_rfl) (opensF_cons (opens_int .i64 Tryd.underlying3) rfl (by kernel_rfl) (opensF_cons (opens_int .i64 Tryd.underlying3) rfl (by kernel_rfl) (opensF_cons (opens_string Tryd.underlying9) rfl (by kernel_rfl) (opensF_cons (opens_string Tryd.underlying9) rfl (by kernel_rfl) (opensF_cons (opens_string Tryd.underlying9) rfl (by kernel_rfl) (opensF_one (opens_int .i64 Tryd.underlying3) rfl (by kernel_rfl)))))))) _ (fun p => (⟨p.1, p.2.1, p.2.2.1, p.2.2.2.1, p.2.2.2.2.1, p.2.2.2.2.2⟩ : S30)) (fun _ => rfl)
def wf38 (x : S38) : Prop := ((Lit.int .i64 x.f0).wf = true) ∧ (wf30 x.f1) ∧ ((Lit.int .i64 x.f2).wf = true) ∧ ((Lit.int .i64 x.f3).wf = true) ∧ (True) ∧ (x.f5.length ≤ maxLen ∧ ∀ y ∈ x.f5, (Lit.int .i64 y).wf = true)
set_option maxRecDepth 100000 in
theorem op38 : Opens Tryd.prog k38 wf38 38 := opens_iso (opens_struct Tryd.underlying38 (by kernel_rfl) (opensF_cons (opens_int .i64 Tryd.underlying3) rfl (by kernel_rfl) (opensF_cons (op30) rfl (by kernel_rfl) (opensF_cons (opens_int .i64 Tryd.underlying3) rfl (by kernel_rfl) (opensF_cons (opens_int .i64 Tryd.underlying3) rfl (by kernel_rfl) (opensF_cons (opens_bool Tryd.underlying4) rfl (by kernel_rfl) (opensF_one (opens_slice Tryd.underlying36 (by kernel_rfl) (opens_int .i64 Tryd.underlying3)) rfl (by kernel_rfl)))))))) _ (fun p => (⟨p.1, p.2.1, p.2.2.1, p.2.2.2.1, p.2.2.2.2.1, p.2.2.2.2.2⟩ : S38)) (fun _ => rfl)
theorem ok_wfAsk {x : S30} (h : wf30 x) : Lw.okAsk x := ⟨h.2.2.1, h.2.2.2.1, h.2.2.2.2.1⟩
theorem ok_wfEvent {x : S38} (h : wf38 x) : Lw.okEvent x := ⟨ok_wfAsk h.2.1, ⟨h.2.2.2.2.2.1, fun y hy => trivial⟩⟩
def Pure : Prop := ∀ (x0 : S38), wf38 x0 → ∃ k, laws_FnExactEventOk.f k (x0.f0) (x0.f1.f0) (x0.f1.f1) (x0.f1.f2) (x0.f1.f3) (x0.f1.f4) (x0.f1.f5) (x0.f2) (x0.f3) (x0.f4) (x0.f5) = some true
end Go.Proofs.YtfgnaneajonapaaDoor.SFnExactEventOk

namespace Go.Proofs.YtfgnaneajonapaaDoor.Pu
open Go.RowKit Go.Proofs.YtfgnaneajonapaaDoorW.PrintWords Go.Proofs.YtfgnaneajonapaaDoor.Pr Go.Proofs.YtfgnaneajonapaaDoor.Evs
set_option linter.unusedVariables false
theorem cut_snoc (s : ByteArray) (b i : Nat) (c : UInt8) (r : List UInt8) (hb : b ≤ i) (h : s.data.toList.drop i = c :: r) : (s.extract b (i + 1)).data.toList = (s.extract b i).data.toList ++ [c] := by
  rw [Lib.extract_data, Lib.extract_data]
  have hi : i < s.data.toList.length := by
    rcases Nat.lt_or_ge i s.data.toList.length with h1 | h1
    · exact h1
    · rw [List.drop_eq_nil_of_le h1] at h; cases h
  have e : (s.data.toList.drop b).drop (i - b) = c :: r := by rw [List.drop_drop, show b + (i - b) = i by omega]; exact h
  have hl : i - b < (s.data.toList.drop b).length := by rw [List.length_drop]; omega
  have e2 := List.drop_eq_getElem_cons hl
  rw [e] at e2
  injection e2 with e3 e4
  rw [show i + 1 - b = i - b + 1 by omega, List.take_add_one, List.getElem?_eq_getElem hl, ← e3]
  rfl
theorem cut_nil (s : ByteArray) (b : Nat) : (s.extract b b).data.toList = [] := by rw [Lib.extract_data, Nat.sub_self, List.take_zero]
def told (s : ByteArray) (out : List ByteArray) (P : List (List UInt8)) (r : List ByteArray × Bool) : Prop :=
  if P.all nameL = true then (if out.length + P.length > 4 then r = ([], false) else r.2 = true ∧ r.1.length = out.length + P.length ∧ ∀ x ∈ r.1, x.size ≤ 8) else r = ([], false)
theorem name_size (s : ByteArray) (h : nameL s.data.toList = true) : s.size ≤ 8 := by
  unfold nameL at h
  rw [Bool.and_eq_true, decide_eq_true_eq, size_len] at h
  exact h.2.2
theorem told_push (s x : ByteArray) (out : List ByteArray) (P : List (List UInt8)) (r : List ByteArray × Bool) (hx : nameL x.data.toList = true) (h : told s (out ++ [x]) P r) : told s out (x.data.toList :: P) r := by
  unfold told at h ⊢
  rw [List.all_cons, hx, Bool.true_and]
  rw [List.length_append, List.length_singleton] at h
  rw [List.length_cons]
  have e : out.length + (P.length + 1) = out.length + 1 + P.length := by omega
  rw [e]
  exact h
theorem told_not (s x : ByteArray) (out : List ByteArray) (P : List (List UInt8)) (hx : nameL x.data.toList = false) : told s out (x.data.toList :: P) ([], false) := by
  unfold told
  rw [List.all_cons, hx, Bool.false_and]
  rfl
theorem split_loop (s : ByteArray) (hs : s.size < 8796093022000) (m : Nat) : ∀ (i b : Nat) (out : List ByteArray), i + m = s.size → b ≤ i → out.length ≤ i → (∀ x ∈ out, x.size ≤ 8) →
    ∃ r, Ev (fun k => spec_SplitPath.l0 k s out (b : Int) (i : Int)) r ∧ told s out (((s.extract b i).data.toList ++ (cutS (s.data.toList.drop i)).headD []) :: (cutS (s.data.toList.drop i)).tail) r := by
  induction m with
  | zero =>
    intro i b out hi hb hl ho
    have e : s.data.toList.drop i = [] := List.drop_eq_nil_of_le (by rw [size_len]; omega)
    have ec : (cutS []).headD [] = ([] : List UInt8) := rfl
    have et : (cutS ([] : List UInt8)).tail = [] := rfl
    rw [e, ec, et, List.append_nil]
    have hn := spec_NameOk_ev (s.extract b i) (by rw [ByteArray.size_extract]; omega)
    have ew : wrap64 ((i : Int) + 1) = ((i + 1 : Nat) : Int) := by rw [wrap_in (by omega) (by omega)]; rfl
    cases hx : nameL (s.extract b i).data.toList with
    | false =>
      rw [hx] at hn
      refine ⟨_, ?_, told_not s _ out [] hx⟩
      refine ev_step (fun k => spec_SplitPath.l0.eq_2 _ _ _ _ k) (ev_pos (by omega) (ev_neg (by omega) ?_))
      refine ev_step (fun k => spec_SplitPath.j2.eq_2 _ _ _ _ _ k) (ev_neg (by decide) (ev_pos (by omega) (ev_pos (by omega) (ev_pos (by omega) ?_))))
      simp only [Int.toNat_natCast]
      exact ev_bind hn (ev_neg (by decide) (ev_some _))
    | true =>
      rw [hx] at hn
      by_cases h4 : (out.length : Int) + 1 > 4
      · refine ⟨([], false), ?_, ?_⟩
        · refine ev_step (fun k => spec_SplitPath.l0.eq_2 _ _ _ _ k) (ev_pos (by omega) (ev_neg (by omega) ?_))
          refine ev_step (fun k => spec_SplitPath.j2.eq_2 _ _ _ _ _ k) (ev_neg (by decide) (ev_pos (by omega) (ev_pos (by omega) (ev_pos (by omega) ?_))))
          simp only [Int.toNat_natCast]
          refine ev_bind hn (ev_pos rfl (ev_pos (by omega) ?_))
          rw [ew]
          refine ev_step (fun k => spec_SplitPath.l0.eq_2 _ _ _ _ k) (ev_neg (by omega) (ev_pos (by rw [List.length_append, List.length_singleton]; omega) (ev_some _)))
        · unfold told
          rw [List.all_cons, hx, if_pos (show (true && [].all nameL) = true from rfl), if_pos (by rw [List.length_singleton]; omega)]
      · refine ⟨(out ++ [s.extract b i], true), ?_, ?_⟩
        · refine ev_step (fun k => spec_SplitPath.l0.eq_2 _ _ _ _ k) (ev_pos (by omega) (ev_neg (by omega) ?_))
          refine ev_step (fun k => spec_SplitPath.j2.eq_2 _ _ _ _ _ k) (ev_neg (by decide) (ev_pos (by omega) (ev_pos (by omega) (ev_pos (by omega) ?_))))
          simp only [Int.toNat_natCast]
          refine ev_bind hn (ev_pos rfl (ev_pos (by omega) ?_))
          rw [ew]
          refine ev_step (fun k => spec_SplitPath.l0.eq_2 _ _ _ _ k) (ev_neg (by omega) (ev_neg (by rw [List.length_append, List.length_singleton]; omega) (ev_some _)))
        · unfold told
          rw [List.all_cons, hx, if_pos (show (true && [].all nameL) = true from rfl), if_neg (by rw [List.length_singleton]; omega)]
          refine ⟨rfl, by rw [List.length_append]; rfl, fun x hm => ?_⟩
          rcases List.mem_append.1 hm with hm | hm
          · exact ho x hm
          · rw [List.mem_singleton.1 hm]; exact name_size _ hx
  | succ m ih =>
    intro i b out hi hb hl ho
    obtain ⟨c, r, hd, hr⟩ := drop_size s i (by omega)
    have hbt := bt_nat s i c r hd
    have ew : wrap64 ((i : Int) + 1) = ((i + 1 : Nat) : Int) := by rw [wrap_in (by omega) (by omega)]; rfl
    by_cases hc : c = 47
    · have hn := spec_NameOk_ev (s.extract b i) (by rw [ByteArray.size_extract]; omega)
      have hbf : (bt s (i : Int) != 47) = false := by rw [hbt, hc]; rfl
      have ec : cutS (s.data.toList.drop i) = [] :: cutS r := by rw [hd, cutS, if_pos hc]
      have eh : ([] :: cutS r).headD [] = ([] : List UInt8) := rfl
      have et : (([] : List UInt8) :: cutS r).tail = cutS r := rfl
      rw [ec, eh, et, List.append_nil]
      cases hx : nameL (s.extract b i).data.toList with
      | false =>
        rw [hx] at hn
        refine ⟨_, ?_, told_not s _ out _ hx⟩
        refine ev_step (fun k => spec_SplitPath.l0.eq_2 _ _ _ _ k) (ev_pos (by omega) (ev_pos (by omega) (ev_pos (by omega) ?_)))
        rw [hbf]
        refine ev_step (fun k => spec_SplitPath.j2.eq_2 _ _ _ _ _ k) (ev_neg (by decide) (ev_pos (by omega) (ev_pos (by omega) (ev_pos (by omega) ?_))))
        simp only [Int.toNat_natCast]
        exact ev_bind hn (ev_neg (by decide) (ev_some _))
      | true =>
        rw [hx] at hn
        obtain ⟨q, hq, ht⟩ := ih (i + 1) (i + 1) (out ++ [s.extract b i]) (by omega) (Nat.le_refl _) (by rw [List.length_append, List.length_singleton]; omega) (fun x hm => by
          rcases List.mem_append.1 hm with hm | hm
          · exact ho x hm
          · rw [List.mem_singleton.1 hm]; exact name_size _ hx)
        rw [hr, cut_nil, List.nil_append] at ht
        have ej : (cutS r).headD [] :: (cutS r).tail = cutS r := by
          cases hcs : cutS r with
          | nil => exact absurd hcs (cutS_ne r)
          | cons a t => rfl
        rw [ej] at ht
        refine ⟨q, ?_, told_push s _ out _ q hx ht⟩
        refine ev_step (fun k => spec_SplitPath.l0.eq_2 _ _ _ _ k) (ev_pos (by omega) (ev_pos (by omega) (ev_pos (by omega) ?_)))
        rw [hbf]
        refine ev_step (fun k => spec_SplitPath.j2.eq_2 _ _ _ _ _ k) (ev_neg (by decide) (ev_pos (by omega) (ev_pos (by omega) (ev_pos (by omega) ?_))))
        simp only [Int.toNat_natCast]
        refine ev_bind hn (ev_pos rfl (ev_pos (by omega) ?_))
        rw [ew]
        exact hq
    · have hbf : (bt s (i : Int) != 47) = true := by
        rw [hbt, bne_iff_ne]
        intro h
        refine hc (UInt8.toNat_inj.1 ?_)
        have : ((47 : UInt8).toNat : Int) = 47 := rfl
        omega
      have ec : cutS (s.data.toList.drop i) = (c :: (cutS r).headD []) :: (cutS r).tail := by rw [hd, cutS, if_neg hc]
      have eh : ((c :: (cutS r).headD []) :: (cutS r).tail).headD [] = c :: (cutS r).headD [] := rfl
      have et : ((c :: (cutS r).headD []) :: (cutS r).tail).tail = (cutS r).tail := rfl
      obtain ⟨q, hq, ht⟩ := ih (i + 1) b out (by omega) (by omega) (by omega) ho
      rw [hr, cut_snoc s b i c r hb hd, List.append_assoc] at ht
      rw [ec, eh, et]
      refine ⟨q, ?_, ht⟩
      refine ev_step (fun k => spec_SplitPath.l0.eq_2 _ _ _ _ k) (ev_pos (by omega) (ev_pos (by omega) (ev_pos (by omega) ?_)))
      rw [hbf]
      refine ev_step (fun k => spec_SplitPath.j2.eq_2 _ _ _ _ _ k) (ev_pos rfl ?_)
      rw [ew]
      exact hq
theorem splitPath_ev (p : ByteArray) (hs : p.size < 8796093022000) : ∃ r, Ev (fun k => spec_SplitPath.f k p) r ∧ (r.2 && !r.1.isEmpty) = isNamed p.data.toList ∧ r.1.length ≤ 4 ∧ ∀ x ∈ r.1, x.size ≤ 8 := by
  have hz := size_len p
  cases hl : p.data.toList with
  | nil =>
    rw [hl, List.length_nil] at hz
    refine ⟨([], false), ?_, rfl, by simp, by simp⟩
    unfold spec_SplitPath.f
    exact ev_call rfl (ev_pos (by omega) (ev_step (fun k => spec_SplitPath.j0.eq_2 _ _ _ k) (ev_pos rfl (ev_some _))))
  | cons c rest =>
    rw [hl, List.length_cons] at hz
    have hb : bt p 0 = (c.toNat : Int) := bt_nat p 0 c rest (by rw [List.drop_zero]; exact hl)
    by_cases hc : c = 47
    · have hbf : (bt p 0 != 47) = false := by rw [hb, hc]; rfl
      by_cases hr : rest = []
      · refine ⟨([], true), ?_, by rw [isNamed, hr]; simp, by simp, by simp⟩
        unfold spec_SplitPath.f
        refine ev_call rfl (ev_neg (by omega) (ev_pos (by omega) ?_))
        rw [hbf]
        refine ev_step (fun k => spec_SplitPath.j0.eq_2 _ _ _ k) (ev_neg (by decide) (ev_pos ?_ (ev_some _)))
        rw [Lib.toList_data, hl, hr, hc]
      · obtain ⟨r, hE, ht⟩ := split_loop p hs (p.size - 1) 1 1 [] (by omega) (Nat.le_refl _) (by simp) (by simp)
        have hd : p.data.toList.drop 1 = rest := by rw [hl]; rfl
        have ej : (cutS rest).headD [] :: (cutS rest).tail = cutS rest := by
          cases hcs : cutS rest with
          | nil => exact absurd hcs (cutS_ne rest)
          | cons a t => rfl
        rw [cut_nil, List.nil_append, hd, ej] at ht
        have hne : rest.isEmpty = false := by cases rest with | nil => exact absurd rfl hr | cons _ _ => rfl
        have hf : Ev (fun k => spec_SplitPath.f k p) r := by
          unfold spec_SplitPath.f
          refine ev_call rfl (ev_neg (by omega) (ev_pos (by omega) ?_))
          rw [hbf]
          refine ev_step (fun k => spec_SplitPath.j0.eq_2 _ _ _ k) (ev_neg (by decide) (ev_neg ?_ hE))
          rw [Lib.toList_data, hl, hc]
          intro h
          injection h with _ h
          exact hr h
        refine ⟨r, hf, ?_⟩
        unfold told at ht
        rw [isNamed, decide_eq_true hc, hne]
        rw [List.length_nil, Nat.zero_add] at ht
        cases ha : (cutS rest).all nameL with
        | false =>
          rw [ha, if_neg (by decide)] at ht
          rw [ht]
          simp
        | true =>
          rw [ha, if_pos rfl] at ht
          by_cases h4 : (cutS rest).length > 4
          · rw [if_pos h4] at ht
            rw [ht, decide_eq_false (by omega)]
            simp
          · rw [if_neg h4] at ht
            obtain ⟨t1, t2, t3⟩ := ht
            refine ⟨?_, by omega, t3⟩
            rw [t1, decide_eq_true (by omega)]
            cases hr1 : r.1 with
            | nil =>
              rw [hr1, List.length_nil] at t2
              exact absurd (List.length_eq_zero_iff.1 t2.symm) (cutS_ne rest)
            | cons _ _ => rfl
    · have hbf : (bt p 0 != 47) = true := by
        rw [hb, bne_iff_ne]
        intro h
        refine hc (UInt8.toNat_inj.1 ?_)
        have : ((47 : UInt8).toNat : Int) = 47 := rfl
        omega
      refine ⟨([], false), ?_, by rw [isNamed, decide_eq_false hc]; rfl, by simp, by simp⟩
      unfold spec_SplitPath.f
      refine ev_call rfl (ev_neg (by omega) (ev_pos (by omega) ?_))
      rw [hbf]
      exact ev_step (fun k => spec_SplitPath.j0.eq_2 _ _ _ k) (ev_pos rfl (ev_some _))
theorem rd_size (l : List ByteArray) (h8 : ∀ x ∈ l, x.size ≤ 8) (i : Int) : (rdOf ByteArray.empty l i).size ≤ 8 := by
  unfold rdOf
  rw [List.getD_eq_getElem?_getD]
  cases h : l[i.toNat]? with
  | none => exact Nat.zero_le _
  | some x => exact h8 x (List.mem_of_getElem? h)
theorem join_loop (l : List ByteArray) (h4 : l.length ≤ 4) (h8 : ∀ x ∈ l, x.size ≤ 8) (m : Nat) : ∀ (i : Nat) (acc : ByteArray), i + m = l.length → acc.size ≤ 9 * i → ∃ t, Ev (fun k => spec_JoinPath.l0 k l acc (i : Int)) t := by
  induction m with
  | zero => intro i acc hi ha; exact ⟨_, ev_step (fun k => spec_JoinPath.l0.eq_2 _ _ _ k) (ev_neg (by omega) (ev_some _))⟩
  | succ m ih =>
    intro i acc hi ha
    have hr := rd_size l h8 (i : Int)
    have ew : wrap64 ((i : Int) + 1) = ((i + 1 : Nat) : Int) := by rw [wrap_in (by omega) (by omega)]; rfl
    have hz : (acc ++ (⟨#[47]⟩ : ByteArray)).size = acc.size + 1 := by rw [ByteArray.size_append]; rfl
    obtain ⟨t, ht⟩ := ih (i + 1) ((acc ++ (⟨#[47]⟩ : ByteArray)) ++ rdOf ByteArray.empty l (i : Int)) (by omega) (by rw [ByteArray.size_append, hz]; omega)
    refine ⟨t, ev_step (fun k => spec_JoinPath.l0.eq_2 _ _ _ k) (ev_pos (by omega) (ev_pos (by omega) (ev_pos (by omega) (ev_pos (by rw [hz]; omega) ?_))))⟩
    rw [ew]
    exact ht
theorem joinPath_some (l : List ByteArray) (h4 : l.length ≤ 4) (h8 : ∀ x ∈ l, x.size ≤ 8) : ∃ t, Ev (fun k => spec_JoinPath.f k l) t := by
  unfold spec_JoinPath.f
  by_cases h : (l.length : Int) = 0
  · exact ⟨_, ev_pos h (ev_some _)⟩
  · obtain ⟨t, ht⟩ := join_loop l h4 h8 l.length 0 ⟨#[]⟩ (by omega) (Nat.le_refl _)
    exact ⟨t, ev_neg h ht⟩
theorem l11Named_ev (p : ByteArray) (hs : p.size < 8796093022000) : Ev (fun k => spec_l11Named.f k p) (isNamed p.data.toList) := by
  obtain ⟨r, hE, hn, h4, h8⟩ := splitPath_ev p hs
  unfold spec_l11Named.f spec_ParentPath.f
  rw [← hn]
  obtain ⟨l, ok⟩ := r
  simp only at h4 h8 hn ⊢
  cases ok with
  | false => exact ev_bind (a := (⟨#[]⟩, ⟨#[]⟩, false)) (ev_bind hE (ev_neg Bool.false_ne_true (ev_some _))) (ev_some _)
  | true =>
    cases l with
    | nil => exact ev_bind (a := (⟨#[]⟩, ⟨#[]⟩, false)) (ev_bind hE (ev_pos rfl (ev_pos rfl (ev_some _)))) (ev_some _)
    | cons x s =>
      rw [List.length_cons] at h4
      have ew : wrap64 (((x :: s).length : Int) - 1) = (s.length : Int) := by rw [List.length_cons, wrap_in (by omega) (by omega)]; omega
      obtain ⟨t, ht⟩ := joinPath_some ((x :: s).take s.length) (by rw [List.length_take]; omega) (fun y hy => h8 y (List.mem_of_mem_take hy))
      refine ev_bind (a := (t, rdOf ByteArray.empty (x :: s) (s.length : Int), true)) (ev_bind hE (ev_pos rfl (ev_neg (by rw [List.length_cons]; omega) ?_))) (ev_some _)
      simp only [ew, Int.toNat_natCast]
      exact ev_pos (by omega) (ev_pos (by rw [List.length_cons]; omega) (ev_bind ht (ev_pos (by rw [List.length_cons]; omega) (ev_some _))))
end Go.Proofs.YtfgnaneajonapaaDoor.Pu

namespace Go.Proofs.YtfgnaneajonapaaDoor.Pr
open Go.RowKit Go.Proofs.YtfgnaneajonapaaDoorW.PrintWords Go.Proofs.YtfgnaneajonapaaDoorW.PrintLast Go.Proofs.YtfgnaneajonapaaDoorW.PrintMore
attribute [local go_sem] max2_int min2_int max_two min_two max_three min_three max_four min_four
set_option linter.unusedVariables false
set_option linter.unusedSimpArgs false
end Go.Proofs.YtfgnaneajonapaaDoor.Pr

namespace Go.Proofs.YtfgnaneajonapaaDoor.Pr
open Go.RowKit Go.Proofs.YtfgnaneajonapaaDoorW.PrintWords Go.Proofs.YtfgnaneajonapaaDoorW.PrintLast Go.Proofs.YtfgnaneajonapaaDoorW.PrintMore
attribute [local go_sem] max2_int min2_int max_two min_two max_three min_three max_four min_four
set_option linter.unusedVariables false
set_option linter.unusedSimpArgs false
end Go.Proofs.YtfgnaneajonapaaDoor.Pr

namespace Go.Proofs.YtfgnaneajonapaaDoor.Pr
open Go.RowKit Go.Proofs.YtfgnaneajonapaaDoorW.PrintWords Go.Proofs.YtfgnaneajonapaaDoorW.PrintLast Go.Proofs.YtfgnaneajonapaaDoorW.PrintMore
attribute [local go_sem] max2_int min2_int max_two min_two max_three min_three max_four min_four
set_option linter.unusedVariables false
set_option linter.unusedSimpArgs false
end Go.Proofs.YtfgnaneajonapaaDoor.Pr

namespace Go.Proofs.YtfgnaneajonapaaDoor.Pr
open Go.RowKit Go.Proofs.YtfgnaneajonapaaDoorW.PrintWords Go.Proofs.YtfgnaneajonapaaDoorW.PrintLast Go.Proofs.YtfgnaneajonapaaDoorW.PrintMore
attribute [local go_sem] max2_int min2_int max_two min_two max_three min_three max_four min_four
set_option linter.unusedVariables false
set_option linter.unusedSimpArgs false
end Go.Proofs.YtfgnaneajonapaaDoor.Pr

namespace Go.Proofs.YtfgnaneajonapaaDoor.Pr
open Go.RowKit Go.Proofs.YtfgnaneajonapaaDoorW.PrintWords Go.Proofs.YtfgnaneajonapaaDoorW.PrintLast Go.Proofs.YtfgnaneajonapaaDoorW.PrintMore
attribute [local go_sem] max2_int min2_int max_two min_two max_three min_three max_four min_four
set_option linter.unusedVariables false
set_option linter.unusedSimpArgs false
end Go.Proofs.YtfgnaneajonapaaDoor.Pr

namespace Go.Proofs.YtfgnaneajonapaaDoor.Pr
open Go.RowKit Go.Proofs.YtfgnaneajonapaaDoorW.PrintWords Go.Proofs.YtfgnaneajonapaaDoorW.PrintLast Go.Proofs.YtfgnaneajonapaaDoorW.PrintMore
attribute [local go_sem] max2_int min2_int max_two min_two max_three min_three max_four min_four
set_option linter.unusedVariables false
set_option linter.unusedSimpArgs false
end Go.Proofs.YtfgnaneajonapaaDoor.Pr

namespace Go.Proofs.YtfgnaneajonapaaDoor.Lw
open Go.RowKit Go.Proofs.YtfgnaneajonapaaDoorW.PrintWords Go.Proofs.YtfgnaneajonapaaDoor.Pr Go.Proofs.YtfgnaneajonapaaDoor.Evs
set_option linter.unusedVariables false
end Go.Proofs.YtfgnaneajonapaaDoor.Lw

namespace Go.Proofs.YtfgnaneajonapaaDoor.Pr
open Go.RowKit Go.Proofs.YtfgnaneajonapaaDoorW.PrintWords Go.Proofs.YtfgnaneajonapaaDoorW.PrintLast Go.Proofs.YtfgnaneajonapaaDoorW.PrintMore
attribute [local go_sem] max2_int min2_int max_two min_two max_three min_three max_four min_four
set_option linter.unusedVariables false
set_option linter.unusedSimpArgs false
end Go.Proofs.YtfgnaneajonapaaDoor.Pr

namespace Go.Proofs.YtfgnaneajonapaaDoor.Pr
open Go.RowKit Go.Proofs.YtfgnaneajonapaaDoorW.PrintWords Go.Proofs.YtfgnaneajonapaaDoorW.PrintLast Go.Proofs.YtfgnaneajonapaaDoorW.PrintMore
attribute [local go_sem] max2_int min2_int max_two min_two max_three min_three max_four min_four
set_option linter.unusedVariables false
set_option linter.unusedSimpArgs false
end Go.Proofs.YtfgnaneajonapaaDoor.Pr

namespace Go.Proofs.YtfgnaneajonapaaDoor.Pu
open Go.RowKit Go.Proofs.YtfgnaneajonapaaDoorW.PrintWords Go.Proofs.YtfgnaneajonapaaDoor.Pr Go.Proofs.YtfgnaneajonapaaDoor.Evs Go.Proofs.YtfgnaneajonapaaDoor.Lw
set_option linter.unusedVariables false
theorem impl_in (a b c : Int) : impl_within.f a b c = some (decide (b ≤ a ∧ a ≤ c)) := by
  unfold impl_within.f
  by_cases h : a ≥ b
  · rw [if_pos h]
    by_cases h2 : a ≤ c
    · rw [decide_eq_true h2, decide_eq_true ⟨h, h2⟩]
    · rw [decide_eq_false h2, decide_eq_false (fun h3 => h2 h3.2)]
  · rw [if_neg h, decide_eq_false (fun h3 => h h3.1)]
theorem spec_in (a b c : Int) : spec_l01In.f a b c = some (decide (b ≤ a ∧ a ≤ c)) := impl_in a b c
theorem impl_nm (p : ByteArray) (h : p.size ≤ 1048576) : impl_named.f p = some (isNamed p.data.toList) := if_pos (by omega)
theorem spec_nm (p : ByteArray) (h : p.size ≤ 1048576) : Ev (fun k => spec_l11Named.f k p) (isNamed p.data.toList) := l11Named_ev p (by omega)
end Go.Proofs.YtfgnaneajonapaaDoor.Pu

namespace Go.Proofs.YtfgnaneajonapaaDoor.Pu
open Go.RowKit Go.Proofs.YtfgnaneajonapaaDoorW.PrintWords Go.Proofs.YtfgnaneajonapaaDoor.Pr Go.Proofs.YtfgnaneajonapaaDoor.Evs Go.Proofs.YtfgnaneajonapaaDoor.Lw
set_option linter.unusedVariables false
set_option linter.unusedSimpArgs false
def editTail (K num who : Int) : Bool :=
  if K = 5 then decide (1 ≤ num ∧ num ≤ 3) && (who == 0) else if K = 6 then decide (0 ≤ num ∧ num ≤ 1000) && (who == 0) else if K = 7 then decide (1 ≤ num ∧ num ≤ 200) && (who == 0)
  else if K = 2 then (num == 0) && decide (1 ≤ who ∧ who ≤ 9) else if K = 9 then (num == 0) && decide (1 ≤ who ∧ who ≤ 9) else (num == 0) && (who == 0)
def editOk (K : Int) (path dst : ByteArray) (num who : Int) : Bool :=
  decide (1 ≤ K ∧ K ≤ 10) && ((if K = 10 then decide (path.toList = [47]) else isNamed path.data.toList || (decide (K = 5 ∨ K = 6) && decide (path.toList = [47]))) && ((if K = 3 then isNamed dst.data.toList else decide (dst.toList = [])) && editTail K num who))
theorem not_named (s : ByteArray) (h : s.toList = []) : isNamed s.data.toList = false := by
  rw [Lib.toList_data] at h
  rw [h]
  rfl
theorem ite_and3 (A B : Prop) [Decidable A] [Decidable B] (x : Bool) : (if A ∧ B then some x else some false) = some (decide A && decide B && x) := by
  by_cases a : A <;> by_cases b : B <;> simp [a, b]
theorem spec_EditOk_ev (K : Int) (path dst : ByteArray) (num who : Int) (hp : path.size ≤ 1048576) (ht : dst.size ≤ 1048576) : Ev (fun k => spec_EditOk.f k K path dst num who) (editOk K path dst num who) := by
  obtain ⟨k1, h1⟩ := spec_nm path hp
  obtain ⟨k2, h2⟩ := spec_nm dst ht
  have h0 := not_named dst
  refine ⟨k1 + k2 + 3, fun k hk => ?_⟩
  obtain ⟨m, rfl⟩ : ∃ m, k = m + 3 := ⟨k - 3, by omega⟩
  have e1 := h1 (m + 2) (by omega)
  have e2 := h2 (m + 2) (by omega)
  clear h1 h2 hk
  unfold editOk
  generalize isNamed path.data.toList = n1 at *
  generalize isNamed dst.data.toList = n2 at *
  by_cases c : 1 ≤ K ∧ K ≤ 10
  · have hK : K = 1 ∨ K = 2 ∨ K = 3 ∨ K = 4 ∨ K = 5 ∨ K = 6 ∨ K = 7 ∨ K = 8 ∨ K = 9 ∨ K = 10 := by omega
    by_cases q1 : path.toList = [47] <;> by_cases q2 : dst.toList = [] <;> by_cases q3 : num = 0 <;> cases n1 <;> cases n2 <;> (try (exact absurd (h0 q2) (by decide))) <;>
    rcases hK with rfl | rfl | rfl | rfl | rfl | rfl | rfl | rfl | rfl | rfl <;> simp [spec_EditOk.f, spec_EditOk.j0, spec_EditOk.j1, spec_in, e1, e2, editTail, q1, q2, q3] <;> exact ite_and3 _ _ _
  · simp [spec_EditOk.f, spec_in, c]
theorem ite_and2 (A B : Prop) [Decidable A] [Decidable B] : (if A ∧ B then some true else some false) = some (decide A && decide B) := by
  by_cases a : A <;> by_cases b : B <;> simp [a, b]
theorem impl_EditOk_ev (K : Int) (path dst : ByteArray) (num who : Int) (hp : path.size ≤ 1048576) (ht : dst.size ≤ 1048576) : Ev (fun k => impl_EditOk.f k K path dst num who) (editOk K path dst num who) := by
  have e1 := impl_nm path hp
  have e2 := impl_nm dst ht
  have h0 := not_named dst
  refine ⟨3, fun k hk => ?_⟩
  obtain ⟨m, rfl⟩ : ∃ m, k = m + 3 := ⟨k - 3, by omega⟩
  clear hk
  unfold editOk
  generalize isNamed path.data.toList = n1 at *
  generalize isNamed dst.data.toList = n2 at *
  by_cases c : 1 ≤ K ∧ K ≤ 10
  · have hK : K = 1 ∨ K = 2 ∨ K = 3 ∨ K = 4 ∨ K = 5 ∨ K = 6 ∨ K = 7 ∨ K = 8 ∨ K = 9 ∨ K = 10 := by omega
    by_cases q1 : path.toList = [47] <;> by_cases q2 : dst.toList = [] <;> by_cases q3 : num = 0 <;> by_cases q4 : who = 0 <;> cases n1 <;> cases n2 <;> (try (exact absurd (h0 q2) (by decide))) <;>
    rcases hK with rfl | rfl | rfl | rfl | rfl | rfl | rfl | rfl | rfl | rfl <;> simp [impl_EditOk.f, impl_EditOk.j0, impl_EditOk.j1, impl_EditOk.j2, impl_in, e1, e2, editTail, q1, q2, q3, q4] <;> first | exact ite_and2 _ _ | exact ite_and3 _ _ _
  · have hK : ¬ K = 1 ∧ ¬ K = 2 ∧ ¬ K = 3 ∧ ¬ K = 4 ∧ ¬ K = 5 ∧ ¬ K = 6 ∧ ¬ K = 7 ∧ ¬ K = 8 ∧ ¬ K = 9 ∧ ¬ K = 10 := by omega
    obtain ⟨g1, g2, g3, g4, g5, g6, g7, g8, g9, g10⟩ := hK
    by_cases q1 : path.toList = [47] <;> by_cases q2 : dst.toList = [] <;> by_cases q3 : num = 0 <;> by_cases q4 : who = 0 <;> cases n1 <;> cases n2 <;> simp [impl_EditOk.f, impl_EditOk.j0, impl_EditOk.j1, impl_EditOk.j2, impl_in, e1, e2, c, g1, g2, g3, g4, g5, g6, g7, g8, g9, g10, q1, q2, q3, q4]
end Go.Proofs.YtfgnaneajonapaaDoor.Pu

namespace Go.Proofs.YtfgnaneajonapaaDoor.Pu
open Go.RowKit Go.Proofs.YtfgnaneajonapaaDoorW.PrintWords Go.Proofs.YtfgnaneajonapaaDoor.Pr Go.Proofs.YtfgnaneajonapaaDoor.Evs Go.Proofs.YtfgnaneajonapaaDoor.Lw
set_option linter.unusedVariables false
set_option linter.unusedSimpArgs false
theorem edit_of (K who : Int) (path dst text : ByteArray) (num : Int) (hp : path.size ≤ 1048576) (hd : dst.size ≤ 1048576) : ∃ e : Int × ByteArray × ByteArray × Int × Int, spec_EditOf.f K who path dst text num = some e ∧ impl_EditOf.f K who path dst text num = some e ∧ e.2.1.size ≤ 1048576 ∧ e.2.2.1.size ≤ 1048576 := by
  have hz : (⟨#[]⟩ : ByteArray).size ≤ 1048576 := by decide
  unfold spec_EditOf.f impl_EditOf.f
  repeat (split; · exact ⟨_, rfl, rfl, by assumption, by assumption⟩)
  exact ⟨_, rfl, rfl, hz, hz⟩
def askOk (right : Bool) (K who : Int) (dst text : ByteArray) (num : Int) : Bool :=
  decide (1 ≤ K ∧ K ≤ 10) && (decide (1 ≤ who ∧ who ≤ 9) && ((decide (K = 5) || decide (dst.toList = [])) && ((decide (K = 8 ∨ K = 9) || (num == 0)) && ((if K = 3 then decide (1 ≤ (text.size : Int) ∧ (text.size : Int) ≤ 60) else decide (text.toList = [])) && right))))
theorem num_cases (n : Int) : ((n = 0) = True ∧ (n == 0) = true ∧ (n != 0) = false) ∨ ((n = 0) = False ∧ (n == 0) = false ∧ (n != 0) = true) := by
  by_cases h : n = 0
  · exact .inl ⟨eq_true h, beq_iff_eq.mpr h, by simp [h]⟩
  · exact .inr ⟨eq_false h, beq_eq_false_iff_ne.mpr h, by simp [h]⟩
set_option maxHeartbeats 4000000 in
theorem asks (K who : Int) (path dst text : ByteArray) (num : Int) (hp : path.size ≤ 1048576) (hd : dst.size ≤ 1048576) : ∃ r : Bool, Ev (fun k => spec_AskOk.f k K who path dst text num) r ∧ Ev (fun k => impl_AskOk.f k K who path dst text num) r := by
  obtain ⟨e, hS, hI, h1, h2⟩ := edit_of K who path dst text num hp hd
  obtain ⟨k1, g1⟩ := spec_nm path hp
  obtain ⟨k2, g2⟩ := spec_EditOk_ev e.1 e.2.1 e.2.2.1 e.2.2.2.1 e.2.2.2.2 h1 h2
  obtain ⟨k3, g3⟩ := impl_EditOk_ev e.1 e.2.1 e.2.2.1 e.2.2.2.1 e.2.2.2.2 h1 h2
  have e1 := impl_nm path hp
  generalize isNamed path.data.toList = n1 at *
  generalize editOk e.1 e.2.1 e.2.2.1 e.2.2.2.1 e.2.2.2.2 = b at *
  refine ⟨askOk (if K = 7 then n1 else b) K who dst text num, ⟨k1 + k2 + 2, fun k hk => ?_⟩, ⟨k3 + 2, fun k hk => ?_⟩⟩
  · obtain ⟨m, rfl⟩ : ∃ m, k = m + 2 := ⟨k - 2, by omega⟩
    have f1 := g1 m (by omega)
    have f2 := g2 m (by omega)
    clear g1 g2 g3 hk e1 h1 h2 hI
    by_cases c : 1 ≤ K ∧ K ≤ 10
    · have hK : K = 1 ∨ K = 2 ∨ K = 3 ∨ K = 4 ∨ K = 5 ∨ K = 6 ∨ K = 7 ∨ K = 8 ∨ K = 9 ∨ K = 10 := by omega
      by_cases c2 : 1 ≤ who ∧ who ≤ 9
      · by_cases q1 : text.toList = [] <;> by_cases q2 : dst.toList = [] <;> rcases num_cases num with ⟨q3, q5, q6⟩ | ⟨q3, q5, q6⟩ <;> by_cases q4 : (1 ≤ (text.size : Int) ∧ (text.size : Int) ≤ 60) <;>
        rcases hK with rfl | rfl | rfl | rfl | rfl | rfl | rfl | rfl | rfl | rfl <;> simp [spec_AskOk.f, spec_AskOk.j0, spec_AskOk.j1, spec_in, f1, f2, hS, askOk, c2, q1, q2, q3, q4, q5, q6]
      · simp [spec_AskOk.f, spec_AskOk.j0, spec_in, askOk, c, c2]
    · simp [spec_AskOk.f, spec_AskOk.j0, spec_in, askOk, c]
  · obtain ⟨m, rfl⟩ : ∃ m, k = m + 2 := ⟨k - 2, by omega⟩
    have f2 := g3 (m + 2) (by omega)
    clear g1 g2 g3 hk h1 h2 hS
    by_cases c : 1 ≤ K ∧ K ≤ 10
    · have hK : K = 1 ∨ K = 2 ∨ K = 3 ∨ K = 4 ∨ K = 5 ∨ K = 6 ∨ K = 7 ∨ K = 8 ∨ K = 9 ∨ K = 10 := by omega
      by_cases c2 : 1 ≤ who ∧ who ≤ 9 <;> by_cases q1 : text.toList = [] <;> by_cases q2 : dst.toList = [] <;> rcases num_cases num with ⟨q3, q5, q6⟩ | ⟨q3, q5, q6⟩ <;> by_cases q4 : (1 ≤ (text.size : Int) ∧ (text.size : Int) ≤ 60) <;>
      rcases hK with rfl | rfl | rfl | rfl | rfl | rfl | rfl | rfl | rfl | rfl <;> simp [impl_AskOk.f, impl_AskOk.j0, impl_in, e1, f2, hI, askOk, c2, q1, q2, q3, q4, q5, q6] <;> first | (cases b <;> simp; done) | (cases n1 <;> simp; done)
    · have hK : ¬ K = 1 ∧ ¬ K = 2 ∧ ¬ K = 3 ∧ ¬ K = 4 ∧ ¬ K = 5 ∧ ¬ K = 6 ∧ ¬ K = 7 ∧ ¬ K = 8 ∧ ¬ K = 9 ∧ ¬ K = 10 := by omega
      obtain ⟨j1, j2, j3, j4, j5, j6, j7, j8, j9, j10⟩ := hK
      rcases num_cases num with ⟨q3, q5, q6⟩ | ⟨q3, q5, q6⟩ <;> simp [impl_AskOk.f, impl_AskOk.j0, impl_in, e1, f2, hI, askOk, c, j1, j2, j3, j4, j5, j6, j7, j8, j9, j10, q3, q5, q6]
end Go.Proofs.YtfgnaneajonapaaDoor.Pu

namespace Go.Proofs.YtfgnaneajonapaaDoor.Pure
open Go.RowKit Go.Proofs.YtfgnaneajonapaaDoorW.PrintWords Go.Proofs.YtfgnaneajonapaaDoor.Pr Go.Proofs.YtfgnaneajonapaaDoor.Evs Go.Proofs.YtfgnaneajonapaaDoor.Lw Go.Proofs.YtfgnaneajonapaaDoor.Pu
set_option linter.unusedVariables false
open Go.Proofs.YtfgnaneajonapaaDoor.SFnExactEventOk
theorem events (z : ImEvent) (hp : z.f1.f2.size ≤ 1048576) (hd : z.f1.f3.size ≤ 1048576) : ∃ r : Bool, Ev (fun k => spec_EventOk.f k z.f0 z.f1.f0 z.f1.f1 z.f1.f2 z.f1.f3 z.f1.f4 z.f1.f5 z.f2 z.f3 z.f4 z.f5) r ∧ Ev (fun k => impl_EventOk.f k z.f0 z.f1.f0 z.f1.f1 z.f1.f2 z.f1.f3 z.f1.f4 z.f1.f5 z.f2 z.f3 z.f4 z.f5) r := by
  obtain ⟨b, h1, h2⟩ := asks z.f1.f0 z.f1.f1 z.f1.f2 z.f1.f3 z.f1.f4 z.f1.f5 hp hd
  unfold spec_EventOk.f impl_EventOk.f
  cases c1 : decide (1 ≤ z.f0 ∧ z.f0 ≤ 9) with
  | false => exact ⟨false, ev_call ((spec_in _ _ _).trans (by rw [c1])) (ev_neg (by decide) (ev_some _)), ev_call ((impl_in _ _ _).trans (by rw [c1])) (ev_neg (by decide) (ev_some _))⟩
  | true =>
    have a1 : spec_l01In.f z.f0 1 9 = some true := (spec_in _ _ _).trans (by rw [c1])
    have a2 : impl_within.f z.f0 1 9 = some true := (impl_in _ _ _).trans (by rw [c1])
    by_cases c2 : z.f0 = 1
    · cases b with
      | false =>
        refine ⟨false, ev_call a1 (ev_pos rfl ?_), ev_call a2 (ev_pos rfl (ev_pos c2 (ev_bind h2 (ev_neg (by decide) (ev_some _)))))⟩
        refine ev_call (spec_in _ _ _) ?_
        cases decide (1 ≤ z.f2 ∧ z.f2 ≤ 7) with
        | false => exact ev_neg (by decide) (ev_some _)
        | true =>
          refine ev_pos rfl ?_
          by_cases c3 : z.f3 < 0
          · exact ev_pos c3 (ev_some _)
          · by_cases c4 : (z.f5.length : Int) > 30
            · exact ev_neg c3 (ev_pos c4 (ev_some _))
            · exact ev_neg c3 (ev_neg c4 (ev_pos c2 (ev_bind h1 (ev_some _))))
      | true =>
        refine ⟨decide (1 ≤ z.f2 ∧ z.f2 ≤ 7) && (decide (z.f3 ≥ 0) && decide ((z.f5.length : Int) ≤ 30)), ev_call a1 (ev_pos rfl (ev_call (spec_in _ _ _) ?_)), ev_call a2 (ev_pos rfl (ev_pos c2 (ev_bind h2 (ev_pos rfl (ev_call (impl_in _ _ _) ?_)))))⟩
        · cases decide (1 ≤ z.f2 ∧ z.f2 ≤ 7) with
          | false => exact ev_neg (by decide) (ev_some _)
          | true =>
            refine ev_pos rfl ?_
            by_cases c3 : z.f3 < 0
            · rw [decide_eq_false (show ¬ z.f3 ≥ 0 by omega)]; exact ev_pos c3 (ev_some _)
            · rw [decide_eq_true (show z.f3 ≥ 0 by omega)]
              by_cases c4 : (z.f5.length : Int) > 30
              · rw [decide_eq_false (show ¬ (z.f5.length : Int) ≤ 30 by omega)]; exact ev_neg c3 (ev_pos c4 (ev_some _))
              · rw [decide_eq_true (show (z.f5.length : Int) ≤ 30 by omega)]; exact ev_neg c3 (ev_neg c4 (ev_pos c2 (ev_bind h1 (ev_some _))))
        · cases decide (1 ≤ z.f2 ∧ z.f2 ≤ 7) with
          | false => exact ev_neg (by decide) (ev_some _)
          | true =>
            refine ev_pos rfl ?_
            by_cases c3 : z.f3 ≥ 0
            · rw [decide_eq_true c3]; exact ev_pos c3 (ev_some _)
            · rw [decide_eq_false c3]; exact ev_neg c3 (ev_some _)
    · refine ⟨decide (1 ≤ z.f2 ∧ z.f2 ≤ 7) && (decide (z.f3 ≥ 0) && decide ((z.f5.length : Int) ≤ 30)), ev_call a1 (ev_pos rfl (ev_call (spec_in _ _ _) ?_)), ev_call a2 (ev_pos rfl (ev_neg c2 (ev_call (impl_in _ _ _) ?_)))⟩
      · cases decide (1 ≤ z.f2 ∧ z.f2 ≤ 7) with
        | false => exact ev_neg (by decide) (ev_some _)
        | true =>
          refine ev_pos rfl ?_
          by_cases c3 : z.f3 < 0
          · rw [decide_eq_false (show ¬ z.f3 ≥ 0 by omega)]; exact ev_pos c3 (ev_some _)
          · rw [decide_eq_true (show z.f3 ≥ 0 by omega)]
            by_cases c4 : (z.f5.length : Int) > 30
            · rw [decide_eq_false (show ¬ (z.f5.length : Int) ≤ 30 by omega)]; exact ev_neg c3 (ev_pos c4 (ev_some _))
            · rw [decide_eq_true (show (z.f5.length : Int) ≤ 30 by omega)]; exact ev_neg c3 (ev_neg c4 (ev_neg c2 (ev_some _)))
      · cases decide (1 ≤ z.f2 ∧ z.f2 ≤ 7) with
        | false => exact ev_neg (by decide) (ev_some _)
        | true =>
          refine ev_pos rfl ?_
          by_cases c3 : z.f3 ≥ 0
          · rw [decide_eq_true c3]; exact ev_pos c3 (ev_some _)
          · rw [decide_eq_false c3]; exact ev_neg c3 (ev_some _)
theorem law_EventOk (x : LEvent) (hx : okEvent x) : Ev (fun k => laws_FnExactEventOk.f k x.f0 x.f1.f0 x.f1.f1 x.f1.f2 x.f1.f3 x.f1.f4 x.f1.f5 x.f2 x.f3 x.f4 x.f5) true := by
  unfold laws_FnExactEventOk.f
  obtain ⟨r, hE, hR⟩ := szEvent_ev x 1048576 (by omega) (by omega) hx
  refine ev_bind hE ?_
  by_cases c : r < 0
  · exact ev_pos c (ev_some _)
  refine ev_neg c ?_
  have hw : wtEvent x ≤ 1048576 := by omega
  have hT := toEvent_ev x hw
  have hb := bd_toEvent x hw
  generalize toEvent x = z at *
  obtain ⟨r2, h1, h2⟩ := events z hb.1.1 hb.1.2.1
  exact ev_bind hT (ev_bind h1 (ev_bind hT (ev_bind h2 (ev_neg (by simp) (ev_bind hT (ev_bind (eqEvent_refl z (ln_bdEvent hb)) (ev_pos rfl (ev_some _))))))))
theorem FnExactEventOk : Go.Proofs.YtfgnaneajonapaaDoor.SFnExactEventOk.Pure := by
  intro x hx
  exact ev_rounds (law_EventOk x (ok_wfEvent hx))
end Go.Proofs.YtfgnaneajonapaaDoor.Pure
