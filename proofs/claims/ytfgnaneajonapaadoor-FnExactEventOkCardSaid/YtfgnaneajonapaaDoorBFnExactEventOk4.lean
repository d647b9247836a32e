/- A part of the proof of the law FnExactEventOk: its texts, one behind the other. -/
import Derived.Ground.SlgfProg
import Derived.Lib.IndexBytes
import Derived.Lib.Split
import Derived.Lib.SplitLaws
import Derived.Shelf.Abstract
import Derived.Shelf.LaysM
import Derived.Shelf.SlicesE.IndexFunc
import Derived.Shelf.Small.Strs
import Derived.Shelf.Small.Wraps
import Derived.Shelf.Strings.Builder1
import Derived.Shelf.Strings.Builder2
import Derived.Shelf.Strings.Count
import Derived.Shelf.Strings.OnBuilder
import Derived.Shelf.Strings.Prefix
import Derived.Shelf.Strings.Search1
import Derived.Shelf.Strings.Search2
import Derived.Shelf.Strings.Search3
import Derived.Shelf.Strings.Shaped
import Derived.Shelf.Strings.Split
import Derived.Shelf.Unicode.DecodeSlow
import Derived.Test.YtfgnaneajonapaaDoorProg
import Derived.Test.YtfgnaneajonapaaDoorBFnExactEventOk1
import Derived.Test.YtfgnaneajonapaaDoorBFnExactEventOk2
import Derived.Test.YtfgnaneajonapaaDoorBFnExactEventOk3
namespace Go.Proofs.YtfgnaneajonapaaDoor.Pr
open Go.RowKit Go.Proofs.YtfgnaneajonapaaDoorW.PrintWords Go.Proofs.YtfgnaneajonapaaDoorW.PrintLast Go.Proofs.YtfgnaneajonapaaDoorW.PrintMore
attribute [local go_sem] max2_int min2_int max_two min_two max_three min_three max_four min_four
set_option linter.unusedVariables false
set_option linter.unusedSimpArgs false
mutual
def spec_AskOk.j0 : Nat → Bool → Int → Int → ByteArray → ByteArray → ByteArray → Int → Option (Bool)
  | 0, _, _, _, _, _, _, _ => none
  | k + 1, x37, x195000, x195001, x195002, x195003, x195004, x195005 => if x37 = true then (some false) else (if x195000 = 3 then ((spec_l01In.f (x195004.size : Int) 1 60).bind fun t197 => (if t197 = true then (spec_AskOk.j1 k x195000 x195001 x195002 x195003 x195004 x195005) else (some false))) else (if x195004.toList = ([] : List UInt8) then (spec_AskOk.j1 k x195000 x195001 x195002 x195003 x195004 x195005) else (some false)))
def spec_AskOk.j1 : Nat → Int → Int → ByteArray → ByteArray → ByteArray → Int → Option (Bool)
  | 0, _, _, _, _, _, _ => none
  | k + 1, x195000, x195001, x195002, x195003, x195004, x195005 => if x195000 = 7 then ((spec_l11Named.f k x195002).bind fun t198 => (some t198)) else ((spec_EditOf.f x195000 x195001 x195002 x195003 x195004 x195005).bind fun bt199 => ((spec_EditOk.f k bt199.1 bt199.2.1 bt199.2.2.1 bt199.2.2.2.1 bt199.2.2.2.2).bind fun t204 => (some t204)))
end
def spec_AskOk.f (k : Nat) (a0_0 : Int) (a0_1 : Int) (a0_2 : ByteArray) (a0_3 : ByteArray) (a0_4 : ByteArray) (a0_5 : Int) : Option (Bool) := (spec_l01In.f a0_0 1 10).bind fun t195 => (if t195 = true then ((spec_l01In.f a0_1 1 9).bind fun t196 => (if t196 = true then (if a0_0 = 5 then (if a0_0 = 8 then (spec_AskOk.j0 k false a0_0 a0_1 a0_2 a0_3 a0_4 a0_5) else (if a0_0 = 9 then (spec_AskOk.j0 k false a0_0 a0_1 a0_2 a0_3 a0_4 a0_5) else (spec_AskOk.j0 k (a0_5 != 0) a0_0 a0_1 a0_2 a0_3 a0_4 a0_5))) else (if a0_3.toList = ([] : List UInt8) then (if a0_0 = 8 then (spec_AskOk.j0 k false a0_0 a0_1 a0_2 a0_3 a0_4 a0_5) else (if a0_0 = 9 then (spec_AskOk.j0 k false a0_0 a0_1 a0_2 a0_3 a0_4 a0_5) else (spec_AskOk.j0 k (a0_5 != 0) a0_0 a0_1 a0_2 a0_3 a0_4 a0_5))) else (spec_AskOk.j0 k true a0_0 a0_1 a0_2 a0_3 a0_4 a0_5))) else (spec_AskOk.j0 k true a0_0 a0_1 a0_2 a0_3 a0_4 a0_5))) else (spec_AskOk.j0 k true a0_0 a0_1 a0_2 a0_3 a0_4 a0_5))
set_option maxHeartbeats 8000000 in
set_option maxRecDepth 100000 in
theorem spec_AskOk.calls (k : Nat) (a0_0 : Int) (a0_1 : Int) (a0_2 : ByteArray) (a0_3 : ByteArray) (a0_4 : ByteArray) (a0_5 : Int) (r : Bool) (w : World) (h : spec_AskOk.f k a0_0 a0_1 a0_2 a0_3 a0_4 a0_5 = some r) :
    Calls Tryd.prog 13 #[.agg #[.int .i64 a0_0, .int .i64 a0_1, .string a0_2, .string a0_3, .string a0_4, .int .i64 a0_5]] w fun e w' => e = .returned (.bool r) ∧ Below w.heap.size w w' := by
  have hu33 := Tryd.underlying33
  have HB := Aside0.mk (Below.refl w.heap.size w)
  have H : ((spec_l01In.f a0_0 1 10).bind fun t195 => (if t195 = true then ((spec_l01In.f a0_1 1 9).bind fun t196 => (if t196 = true then (if a0_0 = 5 then (if a0_0 = 8 then (spec_AskOk.j0 k false a0_0 a0_1 a0_2 a0_3 a0_4 a0_5) else (if a0_0 = 9 then (spec_AskOk.j0 k false a0_0 a0_1 a0_2 a0_3 a0_4 a0_5) else (spec_AskOk.j0 k (a0_5 != 0) a0_0 a0_1 a0_2 a0_3 a0_4 a0_5))) else (if a0_3.toList = ([] : List UInt8) then (if a0_0 = 8 then (spec_AskOk.j0 k false a0_0 a0_1 a0_2 a0_3 a0_4 a0_5) else (if a0_0 = 9 then (spec_AskOk.j0 k false a0_0 a0_1 a0_2 a0_3 a0_4 a0_5) else (spec_AskOk.j0 k (a0_5 != 0) a0_0 a0_1 a0_2 a0_3 a0_4 a0_5))) else (spec_AskOk.j0 k true a0_0 a0_1 a0_2 a0_3 a0_4 a0_5))) else (spec_AskOk.j0 k true a0_0 a0_1 a0_2 a0_3 a0_4 a0_5))) else (spec_AskOk.j0 k true a0_0 a0_1 a0_2 a0_3 a0_4 a0_5))) = some r := h
  clear h
  have HC2 := Aside0.mk H
  clear H
  go_enter Tryd.func13, Tryd.ntmps13
  go_upto_region 1 with (first | ((with_reducible refine gate_dst (N := 1) rfl ?_); refine BX 1 #[.int .i64 a0_0, .int .i64 a0_1, .string a0_2, .string a0_3, .string a0_4, .int .i64 a0_5] 33 ?_; intro gb194 hg w3 hbox hb; have BK194 := Aside0.mk (hbox); have GW194 : Aside0 (w.heap.size ≤ gb194) := WG hg (BB HB.out); have GE194 := GW194; replace HB := Aside0.mk (below_step (BB HB.out) hb); clear hb hbox hg))
  (try simp only [Act.put, List.setIfInBounds_toArray, List.set_cons_zero, List.set_cons_succ])
  go_cut [37] (fun v37 wc => ∃ (kq : Nat) (x37_1 : Bool), v37 = .bool x37_1 ∧ Aside0 (spec_AskOk.j0 kq x37_1 a0_0 a0_1 a0_2 a0_3 a0_4 a0_5 = some r) ∧ Aside0 (kq ≤ k) ∧ Aside0 (wc.heap[gb194]? = some (.cells #[.int .i64 a0_0, .int .i64 a0_1, .string a0_2, .string a0_3, .string a0_4, .int .i64 a0_5] 33 (0, 0))) ∧ Aside0 (Below w.heap.size w wc))
  case first =>
    have H := HC2.out
    clear HC2
    replace H := Option.bind_eq_some_iff.mp H
    obtain ⟨t195, A40, H⟩ := H
    replace H : (if t195 = true then ((spec_l01In.f a0_1 1 9).bind fun t196 => (if t196 = true then (if a0_0 = 5 then (if a0_0 = 8 then (spec_AskOk.j0 k false a0_0 a0_1 a0_2 a0_3 a0_4 a0_5) else (if a0_0 = 9 then (spec_AskOk.j0 k false a0_0 a0_1 a0_2 a0_3 a0_4 a0_5) else (spec_AskOk.j0 k (a0_5 != 0) a0_0 a0_1 a0_2 a0_3 a0_4 a0_5))) else (if a0_3.toList = ([] : List UInt8) then (if a0_0 = 8 then (spec_AskOk.j0 k false a0_0 a0_1 a0_2 a0_3 a0_4 a0_5) else (if a0_0 = 9 then (spec_AskOk.j0 k false a0_0 a0_1 a0_2 a0_3 a0_4 a0_5) else (spec_AskOk.j0 k (a0_5 != 0) a0_0 a0_1 a0_2 a0_3 a0_4 a0_5))) else (spec_AskOk.j0 k true a0_0 a0_1 a0_2 a0_3 a0_4 a0_5))) else (spec_AskOk.j0 k true a0_0 a0_1 a0_2 a0_3 a0_4 a0_5))) else (spec_AskOk.j0 k true a0_0 a0_1 a0_2 a0_3 a0_4 a0_5)) = some r := H
    have A4 := Aside0.mk A40
    clear A40
    by_cases c5 : t195 = true
    · subst c5
      have H1 : ((spec_l01In.f a0_1 1 9).bind fun t196 => (if t196 = true then (if a0_0 = 5 then (if a0_0 = 8 then (spec_AskOk.j0 k false a0_0 a0_1 a0_2 a0_3 a0_4 a0_5) else (if a0_0 = 9 then (spec_AskOk.j0 k false a0_0 a0_1 a0_2 a0_3 a0_4 a0_5) else (spec_AskOk.j0 k (a0_5 != 0) a0_0 a0_1 a0_2 a0_3 a0_4 a0_5))) else (if a0_3.toList = ([] : List UInt8) then (if a0_0 = 8 then (spec_AskOk.j0 k false a0_0 a0_1 a0_2 a0_3 a0_4 a0_5) else (if a0_0 = 9 then (spec_AskOk.j0 k false a0_0 a0_1 a0_2 a0_3 a0_4 a0_5) else (spec_AskOk.j0 k (a0_5 != 0) a0_0 a0_1 a0_2 a0_3 a0_4 a0_5))) else (spec_AskOk.j0 k true a0_0 a0_1 a0_2 a0_3 a0_4 a0_5))) else (spec_AskOk.j0 k true a0_0 a0_1 a0_2 a0_3 a0_4 a0_5))) = some r := by rw [if_pos rfl] at H; exact H
      clear H
      have H := H1
      clear H1
      replace H := Option.bind_eq_some_iff.mp H
      obtain ⟨t196, A60, H⟩ := H
      replace H : (if t196 = true then (if a0_0 = 5 then (if a0_0 = 8 then (spec_AskOk.j0 k false a0_0 a0_1 a0_2 a0_3 a0_4 a0_5) else (if a0_0 = 9 then (spec_AskOk.j0 k false a0_0 a0_1 a0_2 a0_3 a0_4 a0_5) else (spec_AskOk.j0 k (a0_5 != 0) a0_0 a0_1 a0_2 a0_3 a0_4 a0_5))) else (if a0_3.toList = ([] : List UInt8) then (if a0_0 = 8 then (spec_AskOk.j0 k false a0_0 a0_1 a0_2 a0_3 a0_4 a0_5) else (if a0_0 = 9 then (spec_AskOk.j0 k false a0_0 a0_1 a0_2 a0_3 a0_4 a0_5) else (spec_AskOk.j0 k (a0_5 != 0) a0_0 a0_1 a0_2 a0_3 a0_4 a0_5))) else (spec_AskOk.j0 k true a0_0 a0_1 a0_2 a0_3 a0_4 a0_5))) else (spec_AskOk.j0 k true a0_0 a0_1 a0_2 a0_3 a0_4 a0_5)) = some r := H
      have A6 := Aside0.mk A60
      clear A60
      by_cases c7 : t196 = true
      · subst c7
        have H1 : (if a0_0 = 5 then (if a0_0 = 8 then (spec_AskOk.j0 k false a0_0 a0_1 a0_2 a0_3 a0_4 a0_5) else (if a0_0 = 9 then (spec_AskOk.j0 k false a0_0 a0_1 a0_2 a0_3 a0_4 a0_5) else (spec_AskOk.j0 k (a0_5 != 0) a0_0 a0_1 a0_2 a0_3 a0_4 a0_5))) else (if a0_3.toList = ([] : List UInt8) then (if a0_0 = 8 then (spec_AskOk.j0 k false a0_0 a0_1 a0_2 a0_3 a0_4 a0_5) else (if a0_0 = 9 then (spec_AskOk.j0 k false a0_0 a0_1 a0_2 a0_3 a0_4 a0_5) else (spec_AskOk.j0 k (a0_5 != 0) a0_0 a0_1 a0_2 a0_3 a0_4 a0_5))) else (spec_AskOk.j0 k true a0_0 a0_1 a0_2 a0_3 a0_4 a0_5))) = some r := by rw [if_pos rfl] at H; exact H
        clear H
        have H := H1
        clear H1
        by_cases c8 : a0_0 = 5
        · rw [if_pos c8] at H
          have c8b0 : (a0_0 == 5) = true := beq_iff_eq.mpr c8
          have c8b1 : (a0_0 != 5) = false := bne_eq_false_iff_eq.mpr c8
          clear c8
          (first | rw [c8b0] | (simp only [i64_w, i32_w]; rw [c8b0]) | skip)
          by_cases c9 : a0_0 = 8
          · rw [if_pos c9] at H
            have c9b0 : (a0_0 == 8) = true := beq_iff_eq.mpr c9
            have c9b1 : (a0_0 != 8) = false := bne_eq_false_iff_eq.mpr c9
            clear c9
            have H' := Aside0.mk H
            clear H
            have hcz10_0 : w3.cell? ⟨gb194, 0, none⟩ = some (.int .i64 a0_0) := (blk_cell BK194.out 0).trans rfl
            have hcz10_1 : w3.cell? ⟨gb194, 1, none⟩ = some (.int .i64 a0_1) := (blk_cell BK194.out 1).trans rfl
            have hcz10_2 : w3.cell? ⟨gb194, 2, none⟩ = some (.string a0_2) := (blk_cell BK194.out 2).trans rfl
            have hcz10_3 : w3.cell? ⟨gb194, 3, none⟩ = some (.string a0_3) := (blk_cell BK194.out 3).trans rfl
            have hcz10_4 : w3.cell? ⟨gb194, 4, none⟩ = some (.string a0_4) := (blk_cell BK194.out 4).trans rfl
            have hcz10_5 : w3.cell? ⟨gb194, 5, none⟩ = some (.int .i64 a0_5) := (blk_cell BK194.out 5).trans rfl
            have hfz10_0 := blk_frozen BK194.out 0
            have hfz10_1 := blk_frozen BK194.out 1
            have hfz10_2 := blk_frozen BK194.out 2
            have hfz10_3 := blk_frozen BK194.out 3
            have hfz10_4 := blk_frozen BK194.out 4
            have hfz10_5 := blk_frozen BK194.out 5
            go_wp2_with (first | ((with_reducible refine gate_callee (f := 27) rfl ?_); refine GL (some 5) rfl rfl Tryd.func27 #[.int .i64 a0_0, .int .i64 1, .int .i64 10] rfl ?_; (with_reducible refine (spec_l01In.calls a0_0 1 10 true _ A4.out).mono ?_); rintro e w' ⟨rfl, ⟨nd, rfl⟩⟩; refine ⟨_, rfl, ?_⟩) | (go_at_call 27; (with_reducible refine (spec_l01In.calls a0_1 1 9 true _ A6.out).mono ?_); rintro e w' ⟨rfl, ⟨nd, rfl⟩⟩))
            go_meet
            case rel => exact ⟨_, (false), FR, H', ⟨by first | omega | exact Nat.le_refl _⟩, ⟨by (with_reducible repeat (first | refine blk_drewN ?_ _ | refine blk_drew ?_ | refine blk_alloc ?_ _)); exact BK194.out⟩, ⟨(BB1 HB.out GE194.out)⟩⟩
          · rw [if_neg c9] at H
            have c9b0 : (a0_0 == 8) = false := beq_eq_false_iff_ne.mpr c9
            have c9b1 : (a0_0 != 8) = true := bne_iff_ne.mpr c9
            by_cases c11 : a0_0 = 9
            · rw [if_pos c11] at H
              have c11b0 : (a0_0 == 9) = true := beq_iff_eq.mpr c11
              have c11b1 : (a0_0 != 9) = false := bne_eq_false_iff_eq.mpr c11
              clear c11
              have H' := Aside0.mk H
              clear H
              have hcz12_0 : w3.cell? ⟨gb194, 0, none⟩ = some (.int .i64 a0_0) := (blk_cell BK194.out 0).trans rfl
              have hcz12_1 : w3.cell? ⟨gb194, 1, none⟩ = some (.int .i64 a0_1) := (blk_cell BK194.out 1).trans rfl
              have hcz12_2 : w3.cell? ⟨gb194, 2, none⟩ = some (.string a0_2) := (blk_cell BK194.out 2).trans rfl
              have hcz12_3 : w3.cell? ⟨gb194, 3, none⟩ = some (.string a0_3) := (blk_cell BK194.out 3).trans rfl
              have hcz12_4 : w3.cell? ⟨gb194, 4, none⟩ = some (.string a0_4) := (blk_cell BK194.out 4).trans rfl
              have hcz12_5 : w3.cell? ⟨gb194, 5, none⟩ = some (.int .i64 a0_5) := (blk_cell BK194.out 5).trans rfl
              have hfz12_0 := blk_frozen BK194.out 0
              have hfz12_1 := blk_frozen BK194.out 1
              have hfz12_2 := blk_frozen BK194.out 2
              have hfz12_3 := blk_frozen BK194.out 3
              have hfz12_4 := blk_frozen BK194.out 4
              have hfz12_5 := blk_frozen BK194.out 5
              go_wp2_with (first | ((with_reducible refine gate_callee (f := 27) rfl ?_); refine GL (some 5) rfl rfl Tryd.func27 #[.int .i64 a0_0, .int .i64 1, .int .i64 10] rfl ?_; (with_reducible refine (spec_l01In.calls a0_0 1 10 true _ A4.out).mono ?_); rintro e w' ⟨rfl, ⟨nd, rfl⟩⟩; refine ⟨_, rfl, ?_⟩) | (go_at_call 27; (with_reducible refine (spec_l01In.calls a0_1 1 9 true _ A6.out).mono ?_); rintro e w' ⟨rfl, ⟨nd, rfl⟩⟩))
              go_meet
              case rel => exact ⟨_, (false), FR, H', ⟨by first | omega | exact Nat.le_refl _⟩, ⟨by (with_reducible repeat (first | refine blk_drewN ?_ _ | refine blk_drew ?_ | refine blk_alloc ?_ _)); exact BK194.out⟩, ⟨(BB1 HB.out GE194.out)⟩⟩
            · rw [if_neg c11] at H
              have c11b0 : (a0_0 == 9) = false := beq_eq_false_iff_ne.mpr c11
              have c11b1 : (a0_0 != 9) = true := bne_iff_ne.mpr c11
              have H' := Aside0.mk H
              clear H
              have hcz13_0 : w3.cell? ⟨gb194, 0, none⟩ = some (.int .i64 a0_0) := (blk_cell BK194.out 0).trans rfl
              have hcz13_1 : w3.cell? ⟨gb194, 1, none⟩ = some (.int .i64 a0_1) := (blk_cell BK194.out 1).trans rfl
              have hcz13_2 : w3.cell? ⟨gb194, 2, none⟩ = some (.string a0_2) := (blk_cell BK194.out 2).trans rfl
              have hcz13_3 : w3.cell? ⟨gb194, 3, none⟩ = some (.string a0_3) := (blk_cell BK194.out 3).trans rfl
              have hcz13_4 : w3.cell? ⟨gb194, 4, none⟩ = some (.string a0_4) := (blk_cell BK194.out 4).trans rfl
              have hcz13_5 : w3.cell? ⟨gb194, 5, none⟩ = some (.int .i64 a0_5) := (blk_cell BK194.out 5).trans rfl
              have hfz13_0 := blk_frozen BK194.out 0
              have hfz13_1 := blk_frozen BK194.out 1
              have hfz13_2 := blk_frozen BK194.out 2
              have hfz13_3 := blk_frozen BK194.out 3
              have hfz13_4 := blk_frozen BK194.out 4
              have hfz13_5 := blk_frozen BK194.out 5
              go_wp2_with (first | ((with_reducible refine gate_callee (f := 27) rfl ?_); refine GL (some 5) rfl rfl Tryd.func27 #[.int .i64 a0_0, .int .i64 1, .int .i64 10] rfl ?_; (with_reducible refine (spec_l01In.calls a0_0 1 10 true _ A4.out).mono ?_); rintro e w' ⟨rfl, ⟨nd, rfl⟩⟩; refine ⟨_, rfl, ?_⟩) | (go_at_call 27; (with_reducible refine (spec_l01In.calls a0_1 1 9 true _ A6.out).mono ?_); rintro e w' ⟨rfl, ⟨nd, rfl⟩⟩))
              go_meet
              case rel => exact ⟨_, ((a0_5 != 0)), FR, H', ⟨by first | omega | exact Nat.le_refl _⟩, ⟨by (with_reducible repeat (first | refine blk_drewN ?_ _ | refine blk_drew ?_ | refine blk_alloc ?_ _)); exact BK194.out⟩, ⟨(BB1 HB.out GE194.out)⟩⟩
        · rw [if_neg c8] at H
          have c8b0 : (a0_0 == 5) = false := beq_eq_false_iff_ne.mpr c8
          have c8b1 : (a0_0 != 5) = true := bne_iff_ne.mpr c8
          (first | rw [c8b0] | (simp only [i64_w, i32_w]; rw [c8b0]) | skip)
          by_cases c14 : a0_3.toList = ([] : List UInt8)
          · rw [if_pos c14] at H
            have c14b0 : (a0_3.toList == ([] : List UInt8)) = true := beq_iff_eq.mpr c14
            have c14b1 : (a0_3.toList != ([] : List UInt8)) = false := bne_eq_false_iff_eq.mpr c14
            clear c14
            by_cases c15 : a0_0 = 8
            · rw [if_pos c15] at H
              have c15b0 : (a0_0 == 8) = true := beq_iff_eq.mpr c15
              have c15b1 : (a0_0 != 8) = false := bne_eq_false_iff_eq.mpr c15
              clear c15
              have H' := Aside0.mk H
              clear H
              have hcz16_0 : w3.cell? ⟨gb194, 0, none⟩ = some (.int .i64 a0_0) := (blk_cell BK194.out 0).trans rfl
              have hcz16_1 : w3.cell? ⟨gb194, 1, none⟩ = some (.int .i64 a0_1) := (blk_cell BK194.out 1).trans rfl
              have hcz16_2 : w3.cell? ⟨gb194, 2, none⟩ = some (.string a0_2) := (blk_cell BK194.out 2).trans rfl
              have hcz16_3 : w3.cell? ⟨gb194, 3, none⟩ = some (.string a0_3) := (blk_cell BK194.out 3).trans rfl
              have hcz16_4 : w3.cell? ⟨gb194, 4, none⟩ = some (.string a0_4) := (blk_cell BK194.out 4).trans rfl
              have hcz16_5 : w3.cell? ⟨gb194, 5, none⟩ = some (.int .i64 a0_5) := (blk_cell BK194.out 5).trans rfl
              have hfz16_0 := blk_frozen BK194.out 0
              have hfz16_1 := blk_frozen BK194.out 1
              have hfz16_2 := blk_frozen BK194.out 2
              have hfz16_3 := blk_frozen BK194.out 3
              have hfz16_4 := blk_frozen BK194.out 4
              have hfz16_5 := blk_frozen BK194.out 5
              go_wp2_with (first | ((with_reducible refine gate_callee (f := 27) rfl ?_); refine GL (some 5) rfl rfl Tryd.func27 #[.int .i64 a0_0, .int .i64 1, .int .i64 10] rfl ?_; (with_reducible refine (spec_l01In.calls a0_0 1 10 true _ A4.out).mono ?_); rintro e w' ⟨rfl, ⟨nd, rfl⟩⟩; refine ⟨_, rfl, ?_⟩) | (go_at_call 27; (with_reducible refine (spec_l01In.calls a0_1 1 9 true _ A6.out).mono ?_); rintro e w' ⟨rfl, ⟨nd, rfl⟩⟩))
              go_meet
              case rel => exact ⟨_, (false), FR, H', ⟨by first | omega | exact Nat.le_refl _⟩, ⟨by (with_reducible repeat (first | refine blk_drewN ?_ _ | refine blk_drew ?_ | refine blk_alloc ?_ _)); exact BK194.out⟩, ⟨(BB1 HB.out GE194.out)⟩⟩
            · rw [if_neg c15] at H
              have c15b0 : (a0_0 == 8) = false := beq_eq_false_iff_ne.mpr c15
              have c15b1 : (a0_0 != 8) = true := bne_iff_ne.mpr c15
              by_cases c17 : a0_0 = 9
              · rw [if_pos c17] at H
                have c17b0 : (a0_0 == 9) = true := beq_iff_eq.mpr c17
                have c17b1 : (a0_0 != 9) = false := bne_eq_false_iff_eq.mpr c17
                clear c17
                have H' := Aside0.mk H
                clear H
                have hcz18_0 : w3.cell? ⟨gb194, 0, none⟩ = some (.int .i64 a0_0) := (blk_cell BK194.out 0).trans rfl
                have hcz18_1 : w3.cell? ⟨gb194, 1, none⟩ = some (.int .i64 a0_1) := (blk_cell BK194.out 1).trans rfl
                have hcz18_2 : w3.cell? ⟨gb194, 2, none⟩ = some (.string a0_2) := (blk_cell BK194.out 2).trans rfl
                have hcz18_3 : w3.cell? ⟨gb194, 3, none⟩ = some (.string a0_3) := (blk_cell BK194.out 3).trans rfl
                have hcz18_4 : w3.cell? ⟨gb194, 4, none⟩ = some (.string a0_4) := (blk_cell BK194.out 4).trans rfl
                have hcz18_5 : w3.cell? ⟨gb194, 5, none⟩ = some (.int .i64 a0_5) := (blk_cell BK194.out 5).trans rfl
                have hfz18_0 := blk_frozen BK194.out 0
                have hfz18_1 := blk_frozen BK194.out 1
                have hfz18_2 := blk_frozen BK194.out 2
                have hfz18_3 := blk_frozen BK194.out 3
                have hfz18_4 := blk_frozen BK194.out 4
                have hfz18_5 := blk_frozen BK194.out 5
                go_wp2_with (first | ((with_reducible refine gate_callee (f := 27) rfl ?_); refine GL (some 5) rfl rfl Tryd.func27 #[.int .i64 a0_0, .int .i64 1, .int .i64 10] rfl ?_; (with_reducible refine (spec_l01In.calls a0_0 1 10 true _ A4.out).mono ?_); rintro e w' ⟨rfl, ⟨nd, rfl⟩⟩; refine ⟨_, rfl, ?_⟩) | (go_at_call 27; (with_reducible refine (spec_l01In.calls a0_1 1 9 true _ A6.out).mono ?_); rintro e w' ⟨rfl, ⟨nd, rfl⟩⟩))
                go_meet
                case rel => exact ⟨_, (false), FR, H', ⟨by first | omega | exact Nat.le_refl _⟩, ⟨by (with_reducible repeat (first | refine blk_drewN ?_ _ | refine blk_drew ?_ | refine blk_alloc ?_ _)); exact BK194.out⟩, ⟨(BB1 HB.out GE194.out)⟩⟩
              · rw [if_neg c17] at H
                have c17b0 : (a0_0 == 9) = false := beq_eq_false_iff_ne.mpr c17
                have c17b1 : (a0_0 != 9) = true := bne_iff_ne.mpr c17
                have H' := Aside0.mk H
                clear H
                have hcz19_0 : w3.cell? ⟨gb194, 0, none⟩ = some (.int .i64 a0_0) := (blk_cell BK194.out 0).trans rfl
                have hcz19_1 : w3.cell? ⟨gb194, 1, none⟩ = some (.int .i64 a0_1) := (blk_cell BK194.out 1).trans rfl
                have hcz19_2 : w3.cell? ⟨gb194, 2, none⟩ = some (.string a0_2) := (blk_cell BK194.out 2).trans rfl
                have hcz19_3 : w3.cell? ⟨gb194, 3, none⟩ = some (.string a0_3) := (blk_cell BK194.out 3).trans rfl
                have hcz19_4 : w3.cell? ⟨gb194, 4, none⟩ = some (.string a0_4) := (blk_cell BK194.out 4).trans rfl
                have hcz19_5 : w3.cell? ⟨gb194, 5, none⟩ = some (.int .i64 a0_5) := (blk_cell BK194.out 5).trans rfl
                have hfz19_0 := blk_frozen BK194.out 0
                have hfz19_1 := blk_frozen BK194.out 1
                have hfz19_2 := blk_frozen BK194.out 2
                have hfz19_3 := blk_frozen BK194.out 3
                have hfz19_4 := blk_frozen BK194.out 4
                have hfz19_5 := blk_frozen BK194.out 5
                go_wp2_with (first | ((with_reducible refine gate_callee (f := 27) rfl ?_); refine GL (some 5) rfl rfl Tryd.func27 #[.int .i64 a0_0, .int .i64 1, .int .i64 10] rfl ?_; (with_reducible refine (spec_l01In.calls a0_0 1 10 true _ A4.out).mono ?_); rintro e w' ⟨rfl, ⟨nd, rfl⟩⟩; refine ⟨_, rfl, ?_⟩) | (go_at_call 27; (with_reducible refine (spec_l01In.calls a0_1 1 9 true _ A6.out).mono ?_); rintro e w' ⟨rfl, ⟨nd, rfl⟩⟩))
                go_meet
                case rel => exact ⟨_, ((a0_5 != 0)), FR, H', ⟨by first | omega | exact Nat.le_refl _⟩, ⟨by (with_reducible repeat (first | refine blk_drewN ?_ _ | refine blk_drew ?_ | refine blk_alloc ?_ _)); exact BK194.out⟩, ⟨(BB1 HB.out GE194.out)⟩⟩
          · rw [if_neg c14] at H
            have c14b0 : (a0_3.toList == ([] : List UInt8)) = false := beq_eq_false_iff_ne.mpr c14
            have c14b1 : (a0_3.toList != ([] : List UInt8)) = true := bne_iff_ne.mpr c14
            have H' := Aside0.mk H
            clear H
            have hcz20_0 : w3.cell? ⟨gb194, 0, none⟩ = some (.int .i64 a0_0) := (blk_cell BK194.out 0).trans rfl
            have hcz20_1 : w3.cell? ⟨gb194, 1, none⟩ = some (.int .i64 a0_1) := (blk_cell BK194.out 1).trans rfl
            have hcz20_2 : w3.cell? ⟨gb194, 2, none⟩ = some (.string a0_2) := (blk_cell BK194.out 2).trans rfl
            have hcz20_3 : w3.cell? ⟨gb194, 3, none⟩ = some (.string a0_3) := (blk_cell BK194.out 3).trans rfl
            have hcz20_4 : w3.cell? ⟨gb194, 4, none⟩ = some (.string a0_4) := (blk_cell BK194.out 4).trans rfl
            have hcz20_5 : w3.cell? ⟨gb194, 5, none⟩ = some (.int .i64 a0_5) := (blk_cell BK194.out 5).trans rfl
            have hfz20_0 := blk_frozen BK194.out 0
            have hfz20_1 := blk_frozen BK194.out 1
            have hfz20_2 := blk_frozen BK194.out 2
            have hfz20_3 := blk_frozen BK194.out 3
            have hfz20_4 := blk_frozen BK194.out 4
            have hfz20_5 := blk_frozen BK194.out 5
            go_wp2_with (first | ((with_reducible refine gate_callee (f := 27) rfl ?_); refine GL (some 5) rfl rfl Tryd.func27 #[.int .i64 a0_0, .int .i64 1, .int .i64 10] rfl ?_; (with_reducible refine (spec_l01In.calls a0_0 1 10 true _ A4.out).mono ?_); rintro e w' ⟨rfl, ⟨nd, rfl⟩⟩; refine ⟨_, rfl, ?_⟩) | (go_at_call 27; (with_reducible refine (spec_l01In.calls a0_1 1 9 true _ A6.out).mono ?_); rintro e w' ⟨rfl, ⟨nd, rfl⟩⟩))
            go_meet
            case rel => exact ⟨_, (true), FR, H', ⟨by first | omega | exact Nat.le_refl _⟩, ⟨by (with_reducible repeat (first | refine blk_drewN ?_ _ | refine blk_drew ?_ | refine blk_alloc ?_ _)); exact BK194.out⟩, ⟨(BB1 HB.out GE194.out)⟩⟩
      · replace c7 := Bool.eq_false_iff.mpr c7
        subst c7
        have H1 : (spec_AskOk.j0 k true a0_0 a0_1 a0_2 a0_3 a0_4 a0_5) = some r := by rw [if_neg (show ¬ (false = true) by decide)] at H; exact H
        clear H
        have H := H1
        clear H1
        have H' := Aside0.mk H
        clear H
        have hcz21_0 : w3.cell? ⟨gb194, 0, none⟩ = some (.int .i64 a0_0) := (blk_cell BK194.out 0).trans rfl
        have hcz21_1 : w3.cell? ⟨gb194, 1, none⟩ = some (.int .i64 a0_1) := (blk_cell BK194.out 1).trans rfl
        have hcz21_2 : w3.cell? ⟨gb194, 2, none⟩ = some (.string a0_2) := (blk_cell BK194.out 2).trans rfl
        have hcz21_3 : w3.cell? ⟨gb194, 3, none⟩ = some (.string a0_3) := (blk_cell BK194.out 3).trans rfl
        have hcz21_4 : w3.cell? ⟨gb194, 4, none⟩ = some (.string a0_4) := (blk_cell BK194.out 4).trans rfl
        have hcz21_5 : w3.cell? ⟨gb194, 5, none⟩ = some (.int .i64 a0_5) := (blk_cell BK194.out 5).trans rfl
        have hfz21_0 := blk_frozen BK194.out 0
        have hfz21_1 := blk_frozen BK194.out 1
        have hfz21_2 := blk_frozen BK194.out 2
        have hfz21_3 := blk_frozen BK194.out 3
        have hfz21_4 := blk_frozen BK194.out 4
        have hfz21_5 := blk_frozen BK194.out 5
        go_wp2_with (first | ((with_reducible refine gate_callee (f := 27) rfl ?_); refine GL (some 5) rfl rfl Tryd.func27 #[.int .i64 a0_0, .int .i64 1, .int .i64 10] rfl ?_; (with_reducible refine (spec_l01In.calls a0_0 1 10 true _ A4.out).mono ?_); rintro e w' ⟨rfl, ⟨nd, rfl⟩⟩; refine ⟨_, rfl, ?_⟩) | (go_at_call 27; (with_reducible refine (spec_l01In.calls a0_1 1 9 false _ A6.out).mono ?_); rintro e w' ⟨rfl, ⟨nd, rfl⟩⟩))
        go_meet
        case rel => exact ⟨_, (true), FR, H', ⟨by first | omega | exact Nat.le_refl _⟩, ⟨by (with_reducible repeat (first | refine blk_drewN ?_ _ | refine blk_drew ?_ | refine blk_alloc ?_ _)); exact BK194.out⟩, ⟨(BB1 HB.out GE194.out)⟩⟩
    · replace c5 := Bool.eq_false_iff.mpr c5
      subst c5
      have H1 : (spec_AskOk.j0 k true a0_0 a0_1 a0_2 a0_3 a0_4 a0_5) = some r := by rw [if_neg (show ¬ (false = true) by decide)] at H; exact H
      clear H
      have H := H1
      clear H1
      have H' := Aside0.mk H
      clear H
      have hcz22_0 : w3.cell? ⟨gb194, 0, none⟩ = some (.int .i64 a0_0) := (blk_cell BK194.out 0).trans rfl
      have hcz22_1 : w3.cell? ⟨gb194, 1, none⟩ = some (.int .i64 a0_1) := (blk_cell BK194.out 1).trans rfl
      have hcz22_2 : w3.cell? ⟨gb194, 2, none⟩ = some (.string a0_2) := (blk_cell BK194.out 2).trans rfl
      have hcz22_3 : w3.cell? ⟨gb194, 3, none⟩ = some (.string a0_3) := (blk_cell BK194.out 3).trans rfl
      have hcz22_4 : w3.cell? ⟨gb194, 4, none⟩ = some (.string a0_4) := (blk_cell BK194.out 4).trans rfl
      have hcz22_5 : w3.cell? ⟨gb194, 5, none⟩ = some (.int .i64 a0_5) := (blk_cell BK194.out 5).trans rfl
      have hfz22_0 := blk_frozen BK194.out 0
      have hfz22_1 := blk_frozen BK194.out 1
      have hfz22_2 := blk_frozen BK194.out 2
      have hfz22_3 := blk_frozen BK194.out 3
      have hfz22_4 := blk_frozen BK194.out 4
      have hfz22_5 := blk_frozen BK194.out 5
      go_wp2_with (first | ((with_reducible refine gate_callee (f := 27) rfl ?_); refine GL (some 5) rfl rfl Tryd.func27 #[.int .i64 a0_0, .int .i64 1, .int .i64 10] rfl ?_; (with_reducible refine (spec_l01In.calls a0_0 1 10 false _ A4.out).mono ?_); rintro e w' ⟨rfl, ⟨nd, rfl⟩⟩; refine ⟨_, rfl, ?_⟩))
      go_meet
      case rel => exact ⟨_, (true), FR, H', ⟨by first | omega | exact Nat.le_refl _⟩, ⟨by (with_reducible repeat (first | refine blk_drewN ?_ _ | refine blk_drew ?_ | refine blk_alloc ?_ _)); exact BK194.out⟩, ⟨(BB1 HB.out GE194.out)⟩⟩
  case rest =>
    clear HC2
    try clear c1
    try clear c2
    try clear p2
    try clear c5
    try clear c7
    try clear c8
    try clear c8b0
    try clear c8b1
    try clear c9
    try clear c9b0
    try clear c9b1
    try clear c11
    try clear c11b0
    try clear c11b1
    try clear c13
    try clear c14
    try clear c14b0
    try clear c14b1
    try clear c15
    try clear c15b0
    try clear c15b1
    try clear c17
    try clear c17b0
    try clear c17b1
    try clear hcz10_0
    try clear hcz10_1
    try clear hcz10_2
    try clear hcz10_3
    try clear hcz10_4
    try clear hcz10_5
    try clear hcz12_0
    try clear hcz12_1
    try clear hcz12_2
    try clear hcz12_3
    try clear hcz12_4
    try clear hcz12_5
    try clear hcz13_0
    try clear hcz13_1
    try clear hcz13_2
    try clear hcz13_3
    try clear hcz13_4
    try clear hcz13_5
    try clear hcz16_0
    try clear hcz16_1
    try clear hcz16_2
    try clear hcz16_3
    try clear hcz16_4
    try clear hcz16_5
    try clear hcz18_0
    try clear hcz18_1
    try clear hcz18_2
    try clear hcz18_3
    try clear hcz18_4
    try clear hcz18_5
    try clear hcz19_0
    try clear hcz19_1
    try clear hcz19_2
    try clear hcz19_3
    try clear hcz19_4
    try clear hcz19_5
    try clear hcz20_0
    try clear hcz20_1
    try clear hcz20_2
    try clear hcz20_3
    try clear hcz20_4
    try clear hcz20_5
    try clear hcz21_0
    try clear hcz21_1
    try clear hcz21_2
    try clear hcz21_3
    try clear hcz21_4
    try clear hcz21_5
    try clear hcz22_0
    try clear hcz22_1
    try clear hcz22_2
    try clear hcz22_3
    try clear hcz22_4
    try clear hcz22_5
    try clear hfz10_0
    try clear hfz10_1
    try clear hfz10_2
    try clear hfz10_3
    try clear hfz10_4
    try clear hfz10_5
    try clear hfz12_0
    try clear hfz12_1
    try clear hfz12_2
    try clear hfz12_3
    try clear hfz12_4
    try clear hfz12_5
    try clear hfz13_0
    try clear hfz13_1
    try clear hfz13_2
    try clear hfz13_3
    try clear hfz13_4
    try clear hfz13_5
    try clear hfz16_0
    try clear hfz16_1
    try clear hfz16_2
    try clear hfz16_3
    try clear hfz16_4
    try clear hfz16_5
    try clear hfz18_0
    try clear hfz18_1
    try clear hfz18_2
    try clear hfz18_3
    try clear hfz18_4
    try clear hfz18_5
    try clear hfz19_0
    try clear hfz19_1
    try clear hfz19_2
    try clear hfz19_3
    try clear hfz19_4
    try clear hfz19_5
    try clear hfz20_0
    try clear hfz20_1
    try clear hfz20_2
    try clear hfz20_3
    try clear hfz20_4
    try clear hfz20_5
    try clear hfz21_0
    try clear hfz21_1
    try clear hfz21_2
    try clear hfz21_3
    try clear hfz21_4
    try clear hfz21_5
    try clear hfz22_0
    try clear hfz22_1
    try clear hfz22_2
    try clear hfz22_3
    try clear hfz22_4
    try clear hfz22_5
    obtain ⟨kq, x37_1, rfl, HA, HJ1, BK194, HB⟩ := hcut
    cases kq with
    | zero => exact absurd HA.out (by simp [spec_AskOk.j0])
    | succ kj1 =>
      have H := HA.out
      clear HA
      simp only [spec_AskOk.j0] at H
      by_cases c23 : x37_1 = true
      · subst c23
        have H1 : (some false) = some r := by rw [if_pos rfl] at H; exact H
        clear H
        have H := H1
        clear H1
        obtain rfl := Option.some.inj H
        go_wp2
        go_ret
        exact ⟨ER, (BB1 HB.out GE194.out)⟩
      · replace c23 := Bool.eq_false_iff.mpr c23
        subst c23
        have H1 : (if a0_0 = 3 then ((spec_l01In.f (a0_4.size : Int) 1 60).bind fun t197 => (if t197 = true then (spec_AskOk.j1 kj1 a0_0 a0_1 a0_2 a0_3 a0_4 a0_5) else (some false))) else (if a0_4.toList = ([] : List UInt8) then (spec_AskOk.j1 kj1 a0_0 a0_1 a0_2 a0_3 a0_4 a0_5) else (some false))) = some r := by rw [if_neg (show ¬ (false = true) by decide)] at H; exact H
        clear H
        have H := H1
        clear H1
        have HC24 := Aside0.mk H
        clear H
        have hcz25_0 : wc.cell? ⟨gb194, 0, none⟩ = some (.int .i64 a0_0) := (blk_cell BK194.out 0).trans rfl
        have hcz25_1 : wc.cell? ⟨gb194, 1, none⟩ = some (.int .i64 a0_1) := (blk_cell BK194.out 1).trans rfl
        have hcz25_2 : wc.cell? ⟨gb194, 2, none⟩ = some (.string a0_2) := (blk_cell BK194.out 2).trans rfl
        have hcz25_3 : wc.cell? ⟨gb194, 3, none⟩ = some (.string a0_3) := (blk_cell BK194.out 3).trans rfl
        have hcz25_4 : wc.cell? ⟨gb194, 4, none⟩ = some (.string a0_4) := (blk_cell BK194.out 4).trans rfl
        have hcz25_5 : wc.cell? ⟨gb194, 5, none⟩ = some (.int .i64 a0_5) := (blk_cell BK194.out 5).trans rfl
        have hfz25_0 := blk_frozen BK194.out 0
        have hfz25_1 := blk_frozen BK194.out 1
        have hfz25_2 := blk_frozen BK194.out 2
        have hfz25_3 := blk_frozen BK194.out 3
        have hfz25_4 := blk_frozen BK194.out 4
        have hfz25_5 := blk_frozen BK194.out 5
        go_upto_if 40 with (fail)
        go_cut [] (fun wc => ∃ (kq : Nat), Aside0 (spec_AskOk.j1 kq a0_0 a0_1 a0_2 a0_3 a0_4 a0_5 = some r) ∧ Aside0 (kq ≤ kj1) ∧ Aside0 (wc.heap[gb194]? = some (.cells #[.int .i64 a0_0, .int .i64 a0_1, .string a0_2, .string a0_3, .string a0_4, .int .i64 a0_5] 33 (0, 0))) ∧ Aside0 (Below w.heap.size w wc))
        case first =>
          have H := HC24.out
          clear HC24
          by_cases c26 : a0_0 = 3
          · rw [if_pos c26] at H
            have c26b0 : (a0_0 == 3) = true := beq_iff_eq.mpr c26
            have c26b1 : (a0_0 != 3) = false := bne_eq_false_iff_eq.mpr c26
            clear c26
            (first | rw [c26b0] | (simp only [i64_w, i32_w]; rw [c26b0]) | skip)
            replace H := Option.bind_eq_some_iff.mp H
            obtain ⟨t197, A270, H⟩ := H
            replace H : (if t197 = true then (spec_AskOk.j1 kj1 a0_0 a0_1 a0_2 a0_3 a0_4 a0_5) else (some false)) = some r := H
            have A27 := Aside0.mk A270
            clear A270
            by_cases c28 : t197 = true
            · subst c28
              have H1 : (spec_AskOk.j1 kj1 a0_0 a0_1 a0_2 a0_3 a0_4 a0_5) = some r := by rw [if_pos rfl] at H; exact H
              clear H
              have H := H1
              clear H1
              have H' := Aside0.mk H
              clear H
              have hcz29_0 : wc.cell? ⟨gb194, 0, none⟩ = some (.int .i64 a0_0) := (blk_cell BK194.out 0).trans rfl
              have hcz29_1 : wc.cell? ⟨gb194, 1, none⟩ = some (.int .i64 a0_1) := (blk_cell BK194.out 1).trans rfl
              have hcz29_2 : wc.cell? ⟨gb194, 2, none⟩ = some (.string a0_2) := (blk_cell BK194.out 2).trans rfl
              have hcz29_3 : wc.cell? ⟨gb194, 3, none⟩ = some (.string a0_3) := (blk_cell BK194.out 3).trans rfl
              have hcz29_4 : wc.cell? ⟨gb194, 4, none⟩ = some (.string a0_4) := (blk_cell BK194.out 4).trans rfl
              have hcz29_5 : wc.cell? ⟨gb194, 5, none⟩ = some (.int .i64 a0_5) := (blk_cell BK194.out 5).trans rfl
              have hfz29_0 := blk_frozen BK194.out 0
              have hfz29_1 := blk_frozen BK194.out 1
              have hfz29_2 := blk_frozen BK194.out 2
              have hfz29_3 := blk_frozen BK194.out 3
              have hfz29_4 := blk_frozen BK194.out 4
              have hfz29_5 := blk_frozen BK194.out 5
              go_wp2_with (first | ((with_reducible refine gate_callee (f := 27) rfl ?_); refine GL (some 44) rfl rfl Tryd.func27 #[.int .i64 (a0_4.size : Int), .int .i64 1, .int .i64 60] rfl ?_; (with_reducible refine (spec_l01In.calls (a0_4.size : Int) 1 60 true _ A27.out).mono ?_); rintro e w' ⟨rfl, ⟨nd, rfl⟩⟩; refine ⟨_, rfl, ?_⟩))
              go_meet
              case rel => exact ⟨_, H', ⟨by have := HJ1.out; first | omega | exact Nat.le_refl _⟩, ⟨by (with_reducible repeat (first | refine blk_drewN ?_ _ | refine blk_drew ?_ | refine blk_alloc ?_ _)); exact BK194.out⟩, ⟨(BB1 HB.out GE194.out)⟩⟩
            · replace c28 := Bool.eq_false_iff.mpr c28
              subst c28
              have H1 : (some false) = some r := by rw [if_neg (show ¬ (false = true) by decide)] at H; exact H
              clear H
              have H := H1
              clear H1
              obtain rfl := Option.some.inj H
              have hcz30_0 : wc.cell? ⟨gb194, 0, none⟩ = some (.int .i64 a0_0) := (blk_cell BK194.out 0).trans rfl
              have hcz30_1 : wc.cell? ⟨gb194, 1, none⟩ = some (.int .i64 a0_1) := (blk_cell BK194.out 1).trans rfl
              have hcz30_2 : wc.cell? ⟨gb194, 2, none⟩ = some (.string a0_2) := (blk_cell BK194.out 2).trans rfl
              have hcz30_3 : wc.cell? ⟨gb194, 3, none⟩ = some (.string a0_3) := (blk_cell BK194.out 3).trans rfl
              have hcz30_4 : wc.cell? ⟨gb194, 4, none⟩ = some (.string a0_4) := (blk_cell BK194.out 4).trans rfl
              have hcz30_5 : wc.cell? ⟨gb194, 5, none⟩ = some (.int .i64 a0_5) := (blk_cell BK194.out 5).trans rfl
              have hfz30_0 := blk_frozen BK194.out 0
              have hfz30_1 := blk_frozen BK194.out 1
              have hfz30_2 := blk_frozen BK194.out 2
              have hfz30_3 := blk_frozen BK194.out 3
              have hfz30_4 := blk_frozen BK194.out 4
              have hfz30_5 := blk_frozen BK194.out 5
              go_wp2_with (first | ((with_reducible refine gate_callee (f := 27) rfl ?_); refine GL (some 44) rfl rfl Tryd.func27 #[.int .i64 (a0_4.size : Int), .int .i64 1, .int .i64 60] rfl ?_; (with_reducible refine (spec_l01In.calls (a0_4.size : Int) 1 60 false _ A27.out).mono ?_); rintro e w' ⟨rfl, ⟨nd, rfl⟩⟩; refine ⟨_, rfl, ?_⟩))
              go_ret
              exact ⟨ER, (BB1 HB.out GE194.out)⟩
          · rw [if_neg c26] at H
            have c26b0 : (a0_0 == 3) = false := beq_eq_false_iff_ne.mpr c26
            have c26b1 : (a0_0 != 3) = true := bne_iff_ne.mpr c26
            (first | rw [c26b0] | (simp only [i64_w, i32_w]; rw [c26b0]) | skip)
            by_cases c31 : a0_4.toList = ([] : List UInt8)
            · rw [if_pos c31] at H
              have c31b0 : (a0_4.toList == ([] : List UInt8)) = true := beq_iff_eq.mpr c31
              have c31b1 : (a0_4.toList != ([] : List UInt8)) = false := bne_eq_false_iff_eq.mpr c31
              clear c31
              have H' := Aside0.mk H
              clear H
              have hcz32_0 : wc.cell? ⟨gb194, 0, none⟩ = some (.int .i64 a0_0) := (blk_cell BK194.out 0).trans rfl
              have hcz32_1 : wc.cell? ⟨gb194, 1, none⟩ = some (.int .i64 a0_1) := (blk_cell BK194.out 1).trans rfl
              have hcz32_2 : wc.cell? ⟨gb194, 2, none⟩ = some (.string a0_2) := (blk_cell BK194.out 2).trans rfl
              have hcz32_3 : wc.cell? ⟨gb194, 3, none⟩ = some (.string a0_3) := (blk_cell BK194.out 3).trans rfl
              have hcz32_4 : wc.cell? ⟨gb194, 4, none⟩ = some (.string a0_4) := (blk_cell BK194.out 4).trans rfl
              have hcz32_5 : wc.cell? ⟨gb194, 5, none⟩ = some (.int .i64 a0_5) := (blk_cell BK194.out 5).trans rfl
              have hfz32_0 := blk_frozen BK194.out 0
              have hfz32_1 := blk_frozen BK194.out 1
              have hfz32_2 := blk_frozen BK194.out 2
              have hfz32_3 := blk_frozen BK194.out 3
              have hfz32_4 := blk_frozen BK194.out 4
              have hfz32_5 := blk_frozen BK194.out 5
              go_wp2
              go_meet
              case rel => exact ⟨_, H', ⟨by have := HJ1.out; first | omega | exact Nat.le_refl _⟩, ⟨by (with_reducible repeat (first | refine blk_drewN ?_ _ | refine blk_drew ?_ | refine blk_alloc ?_ _)); exact BK194.out⟩, ⟨(BB1 HB.out GE194.out)⟩⟩
            · rw [if_neg c31] at H
              have c31b0 : (a0_4.toList == ([] : List UInt8)) = false := beq_eq_false_iff_ne.mpr c31
              have c31b1 : (a0_4.toList != ([] : List UInt8)) = true := bne_iff_ne.mpr c31
              obtain rfl := Option.some.inj H
              have hcz33_0 : wc.cell? ⟨gb194, 0, none⟩ = some (.int .i64 a0_0) := (blk_cell BK194.out 0).trans rfl
              have hcz33_1 : wc.cell? ⟨gb194, 1, none⟩ = some (.int .i64 a0_1) := (blk_cell BK194.out 1).trans rfl
              have hcz33_2 : wc.cell? ⟨gb194, 2, none⟩ = some (.string a0_2) := (blk_cell BK194.out 2).trans rfl
              have hcz33_3 : wc.cell? ⟨gb194, 3, none⟩ = some (.string a0_3) := (blk_cell BK194.out 3).trans rfl
              have hcz33_4 : wc.cell? ⟨gb194, 4, none⟩ = some (.string a0_4) := (blk_cell BK194.out 4).trans rfl
              have hcz33_5 : wc.cell? ⟨gb194, 5, none⟩ = some (.int .i64 a0_5) := (blk_cell BK194.out 5).trans rfl
              have hfz33_0 := blk_frozen BK194.out 0
              have hfz33_1 := blk_frozen BK194.out 1
              have hfz33_2 := blk_frozen BK194.out 2
              have hfz33_3 := blk_frozen BK194.out 3
              have hfz33_4 := blk_frozen BK194.out 4
              have hfz33_5 := blk_frozen BK194.out 5
              go_wp2
              go_ret
              exact ⟨ER, (BB1 HB.out GE194.out)⟩
        case rest =>
          clear HC24
          try clear c1
          try clear c2
          try clear p2
          try clear c3
          try clear c5
          try clear c7
          try clear c8
          try clear c8b0
          try clear c8b1
          try clear c9
          try clear c9b0
          try clear c9b1
          try clear c11
          try clear c11b0
          try clear c11b1
          try clear c13
          try clear c14
          try clear c14b0
          try clear c14b1
          try clear c15
          try clear c15b0
          try clear c15b1
          try clear c17
          try clear c17b0
          try clear c17b1
          try clear c23
          try clear c26
          try clear c26b0
          try clear c26b1
          try clear c27
          try clear c28
          try clear c31
          try clear c31b0
          try clear c31b1
          try clear hcz10_0
          try clear hcz10_1
          try clear hcz10_2
          try clear hcz10_3
          try clear hcz10_4
          try clear hcz10_5
          try clear hcz12_0
          try clear hcz12_1
          try clear hcz12_2
          try clear hcz12_3
          try clear hcz12_4
          try clear hcz12_5
          try clear hcz13_0
          try clear hcz13_1
          try clear hcz13_2
          try clear hcz13_3
          try clear hcz13_4
          try clear hcz13_5
          try clear hcz16_0
          try clear hcz16_1
          try clear hcz16_2
          try clear hcz16_3
          try clear hcz16_4
          try clear hcz16_5
          try clear hcz18_0
          try clear hcz18_1
          try clear hcz18_2
          try clear hcz18_3
          try clear hcz18_4
          try clear hcz18_5
          try clear hcz19_0
          try clear hcz19_1
          try clear hcz19_2
          try clear hcz19_3
          try clear hcz19_4
          try clear hcz19_5
          try clear hcz20_0
          try clear hcz20_1
          try clear hcz20_2
          try clear hcz20_3
          try clear hcz20_4
          try clear hcz20_5
          try clear hcz21_0
          try clear hcz21_1
          try clear hcz21_2
          try clear hcz21_3
          try clear hcz21_4
          try clear hcz21_5
          try clear hcz22_0
          try clear hcz22_1
          try clear hcz22_2
          try clear hcz22_3
          try clear hcz22_4
          try clear hcz22_5
          try clear hcz25_0
          try clear hcz25_1
          try clear hcz25_2
          try clear hcz25_3
          try clear hcz25_4
          try clear hcz25_5
          try clear hcz29_0
          try clear hcz29_1
          try clear hcz29_2
          try clear hcz29_3
          try clear hcz29_4
          try clear hcz29_5
          try clear hcz30_0
          try clear hcz30_1
          try clear hcz30_2
          try clear hcz30_3
          try clear hcz30_4
          try clear hcz30_5
          try clear hcz32_0
          try clear hcz32_1
          try clear hcz32_2
          try clear hcz32_3
          try clear hcz32_4
          try clear hcz32_5
          try clear hcz33_0
          try clear hcz33_1
          try clear hcz33_2
          try clear hcz33_3
          try clear hcz33_4
          try clear hcz33_5
          try clear hfz10_0
          try clear hfz10_1
          try clear hfz10_2
          try clear hfz10_3
          try clear hfz10_4
          try clear hfz10_5
          try clear hfz12_0
          try clear hfz12_1
          try clear hfz12_2
          try clear hfz12_3
          try clear hfz12_4
          try clear hfz12_5
          try clear hfz13_0
          try clear hfz13_1
          try clear hfz13_2
          try clear hfz13_3
          try clear hfz13_4
          try clear hfz13_5
          try clear hfz16_0
          try clear hfz16_1
          try clear hfz16_2
          try clear hfz16_3
          try clear hfz16_4
          try clear hfz16_5
          try clear hfz18_0
          try clear hfz18_1
          try clear hfz18_2
          try clear hfz18_3
          try clear hfz18_4
          try clear hfz18_5
          try clear hfz19_0
          try clear hfz19_1
          try clear hfz19_2
          try clear hfz19_3
          try clear hfz19_4
          try clear hfz19_5
          try clear hfz20_0
          try clear hfz20_1
          try clear hfz20_2
          try clear hfz20_3
          try clear hfz20_4
          try clear hfz20_5
          try clear hfz21_0
          try clear hfz21_1
          try clear hfz21_2
          try clear hfz21_3
          try clear hfz21_4
          try clear hfz21_5
          try clear hfz22_0
          try clear hfz22_1
          try clear hfz22_2
          try clear hfz22_3
          try clear hfz22_4
          try clear hfz22_5
          try clear hfz25_0
          try clear hfz25_1
          try clear hfz25_2
          try clear hfz25_3
          try clear hfz25_4
          try clear hfz25_5
          try clear hfz29_0
          try clear hfz29_1
          try clear hfz29_2
          try clear hfz29_3
          try clear hfz29_4
          try clear hfz29_5
          try clear hfz30_0
          try clear hfz30_1
          try clear hfz30_2
          try clear hfz30_3
          try clear hfz30_4
          try clear hfz30_5
          try clear hfz32_0
          try clear hfz32_1
          try clear hfz32_2
          try clear hfz32_3
          try clear hfz32_4
          try clear hfz32_5
          try clear hfz33_0
          try clear hfz33_1
          try clear hfz33_2
          try clear hfz33_3
          try clear hfz33_4
          try clear hfz33_5
          try clear p2
          obtain ⟨kq, HA, HJ23, BK194, HB⟩ := hcut
          cases kq with
          | zero => exact absurd HA.out (by simp [spec_AskOk.j1])
          | succ kj23 =>
            have H := HA.out
            clear HA
            simp only [spec_AskOk.j1] at H
            by_cases c34 : a0_0 = 7
            · rw [if_pos c34] at H
              have c34b0 : (a0_0 == 7) = true := beq_iff_eq.mpr c34
              have c34b1 : (a0_0 != 7) = false := bne_eq_false_iff_eq.mpr c34
              clear c34
              replace H := Option.bind_eq_some_iff.mp H
              obtain ⟨t198, A350, H⟩ := H
              replace H : (some t198) = some r := H
              have A35 := Aside0.mk A350
              clear A350
              obtain rfl := Option.some.inj H
              have hcz36_0 : wc.cell? ⟨gb194, 0, none⟩ = some (.int .i64 a0_0) := (blk_cell BK194.out 0).trans rfl
              have hcz36_1 : wc.cell? ⟨gb194, 1, none⟩ = some (.int .i64 a0_1) := (blk_cell BK194.out 1).trans rfl
              have hcz36_2 : wc.cell? ⟨gb194, 2, none⟩ = some (.string a0_2) := (blk_cell BK194.out 2).trans rfl
              have hcz36_3 : wc.cell? ⟨gb194, 3, none⟩ = some (.string a0_3) := (blk_cell BK194.out 3).trans rfl
              have hcz36_4 : wc.cell? ⟨gb194, 4, none⟩ = some (.string a0_4) := (blk_cell BK194.out 4).trans rfl
              have hcz36_5 : wc.cell? ⟨gb194, 5, none⟩ = some (.int .i64 a0_5) := (blk_cell BK194.out 5).trans rfl
              have hfz36_0 := blk_frozen BK194.out 0
              have hfz36_1 := blk_frozen BK194.out 1
              have hfz36_2 := blk_frozen BK194.out 2
              have hfz36_3 := blk_frozen BK194.out 3
              have hfz36_4 := blk_frozen BK194.out 4
              have hfz36_5 := blk_frozen BK194.out 5
              go_wp2_with (first | ((with_reducible refine gate_callee (f := 26) rfl ?_); refine GL (some 54) rfl rfl Tryd.func26 #[.string a0_2] rfl ?_; (with_reducible refine (spec_l11Named.calls kj23 a0_2 t198 _ A35.out).mono ?_); rintro e w37 ⟨rfl, hb⟩; refine ⟨_, rfl, ?_⟩; replace BK194 := Aside0.mk (KB BK194.out hb); replace HB := Aside0.mk (below_step (BB1 HB.out GE194.out) hb); (try clear hb)))
              go_ret
              exact ⟨ER, (BB1 HB.out GE194.out)⟩
            · rw [if_neg c34] at H
              have c34b0 : (a0_0 == 7) = false := beq_eq_false_iff_ne.mpr c34
              have c34b1 : (a0_0 != 7) = true := bne_iff_ne.mpr c34
              replace H := Option.bind_eq_some_iff.mp H
              obtain ⟨⟨t199, t200, t201, t202, t203⟩, A380, H⟩ := H
              replace H : ((spec_EditOk.f kj23 t199 t200 t201 t202 t203).bind fun t204 => (some t204)) = some r := H
              have A38 := Aside0.mk A380
              clear A380
              replace H := Option.bind_eq_some_iff.mp H
              obtain ⟨t204, A390, H⟩ := H
              replace H : (some t204) = some r := H
              have A39 := Aside0.mk A390
              clear A390
              obtain rfl := Option.some.inj H
              have hcz40_0 : wc.cell? ⟨gb194, 0, none⟩ = some (.int .i64 a0_0) := (blk_cell BK194.out 0).trans rfl
              have hcz40_1 : wc.cell? ⟨gb194, 1, none⟩ = some (.int .i64 a0_1) := (blk_cell BK194.out 1).trans rfl
              have hcz40_2 : wc.cell? ⟨gb194, 2, none⟩ = some (.string a0_2) := (blk_cell BK194.out 2).trans rfl
              have hcz40_3 : wc.cell? ⟨gb194, 3, none⟩ = some (.string a0_3) := (blk_cell BK194.out 3).trans rfl
              have hcz40_4 : wc.cell? ⟨gb194, 4, none⟩ = some (.string a0_4) := (blk_cell BK194.out 4).trans rfl
              have hcz40_5 : wc.cell? ⟨gb194, 5, none⟩ = some (.int .i64 a0_5) := (blk_cell BK194.out 5).trans rfl
              have hfz40_0 := blk_frozen BK194.out 0
              have hfz40_1 := blk_frozen BK194.out 1
              have hfz40_2 := blk_frozen BK194.out 2
              have hfz40_3 := blk_frozen BK194.out 3
              have hfz40_4 := blk_frozen BK194.out 4
              have hfz40_5 := blk_frozen BK194.out 5
              go_wp2_with (first | ((with_reducible refine gate_callee (f := 33) rfl ?_); refine GL (some 56) rfl rfl Tryd.func33 #[.agg #[.int .i64 a0_0, .int .i64 a0_1, .string a0_2, .string a0_3, .string a0_4, .int .i64 a0_5]] rfl ?_; (with_reducible refine (spec_EditOf.calls a0_0 a0_1 a0_2 a0_3 a0_4 a0_5 t199 t200 t201 t202 t203 _ A38.out).mono ?_); rintro e w41 ⟨rfl, hb⟩; refine ⟨_, rfl, ?_⟩; replace BK194 := Aside0.mk (KB BK194.out hb); replace HB := Aside0.mk (below_step (BB1 HB.out GE194.out) hb); (try clear hb)) | ((with_reducible refine gate_callee (f := 32) rfl ?_); refine GL (some 57) rfl rfl Tryd.func32 #[.agg #[.int .i64 t199, .string t200, .string t201, .int .i64 t202, .int .i64 t203]] rfl ?_; (with_reducible refine (spec_EditOk.calls kj23 t199 t200 t201 t202 t203 t204 _ A39.out).mono ?_); rintro e w42 ⟨rfl, hb⟩; refine ⟨_, rfl, ?_⟩; replace BK194 := Aside0.mk (KB BK194.out hb); replace HB := Aside0.mk (below_step (BB1 HB.out GE194.out) hb); (try clear hb)))
              go_ret
              exact ⟨ER, (BB1 HB.out GE194.out)⟩

end Go.Proofs.YtfgnaneajonapaaDoor.Pr

namespace Go.Proofs.YtfgnaneajonapaaDoor.Pr
open Go.RowKit Go.Proofs.YtfgnaneajonapaaDoorW.PrintWords Go.Proofs.YtfgnaneajonapaaDoorW.PrintLast Go.Proofs.YtfgnaneajonapaaDoorW.PrintMore
attribute [local go_sem] max2_int min2_int max_two min_two max_three min_three max_four min_four
set_option linter.unusedVariables false
set_option linter.unusedSimpArgs false
def spec_EventOk.f (k : Nat) (a0_0 : Int) (a0_1 : Int) (a0_2 : Int) (a0_3 : ByteArray) (a0_4 : ByteArray) (a0_5 : ByteArray) (a0_6 : Int) (a0_7 : Int) (a0_8 : Int) (a0_9 : Bool) (l0_10 : List Int) : Option (Bool) := (spec_l01In.f a0_0 1 9).bind fun t262 => (if t262 = true then ((spec_l01In.f a0_7 1 7).bind fun t263 => (if t263 = true then (if a0_8 < 0 then (some false) else (if (l0_10.length : Int) > 30 then (some false) else (if a0_0 = 1 then ((spec_AskOk.f k a0_1 a0_2 a0_3 a0_4 a0_5 a0_6).bind fun t264 => (some t264)) else (some true)))) else (some false))) else (some false))
set_option maxHeartbeats 8000000 in
set_option maxRecDepth 100000 in
theorem spec_EventOk.calls (k : Nat) (a0_0 : Int) (a0_1 : Int) (a0_2 : Int) (a0_3 : ByteArray) (a0_4 : ByteArray) (a0_5 : ByteArray) (a0_6 : Int) (a0_7 : Int) (a0_8 : Int) (a0_9 : Bool) (A0_10 : Option Addr) (c0_10 : Nat) (l0_10 : List Int) (r : Bool) (w : World) (hr0_10 : Kd.C (Kd.int .i64) w A0_10 l0_10.length l0_10) (hc0_10 : l0_10.length ≤ c0_10) (h : spec_EventOk.f k a0_0 a0_1 a0_2 a0_3 a0_4 a0_5 a0_6 a0_7 a0_8 a0_9 l0_10 = some r) :
    Calls Tryd.prog 17 #[.agg #[.int .i64 a0_0, .int .i64 a0_1, .int .i64 a0_2, .string a0_3, .string a0_4, .string a0_5, .int .i64 a0_6, .int .i64 a0_7, .int .i64 a0_8, .bool a0_9, .slice A0_10 l0_10.length c0_10]] w fun e w' => e = .returned (.bool r) ∧ Below w.heap.size w w' := by
  have hu42 := Tryd.underlying42
  have hu33 := Tryd.underlying33
  have HR0_10 := Aside0.mk hr0_10
  have HC0_10 := Aside0.mk hc0_10
  clear hr0_10 hc0_10
  have HB := Aside0.mk (Below.refl w.heap.size w)
  have H : ((spec_l01In.f a0_0 1 9).bind fun t262 => (if t262 = true then ((spec_l01In.f a0_7 1 7).bind fun t263 => (if t263 = true then (if a0_8 < 0 then (some false) else (if (l0_10.length : Int) > 30 then (some false) else (if a0_0 = 1 then ((spec_AskOk.f k a0_1 a0_2 a0_3 a0_4 a0_5 a0_6).bind fun t264 => (some t264)) else (some true)))) else (some false))) else (some false))) = some r := h
  clear h
  replace H := Option.bind_eq_some_iff.mp H
  obtain ⟨t262, A20, H⟩ := H
  replace H : (if t262 = true then ((spec_l01In.f a0_7 1 7).bind fun t263 => (if t263 = true then (if a0_8 < 0 then (some false) else (if (l0_10.length : Int) > 30 then (some false) else (if a0_0 = 1 then ((spec_AskOk.f k a0_1 a0_2 a0_3 a0_4 a0_5 a0_6).bind fun t264 => (some t264)) else (some true)))) else (some false))) else (some false)) = some r := H
  have A2 := Aside0.mk A20
  clear A20
  by_cases c3 : t262 = true
  · subst c3
    have H1 : ((spec_l01In.f a0_7 1 7).bind fun t263 => (if t263 = true then (if a0_8 < 0 then (some false) else (if (l0_10.length : Int) > 30 then (some false) else (if a0_0 = 1 then ((spec_AskOk.f k a0_1 a0_2 a0_3 a0_4 a0_5 a0_6).bind fun t264 => (some t264)) else (some true)))) else (some false))) = some r := by rw [if_pos rfl] at H; exact H
    clear H
    have H := H1
    clear H1
    replace H := Option.bind_eq_some_iff.mp H
    obtain ⟨t263, A40, H⟩ := H
    replace H : (if t263 = true then (if a0_8 < 0 then (some false) else (if (l0_10.length : Int) > 30 then (some false) else (if a0_0 = 1 then ((spec_AskOk.f k a0_1 a0_2 a0_3 a0_4 a0_5 a0_6).bind fun t264 => (some t264)) else (some true)))) else (some false)) = some r := H
    have A4 := Aside0.mk A40
    clear A40
    by_cases c5 : t263 = true
    · subst c5
      have H1 : (if a0_8 < 0 then (some false) else (if (l0_10.length : Int) > 30 then (some false) else (if a0_0 = 1 then ((spec_AskOk.f k a0_1 a0_2 a0_3 a0_4 a0_5 a0_6).bind fun t264 => (some t264)) else (some true)))) = some r := by rw [if_pos rfl] at H; exact H
      clear H
      have H := H1
      clear H1
      by_cases c6 : a0_8 < 0
      · rw [if_pos c6] at H
        have c6b0 : decide (a0_8 < 0) = true := decide_eq_true c6
        clear c6
        obtain rfl := Option.some.inj H
        go_enter Tryd.func17, Tryd.ntmps17
        go_wp2_with (first | ((with_reducible refine gate_dst (N := 1) rfl ?_); (try (refine gate_guard (by rfl) ?_; dsimp only)); refine BX 1 #[.int .i64 a0_0, .int .i64 a0_1, .int .i64 a0_2, .string a0_3, .string a0_4, .string a0_5, .int .i64 a0_6, .int .i64 a0_7, .int .i64 a0_8, .bool a0_9, .slice A0_10 l0_10.length c0_10] 42 ?_; intro gb261 hg w7 hbox hb; have BK261 := Aside0.mk (hbox); have GW261 : Aside0 (w.heap.size ≤ gb261) := WG hg (BB HB.out); have GE261 := GW261; replace HB := Aside0.mk (below_step (BB HB.out) hb); clear hb hbox hg; have hcz8 := blk_cell BK261.out; have hfz8 := blk_frozen BK261.out) | ((with_reducible refine gate_callee (f := 27) rfl ?_); refine GL (some 5) rfl rfl Tryd.func27 #[.int .i64 a0_0, .int .i64 1, .int .i64 9] rfl ?_; (with_reducible refine (spec_l01In.calls a0_0 1 9 true _ A2.out).mono ?_); rintro e w' ⟨rfl, ⟨nd, rfl⟩⟩; refine ⟨_, rfl, ?_⟩) | (go_at_call 27; (with_reducible refine (spec_l01In.calls a0_7 1 7 true _ A4.out).mono ?_); rintro e w' ⟨rfl, ⟨nd, rfl⟩⟩))
        go_ret
        exact ⟨ER, (BB1 HB.out GE261.out)⟩
      · rw [if_neg c6] at H
        have c6b0 : decide (a0_8 < 0) = false := decide_eq_false c6
        clear c6
        by_cases c9 : (l0_10.length : Int) > 30
        · rw [if_pos c9] at H
          have c9b0 : decide (30 < (l0_10.length : Int)) = true := decide_eq_true c9
          have c9b1 : decide (30 < l0_10.length) = true := decide_eq_true (by omega)
          clear c9
          obtain rfl := Option.some.inj H
          go_enter Tryd.func17, Tryd.ntmps17
          go_wp2_with (first | ((with_reducible refine gate_dst (N := 1) rfl ?_); (try (refine gate_guard (by rfl) ?_; dsimp only)); refine BX 1 #[.int .i64 a0_0, .int .i64 a0_1, .int .i64 a0_2, .string a0_3, .string a0_4, .string a0_5, .int .i64 a0_6, .int .i64 a0_7, .int .i64 a0_8, .bool a0_9, .slice A0_10 l0_10.length c0_10] 42 ?_; intro gb261 hg w10 hbox hb; have BK261 := Aside0.mk (hbox); have GW261 : Aside0 (w.heap.size ≤ gb261) := WG hg (BB HB.out); have GE261 := GW261; replace HB := Aside0.mk (below_step (BB HB.out) hb); clear hb hbox hg; have hcz11 := blk_cell BK261.out; have hfz11 := blk_frozen BK261.out) | ((with_reducible refine gate_callee (f := 27) rfl ?_); refine GL (some 5) rfl rfl Tryd.func27 #[.int .i64 a0_0, .int .i64 1, .int .i64 9] rfl ?_; (with_reducible refine (spec_l01In.calls a0_0 1 9 true _ A2.out).mono ?_); rintro e w' ⟨rfl, ⟨nd, rfl⟩⟩; refine ⟨_, rfl, ?_⟩) | (go_at_call 27; (with_reducible refine (spec_l01In.calls a0_7 1 7 true _ A4.out).mono ?_); rintro e w' ⟨rfl, ⟨nd, rfl⟩⟩))
          go_ret
          exact ⟨ER, (BB1 HB.out GE261.out)⟩
        · rw [if_neg c9] at H
          have c9b0 : decide (30 < (l0_10.length : Int)) = false := decide_eq_false c9
          have c9b1 : decide (30 < l0_10.length) = false := decide_eq_false (by omega)
          clear c9
          by_cases c12 : a0_0 = 1
          · rw [if_pos c12] at H
            have c12b0 : (a0_0 == 1) = true := beq_iff_eq.mpr c12
            have c12b1 : (a0_0 != 1) = false := bne_eq_false_iff_eq.mpr c12
            clear c12
            replace H := Option.bind_eq_some_iff.mp H
            obtain ⟨t264, A130, H⟩ := H
            replace H : (some t264) = some r := H
            have A13 := Aside0.mk A130
            clear A130
            obtain rfl := Option.some.inj H
            go_enter Tryd.func17, Tryd.ntmps17
            go_wp2_with (first | ((with_reducible refine gate_dst (N := 1) rfl ?_); (try (refine gate_guard (by rfl) ?_; dsimp only)); refine BX 1 #[.int .i64 a0_0, .int .i64 a0_1, .int .i64 a0_2, .string a0_3, .string a0_4, .string a0_5, .int .i64 a0_6, .int .i64 a0_7, .int .i64 a0_8, .bool a0_9, .slice A0_10 l0_10.length c0_10] 42 ?_; intro gb261 hg w14 hbox hb; have BK261 := Aside0.mk (hbox); have GW261 : Aside0 (w.heap.size ≤ gb261) := WG hg (BB HB.out); have GE261 := GW261; replace HB := Aside0.mk (below_step (BB HB.out) hb); clear hb hbox hg; have hcz15 := blk_cell BK261.out; have hfz15 := blk_frozen BK261.out) | ((with_reducible refine gate_callee (f := 27) rfl ?_); refine GL (some 5) rfl rfl Tryd.func27 #[.int .i64 a0_0, .int .i64 1, .int .i64 9] rfl ?_; (with_reducible refine (spec_l01In.calls a0_0 1 9 true _ A2.out).mono ?_); rintro e w' ⟨rfl, ⟨nd, rfl⟩⟩; refine ⟨_, rfl, ?_⟩) | (go_at_call 27; (with_reducible refine (spec_l01In.calls a0_7 1 7 true _ A4.out).mono ?_); rintro e w' ⟨rfl, ⟨nd, rfl⟩⟩) | (go_at_call 13; (with_reducible refine (spec_AskOk.calls k a0_1 a0_2 a0_3 a0_4 a0_5 a0_6 t264 _ A13.out).mono ?_); rintro e w16 ⟨rfl, hb⟩; replace BK261 := Aside0.mk (KB BK261.out hb); replace HB := Aside0.mk (below_step (BB1 HB.out GE261.out) hb); (try clear hb); (try clear hb2); (try clear hk); (try clear hi)))
            go_ret
            exact ⟨ER, (BB1 HB.out GE261.out)⟩
          · rw [if_neg c12] at H
            have c12b0 : (a0_0 == 1) = false := beq_eq_false_iff_ne.mpr c12
            have c12b1 : (a0_0 != 1) = true := bne_iff_ne.mpr c12
            obtain rfl := Option.some.inj H
            go_enter Tryd.func17, Tryd.ntmps17
            go_wp2_with (first | ((with_reducible refine gate_dst (N := 1) rfl ?_); (try (refine gate_guard (by rfl) ?_; dsimp only)); refine BX 1 #[.int .i64 a0_0, .int .i64 a0_1, .int .i64 a0_2, .string a0_3, .string a0_4, .string a0_5, .int .i64 a0_6, .int .i64 a0_7, .int .i64 a0_8, .bool a0_9, .slice A0_10 l0_10.length c0_10] 42 ?_; intro gb261 hg w17 hbox hb; have BK261 := Aside0.mk (hbox); have GW261 : Aside0 (w.heap.size ≤ gb261) := WG hg (BB HB.out); have GE261 := GW261; replace HB := Aside0.mk (below_step (BB HB.out) hb); clear hb hbox hg; have hcz18 := blk_cell BK261.out; have hfz18 := blk_frozen BK261.out) | ((with_reducible refine gate_callee (f := 27) rfl ?_); refine GL (some 5) rfl rfl Tryd.func27 #[.int .i64 a0_0, .int .i64 1, .int .i64 9] rfl ?_; (with_reducible refine (spec_l01In.calls a0_0 1 9 true _ A2.out).mono ?_); rintro e w' ⟨rfl, ⟨nd, rfl⟩⟩; refine ⟨_, rfl, ?_⟩) | (go_at_call 27; (with_reducible refine (spec_l01In.calls a0_7 1 7 true _ A4.out).mono ?_); rintro e w' ⟨rfl, ⟨nd, rfl⟩⟩))
            go_ret
            exact ⟨ER, (BB1 HB.out GE261.out)⟩
    · replace c5 := Bool.eq_false_iff.mpr c5
      subst c5
      have H1 : (some false) = some r := by rw [if_neg (show ¬ (false = true) by decide)] at H; exact H
      clear H
      have H := H1
      clear H1
      obtain rfl := Option.some.inj H
      go_enter Tryd.func17, Tryd.ntmps17
      go_wp2_with (first | ((with_reducible refine gate_dst (N := 1) rfl ?_); (try (refine gate_guard (by rfl) ?_; dsimp only)); refine BX 1 #[.int .i64 a0_0, .int .i64 a0_1, .int .i64 a0_2, .string a0_3, .string a0_4, .string a0_5, .int .i64 a0_6, .int .i64 a0_7, .int .i64 a0_8, .bool a0_9, .slice A0_10 l0_10.length c0_10] 42 ?_; intro gb261 hg w19 hbox hb; have BK261 := Aside0.mk (hbox); have GW261 : Aside0 (w.heap.size ≤ gb261) := WG hg (BB HB.out); have GE261 := GW261; replace HB := Aside0.mk (below_step (BB HB.out) hb); clear hb hbox hg; have hcz20 := blk_cell BK261.out; have hfz20 := blk_frozen BK261.out) | ((with_reducible refine gate_callee (f := 27) rfl ?_); refine GL (some 5) rfl rfl Tryd.func27 #[.int .i64 a0_0, .int .i64 1, .int .i64 9] rfl ?_; (with_reducible refine (spec_l01In.calls a0_0 1 9 true _ A2.out).mono ?_); rintro e w' ⟨rfl, ⟨nd, rfl⟩⟩; refine ⟨_, rfl, ?_⟩) | (go_at_call 27; (with_reducible refine (spec_l01In.calls a0_7 1 7 false _ A4.out).mono ?_); rintro e w' ⟨rfl, ⟨nd, rfl⟩⟩))
      go_ret
      exact ⟨ER, (BB1 HB.out GE261.out)⟩
  · replace c3 := Bool.eq_false_iff.mpr c3
    subst c3
    have H1 : (some false) = some r := by rw [if_neg (show ¬ (false = true) by decide)] at H; exact H
    clear H
    have H := H1
    clear H1
    obtain rfl := Option.some.inj H
    go_enter Tryd.func17, Tryd.ntmps17
    go_wp2_with (first | ((with_reducible refine gate_dst (N := 1) rfl ?_); (try (refine gate_guard (by rfl) ?_; dsimp only)); refine BX 1 #[.int .i64 a0_0, .int .i64 a0_1, .int .i64 a0_2, .string a0_3, .string a0_4, .string a0_5, .int .i64 a0_6, .int .i64 a0_7, .int .i64 a0_8, .bool a0_9, .slice A0_10 l0_10.length c0_10] 42 ?_; intro gb261 hg w21 hbox hb; have BK261 := Aside0.mk (hbox); have GW261 : Aside0 (w.heap.size ≤ gb261) := WG hg (BB HB.out); have GE261 := GW261; replace HB := Aside0.mk (below_step (BB HB.out) hb); clear hb hbox hg; have hcz22 := blk_cell BK261.out; have hfz22 := blk_frozen BK261.out) | ((with_reducible refine gate_callee (f := 27) rfl ?_); refine GL (some 5) rfl rfl Tryd.func27 #[.int .i64 a0_0, .int .i64 1, .int .i64 9] rfl ?_; (with_reducible refine (spec_l01In.calls a0_0 1 9 false _ A2.out).mono ?_); rintro e w' ⟨rfl, ⟨nd, rfl⟩⟩; refine ⟨_, rfl, ?_⟩))
    go_ret
    exact ⟨ER, (BB1 HB.out GE261.out)⟩

end Go.Proofs.YtfgnaneajonapaaDoor.Pr

namespace Go.Proofs
open Go.Shelf
def Tryd.lays156_ren : Go.Shelf.Ren := ⟨fun | 156 => 64 | 165 => 69 | 166 => 70 | 169 => 71 | 240 => 76 | 241 => 77 | 276 => 82 | 277 => 83 | n => n, fun | 31 => 78 | 9 => 9 | 3 => 3 | 4 => 4 | 0 => 0 | 20 => 20 | 72 => 92 | 76 => 96 | 70 => 90 | 37 => 77 | 75 => 95 | 127 => 101 | 164 => 106 | 5 => 5 | 80 => 98 | n => n, fun | n => n⟩
theorem Tryd.lays156 : Go.Proofs.Lays.n156 Tryd.prog Tryd.lays156_ren := {
  mixed := by kernel_rfl
  f156 := Tryd.func64.trans (congrArg some (by kernel_rfl))
  f165 := Tryd.func69.trans (congrArg some (by kernel_rfl))
  f166 := Tryd.func70.trans (congrArg some (by kernel_rfl))
  f169 := Tryd.func71.trans (congrArg some (by kernel_rfl))
  f240 := Tryd.func76.trans (congrArg some (by kernel_rfl))
  f241 := Tryd.func77.trans (congrArg some (by kernel_rfl))
  f276 := Tryd.func82.trans (congrArg some (by kernel_rfl))
  f277 := Tryd.func83.trans (congrArg some (by kernel_rfl))
  t0 := Tryd.underlying0
  a0 := Tryd.isAgg0
  z0 := Tryd.sizeOf0
  v0 := Tryd.zeroValue0
  t3 := Tryd.underlying3
  a3 := Tryd.isAgg3
  z3 := Tryd.sizeOf3
  v3 := Tryd.zeroValue3
  t4 := Tryd.underlying4
  a4 := Tryd.isAgg4
  z4 := Tryd.sizeOf4
  v4 := Tryd.zeroValue4
  t9 := Tryd.underlying9
  a9 := Tryd.isAgg9
  z9 := Tryd.sizeOf9
  v9 := Tryd.zeroValue9
  t20 := Tryd.underlying20
  a20 := Tryd.isAgg20
  z20 := Tryd.sizeOf20
  v20 := Tryd.zeroValue20
  t31 := Tryd.underlying78
  a31 := Tryd.isAgg78
  z31 := Tryd.sizeOf78
  v31 := Tryd.zeroValue78
  t37 := Tryd.underlying77
  a37 := Tryd.isAgg77
  z37 := Tryd.sizeOf77
  v37 := Tryd.zeroValue77
  t70 := Tryd.underlying90
  a70 := Tryd.isAgg90
  z70 := Tryd.sizeOf90
  v70 := Tryd.zeroValue90
  t72 := Tryd.underlying92
  a72 := Tryd.isAgg92
  z72 := Tryd.sizeOf92
  v72 := Tryd.zeroValue92
  t75 := Tryd.underlying95
  a75 := Tryd.isAgg95
  z75 := Tryd.sizeOf95
  v75 := Tryd.zeroValue95
  t76 := Tryd.underlying96
  a76 := Tryd.isAgg96
  z76 := Tryd.sizeOf96
  v76 := Tryd.zeroValue96
  t127 := Tryd.underlying101
  a127 := Tryd.isAgg101
  z127 := Tryd.sizeOf101
  v127 := Tryd.zeroValue101
  t164 := Tryd.underlying106
  a164 := Tryd.isAgg106
  z164 := Tryd.sizeOf106
  v164 := Tryd.zeroValue106 }
theorem Tryd.Builder_Extra_156 : Builder.Extra Tryd.prog Tryd.lays156_ren := {
  sizeBuilder := by kernel_rfl
  liesBuilder := by kernel_rfl
  t5 := Tryd.underlying5
  a5 := Tryd.isAgg5
  z5 := Tryd.sizeOf5
  v5 := Tryd.zeroValue5
  infoByte := by kernel_rfl
  cellsByte := by kernel_rfl
  sizeByte := by kernel_rfl
  neB5 := by decide }
open Go.RowKit in
theorem Tryd.strings_Join (bk o c : Nat) (xs : List ByteArray) (sep : ByteArray) (w : World) (hcells : ∀ (j : Nat) x, xs[j]? = some x → w.cell? ⟨bk, o + j, none⟩ = some (.string x)) (hbk : bk < w.heap.size) (hN : xs.length ≤ 140737488355328) (hcap : xs.length ≤ c) (hlen : (Lib.join (xs.map (·.data.toList)) sep.data.toList).length ≤ 140737488355328) :
    Calls Tryd.prog 64 #[.slice (some ⟨bk, o, none⟩) xs.length c, .string sep] w fun e w' => e = .returned (.string ⟨(Lib.join (xs.map (·.data.toList)) sep.data.toList).toArray⟩) ∧ Below w.heap.size w w' := Any.strings_Join Tryd.lays156 Tryd.Builder_Extra_156 bk o c xs sep w hcells hbk hN hcap hlen
def Tryd.lays103_ren : Go.Shelf.Ren := ⟨fun | 103 => 59 | 210 => 66 | 206 => 72 | n => n, fun | 9 => 9 | 4 => 4 | 24 => 82 | 3 => 3 | n => n, fun | n => n⟩
theorem Tryd.lays103 : Go.Proofs.Lays.n103 Tryd.prog Tryd.lays103_ren := {
  mixed := by kernel_rfl
  f103 := Tryd.func59.trans (congrArg some (by kernel_rfl))
  f206 := Tryd.func72.trans (congrArg some (by kernel_rfl))
  f210 := Tryd.func66.trans (congrArg some (by kernel_rfl))
  t3 := Tryd.underlying3
  a3 := Tryd.isAgg3
  z3 := Tryd.sizeOf3
  v3 := Tryd.zeroValue3
  t4 := Tryd.underlying4
  a4 := Tryd.isAgg4
  z4 := Tryd.sizeOf4
  v4 := Tryd.zeroValue4
  t9 := Tryd.underlying9
  a9 := Tryd.isAgg9
  z9 := Tryd.sizeOf9
  v9 := Tryd.zeroValue9
  t24 := Tryd.underlying82
  a24 := Tryd.isAgg82
  z24 := Tryd.sizeOf82
  v24 := Tryd.zeroValue82 }
open Go.RowKit in
theorem Tryd.strings_CutPrefix (s p : ByteArray) (w : World) :
    Calls Tryd.prog 59 #[.string s, .string p] w fun e w' => e = .returned (.tuple #[.string ⟨(Lib.trimPrefix s.data.toList p.data.toList).toArray⟩, .bool (Lib.hasPrefix s.data.toList p.data.toList)]) ∧ w' = w := Any.strings_CutPrefix Tryd.lays103 s p w
def Tryd.lays143_ren : Go.Shelf.Ren := ⟨fun | 143 => 75 | 219 => 81 | 217 => 85 | 225 => 86 | 224 => 87 | 267 => 88 | 266 => 89 | 314 => 90 | n => n, fun | 9 => 9 | 3 => 3 | 4 => 4 | 5 => 5 | 46 => 75 | 146 => 115 | 51 => 114 | n => n, fun | 1 => 0 | n => n⟩
theorem Tryd.lays143 : Go.Proofs.Lays.n143 Tryd.prog Tryd.lays143_ren := {
  mixed := by kernel_rfl
  f143 := Tryd.func75.trans (congrArg some (by kernel_rfl))
  f217 := Tryd.func85.trans (congrArg some (by kernel_rfl))
  f219 := Tryd.func81.trans (congrArg some (by kernel_rfl))
  f224 := Tryd.func87.trans (congrArg some (by kernel_rfl))
  f225 := Tryd.func86.trans (congrArg some (by kernel_rfl))
  f266 := Tryd.func89.trans (congrArg some (by kernel_rfl))
  f267 := Tryd.func88.trans (congrArg some (by kernel_rfl))
  f314 := Tryd.func90.trans (congrArg some (by kernel_rfl))
  t3 := Tryd.underlying3
  a3 := Tryd.isAgg3
  z3 := Tryd.sizeOf3
  v3 := Tryd.zeroValue3
  t4 := Tryd.underlying4
  a4 := Tryd.isAgg4
  z4 := Tryd.sizeOf4
  v4 := Tryd.zeroValue4
  t5 := Tryd.underlying5
  a5 := Tryd.isAgg5
  z5 := Tryd.sizeOf5
  v5 := Tryd.zeroValue5
  t9 := Tryd.underlying9
  a9 := Tryd.isAgg9
  z9 := Tryd.sizeOf9
  v9 := Tryd.zeroValue9
  t46 := Tryd.underlying75
  a46 := Tryd.isAgg75
  z46 := Tryd.sizeOf75
  v46 := Tryd.zeroValue75
  t51 := Tryd.underlying114
  a51 := Tryd.isAgg114
  z51 := Tryd.sizeOf114
  v51 := Tryd.zeroValue114
  t146 := Tryd.underlying115
  a146 := Tryd.isAgg115
  z146 := Tryd.sizeOf115
  v146 := Tryd.zeroValue115
  g1 := by kernel_rfl }
open Go.RowKit Go.Lib in
theorem Tryd.strings_Index_one (s : ByteArray) (c : UInt8) (w : World) :
    Calls Tryd.prog 75 #[.string s, .string ⟨#[c]⟩] w fun e w' => e = .returned (.int .i64 (Lib.indexByte s.data.toList c)) ∧ w' = w := Any.strings_Index_one Tryd.lays143 s c w
def Tryd.lays138_ren : Go.Shelf.Ren := ⟨fun | 138 => 74 | 195 => 78 | 218 => 80 | 143 => 75 | 219 => 81 | 217 => 85 | 225 => 86 | 224 => 87 | 267 => 88 | 266 => 89 | 314 => 90 | n => n, fun | 9 => 9 | 3 => 3 | 4 => 4 | 5 => 5 | 0 => 0 | 46 => 75 | 146 => 115 | 51 => 114 | n => n, fun | 1 => 0 | n => n⟩
theorem Tryd.lays138 : Go.Proofs.Lays.n138 Tryd.prog Tryd.lays138_ren := {
  mixed := by kernel_rfl
  f138 := Tryd.func74.trans (congrArg some (by kernel_rfl))
  f143 := Tryd.func75.trans (congrArg some (by kernel_rfl))
  f195 := Tryd.func78.trans (congrArg some (by kernel_rfl))
  f217 := Tryd.func85.trans (congrArg some (by kernel_rfl))
  f218 := Tryd.func80.trans (congrArg some (by kernel_rfl))
  f219 := Tryd.func81.trans (congrArg some (by kernel_rfl))
  f224 := Tryd.func87.trans (congrArg some (by kernel_rfl))
  f225 := Tryd.func86.trans (congrArg some (by kernel_rfl))
  f266 := Tryd.func89.trans (congrArg some (by kernel_rfl))
  f267 := Tryd.func88.trans (congrArg some (by kernel_rfl))
  f314 := Tryd.func90.trans (congrArg some (by kernel_rfl))
  t0 := Tryd.underlying0
  a0 := Tryd.isAgg0
  z0 := Tryd.sizeOf0
  v0 := Tryd.zeroValue0
  t3 := Tryd.underlying3
  a3 := Tryd.isAgg3
  z3 := Tryd.sizeOf3
  v3 := Tryd.zeroValue3
  t4 := Tryd.underlying4
  a4 := Tryd.isAgg4
  z4 := Tryd.sizeOf4
  v4 := Tryd.zeroValue4
  t5 := Tryd.underlying5
  a5 := Tryd.isAgg5
  z5 := Tryd.sizeOf5
  v5 := Tryd.zeroValue5
  t9 := Tryd.underlying9
  a9 := Tryd.isAgg9
  z9 := Tryd.sizeOf9
  v9 := Tryd.zeroValue9
  t46 := Tryd.underlying75
  a46 := Tryd.isAgg75
  z46 := Tryd.sizeOf75
  v46 := Tryd.zeroValue75
  t51 := Tryd.underlying114
  a51 := Tryd.isAgg114
  z51 := Tryd.sizeOf114
  v51 := Tryd.zeroValue114
  t146 := Tryd.underlying115
  a146 := Tryd.isAgg115
  z146 := Tryd.sizeOf115
  v146 := Tryd.zeroValue115
  g1 := by kernel_rfl }
open Go.RowKit Go.Lib in
theorem Tryd.strings_Count_one (s : ByteArray) (c : UInt8) (w : World) :
    Calls Tryd.prog 74 #[.string s, .string ⟨#[c]⟩] w fun e w' => e = .returned (.int .i64 (Lib.countByte s.data.toList c)) ∧ w' = w := Any.strings_Count_one Tryd.lays138 s c w
def Tryd.lays221_ren : Go.Shelf.Ren := ⟨fun | 221 => 67 | 268 => 73 | 138 => 74 | 143 => 75 | 195 => 78 | 197 => 79 | 218 => 80 | 219 => 81 | 260 => 84 | 217 => 85 | 225 => 86 | 224 => 87 | 267 => 88 | 266 => 89 | 314 => 90 | n => n, fun | 9 => 9 | 3 => 3 | 31 => 78 | 4 => 4 | 0 => 0 | 105 => 103 | 21 => 21 | 5 => 5 | 46 => 75 | 119 => 110 | 139 => 113 | 138 => 112 | 146 => 115 | 51 => 114 | n => n, fun | 1 => 0 | 3 => 1 | 4 => 2 | n => n⟩
theorem Tryd.lays221 : Go.Proofs.Lays.n221 Tryd.prog Tryd.lays221_ren := {
  mixed := by kernel_rfl
  f138 := Tryd.func74.trans (congrArg some (by kernel_rfl))
  f143 := Tryd.func75.trans (congrArg some (by kernel_rfl))
  f195 := Tryd.func78.trans (congrArg some (by kernel_rfl))
  f197 := Tryd.func79.trans (congrArg some (by kernel_rfl))
  f217 := Tryd.func85.trans (congrArg some (by kernel_rfl))
  f218 := Tryd.func80.trans (congrArg some (by kernel_rfl))
  f219 := Tryd.func81.trans (congrArg some (by kernel_rfl))
  f221 := Tryd.func67.trans (congrArg some (by kernel_rfl))
  f224 := Tryd.func87.trans (congrArg some (by kernel_rfl))
  f225 := Tryd.func86.trans (congrArg some (by kernel_rfl))
  f260 := Tryd.func84.trans (congrArg some (by kernel_rfl))
  f266 := Tryd.func89.trans (congrArg some (by kernel_rfl))
  f267 := Tryd.func88.trans (congrArg some (by kernel_rfl))
  f268 := Tryd.func73.trans (congrArg some (by kernel_rfl))
  f314 := Tryd.func90.trans (congrArg some (by kernel_rfl))
  t0 := Tryd.underlying0
  a0 := Tryd.isAgg0
  z0 := Tryd.sizeOf0
  v0 := Tryd.zeroValue0
  t3 := Tryd.underlying3
  a3 := Tryd.isAgg3
  z3 := Tryd.sizeOf3
  v3 := Tryd.zeroValue3
  t4 := Tryd.underlying4
  a4 := Tryd.isAgg4
  z4 := Tryd.sizeOf4
  v4 := Tryd.zeroValue4
  t5 := Tryd.underlying5
  a5 := Tryd.isAgg5
  z5 := Tryd.sizeOf5
  v5 := Tryd.zeroValue5
  t9 := Tryd.underlying9
  a9 := Tryd.isAgg9
  z9 := Tryd.sizeOf9
  v9 := Tryd.zeroValue9
  t21 := Tryd.underlying21
  a21 := Tryd.isAgg21
  z21 := Tryd.sizeOf21
  v21 := Tryd.zeroValue21
  t31 := Tryd.underlying78
  a31 := Tryd.isAgg78
  z31 := Tryd.sizeOf78
  v31 := Tryd.zeroValue78
  t46 := Tryd.underlying75
  a46 := Tryd.isAgg75
  z46 := Tryd.sizeOf75
  v46 := Tryd.zeroValue75
  t51 := Tryd.underlying114
  a51 := Tryd.isAgg114
  z51 := Tryd.sizeOf114
  v51 := Tryd.zeroValue114
  t105 := Tryd.underlying103
  a105 := Tryd.isAgg103
  z105 := Tryd.sizeOf103
  v105 := Tryd.zeroValue103
  t119 := Tryd.underlying110
  a119 := Tryd.isAgg110
  z119 := Tryd.sizeOf110
  t138 := Tryd.underlying112
  a138 := Tryd.isAgg112
  z138 := Tryd.sizeOf112
  v138 := Tryd.zeroValue112
  t139 := Tryd.underlying113
  a139 := Tryd.isAgg113
  z139 := Tryd.sizeOf113
  v139 := Tryd.zeroValue113
  t146 := Tryd.underlying115
  a146 := Tryd.isAgg115
  z146 := Tryd.sizeOf115
  v146 := Tryd.zeroValue115
  g1 := by kernel_rfl
  g3 := by kernel_rfl
  g4 := by kernel_rfl }
def Tryd.laysSlH8_f61_ren : Go.Shelf.Ren := ⟨fun | 8 => 61 | 6 => 68 | n => n, fun | 22 => 78 | 23 => 9 | 25 => 53 | 4 => 4 | 3 => 3 | 0 => 0 | n => n, fun | n => n⟩
theorem Tryd.laysSlH8_f61 : Go.Proofs.SlLaysH.n8 Tryd.prog Tryd.laysSlH8_f61_ren := {
  mixed := by kernel_rfl
  f6 := ⟨Tryd.f68.name, by decide, Tryd.func68.trans (congrArg some (by kernel_rfl))⟩
  f8 := ⟨Tryd.f61.name, by decide, Tryd.func61.trans (congrArg some (by kernel_rfl))⟩
  t0 := Tryd.underlying0
  a0 := Tryd.isAgg0
  z0 := Tryd.sizeOf0
  v0 := Tryd.zeroValue0
  t3 := Tryd.underlying3
  a3 := Tryd.isAgg3
  z3 := Tryd.sizeOf3
  v3 := Tryd.zeroValue3
  t4 := Tryd.underlying4
  a4 := Tryd.isAgg4
  z4 := Tryd.sizeOf4
  v4 := Tryd.zeroValue4
  t22 := Tryd.underlying78
  a22 := Tryd.isAgg78
  z22 := Tryd.sizeOf78
  v22 := Tryd.zeroValue78
  a23 := Tryd.isAgg9
  z23 := Tryd.sizeOf9
  t25 := Tryd.underlying53
  a25 := Tryd.isAgg53
  z25 := Tryd.sizeOf53
  v25 := Tryd.zeroValue53 }
open Go.RowKit Go.Lib in
theorem Tryd.slices_ContainsFunc {α : Type} [Inhabited α] (enc : α → Value) (p : α → Bool) (g : Nat) (lb : Array Value) (eg : ∀ args w, (callFunc g args).run Tryd.prog w = .ok (.enter g args) w) (b off n c : Nat) (zs : List α) (w : World) (hp : PredAt Tryd.prog g lb enc p w) (hz : n ≤ zs.length) (hbig : n ≤ 9223372036854775807) (hc : ∀ j, j < zs.length → w.cell? ⟨b, off + j, none⟩ = some (enc zs[j]!)) :
    Calls Tryd.prog 61 #[.slice (some ⟨b, off, none⟩) n c, .func (.func g) #[] lb] w fun e w' => e = .returned (.bool ((zs.take n).any p)) ∧ ∃ q, w' = w.drewN q := AnyE.slices_ContainsFunc Tryd.laysSlH8_f61 enc p g lb eg b off n c zs w hp hz hbig hc
end Go.Proofs

namespace Go.Proofs.YtfgnaneajonapaaDoor.Pu
set_option linter.unusedVariables false
def cutS : List UInt8 → List (List UInt8)
  | [] => [[]]
  | c :: s => if c = 47 then [] :: cutS s else ((c :: (cutS s).headD []) :: (cutS s).tail)
theorem cutS_ne : ∀ s, cutS s ≠ []
  | [] => by simp [cutS]
  | c :: s => by unfold cutS; split <;> simp
theorem index_cons (c : UInt8) (s : List UInt8) : Lib.index (c :: s) [47] = if c = 47 then 0 else if Lib.index s [47] = -1 then -1 else Lib.index s [47] + 1 := by
  rw [Lib.index]
  by_cases h : c = 47
  · subst h
    simp [List.isPrefixOf]
  · have h' : ¬ (47 : UInt8) = c := fun e => h e.symm
    simp [List.isPrefixOf, h, h']
theorem split_cut (s : List UInt8) : Lib.splitK [47] 0 (Lib.count s [47]) s = cutS s := by
  induction s with
  | nil => rfl
  | cons c s ih =>
    have hi := index_cons c s
    by_cases h : c = 47
    · subst h
      rw [if_pos rfl] at hi
      have hc := Lib.count_hit (s := 47 :: s) (sub := [47]) (i := 0) (by simp) hi
      have ed : (47 :: s).drop (0 + [(47 : UInt8)].length) = s := rfl
      rw [ed] at hc
      rw [hc, Nat.add_comm 1, Lib.splitK, hi]
      have e : cutS (47 :: s) = [] :: cutS s := by rw [cutS, if_pos rfl]
      rw [e, ← ih]
      rfl
    · rw [if_neg h] at hi
      have e : cutS (c :: s) = (c :: (cutS s).headD []) :: (cutS s).tail := by rw [cutS, if_neg h]
      by_cases h2 : Lib.index s [47] = -1
      · rw [if_pos h2] at hi
        rw [Lib.count_miss h2] at ih
        rw [Lib.count_miss hi, e, ← ih]
        rfl
      · rw [if_neg h2] at hi
        obtain ⟨i, hi2⟩ : ∃ i : Nat, Lib.index s [47] = i := ⟨(Lib.index s [47]).toNat, by have := Lib.index_ge s [47]; omega⟩
        rw [hi2] at hi
        have hc1 := Lib.count_hit (s := c :: s) (sub := [47]) (i := i + 1) (by simp) (by rw [hi]; rfl)
        have hc2 := Lib.count_hit (s := s) (sub := [47]) (i := i) (by simp) hi2
        have ed : (c :: s).drop (i + 1 + [(47 : UInt8)].length) = s.drop (i + [(47 : UInt8)].length) := rfl
        rw [ed, ← hc2] at hc1
        rw [hc1, e]
        rw [hc2, Nat.add_comm 1] at ih ⊢
        rw [← ih]
        have b1 : (Lib.index (c :: s) [47] == -1) = false := by rw [hi]; simp; omega
        have b2 : (Lib.index s [47] == -1) = false := by rw [hi2]; simp
        have t1 : (Lib.index (c :: s) [47]).toNat = i + 1 := by rw [hi]; omega
        have t2 : (Lib.index s [47]).toNat = i := by rw [hi2]; omega
        simp only [Lib.splitK, b1, b2, t1, t2]
        rfl
end Go.Proofs.YtfgnaneajonapaaDoor.Pu

namespace Go.Proofs.YtfgnaneajonapaaDoor.Pr
open Go.RowKit Go.Proofs.YtfgnaneajonapaaDoorW.PrintWords Go.Proofs.YtfgnaneajonapaaDoorW.PrintLast Go.Proofs.YtfgnaneajonapaaDoorW.PrintMore
attribute [local go_sem] max2_int min2_int max_two min_two max_three min_three max_four min_four
set_option linter.unusedVariables false
set_option linter.unusedSimpArgs false
def impl_within.f (a0 : Int) (a1 : Int) (a2 : Int) : Option (Bool) := if a0 ≥ a1 then (some (decide (a0 ≤ a2))) else (some false)
set_option maxHeartbeats 8000000 in
set_option maxRecDepth 100000 in
theorem impl_within.calls (a0 : Int) (a1 : Int) (a2 : Int) (r : Bool) (w : World) (h : impl_within.f a0 a1 a2 = some r) :
    Calls Tryd.prog 30 #[.int .i64 a0, .int .i64 a1, .int .i64 a2] w fun e w' => e = .returned (.bool r) ∧ Drawn0 w w' := by
  have H : (if a0 ≥ a1 then (some (decide (a0 ≤ a2))) else (some false)) = some r := h
  clear h
  by_cases c4 : a0 ≥ a1
  · rw [if_pos c4] at H
    have c4b0 : decide (a1 ≤ a0) = true := decide_eq_true c4
    clear c4
    obtain rfl := Option.some.inj H
    go_enter Tryd.func30, Tryd.ntmps30
    go_wp2
    go_ret
    exact ⟨FR, by repeat (first | exact Drawn0.refl _ | apply Drawn0.step)⟩
  · rw [if_neg c4] at H
    have c4b0 : decide (a1 ≤ a0) = false := decide_eq_false c4
    clear c4
    obtain rfl := Option.some.inj H
    go_enter Tryd.func30, Tryd.ntmps30
    go_wp2
    go_ret
    exact ⟨FR, by repeat (first | exact Drawn0.refl _ | apply Drawn0.step)⟩

end Go.Proofs.YtfgnaneajonapaaDoor.Pr

namespace Go.Proofs.YtfgnaneajonapaaDoor.Pr
open Go.RowKit Go.Proofs.YtfgnaneajonapaaDoorW.PrintWords Go.Proofs.YtfgnaneajonapaaDoorW.PrintLast Go.Proofs.YtfgnaneajonapaaDoorW.PrintMore
attribute [local go_sem] max2_int min2_int max_two min_two max_three min_three max_four min_four
set_option linter.unusedVariables false
set_option linter.unusedSimpArgs false
def impl_NameOk.l0 : Nat → ByteArray → Int → Option (Bool)
  | 0, _, _ => none
  | k + 1, x0, x3 => if x3 < (x0.size : Int) then (if 0 ≤ x3 then (if (bt x0 x3) < 97 then (if (bt x0 x3) < 48 then (some false) else (if (bt x0 x3) > 57 then (some false) else (impl_NameOk.l0 k x0 (wrap64 (x3 + 1))))) else (if (bt x0 x3) > 122 then (if (bt x0 x3) < 48 then (some false) else (if (bt x0 x3) > 57 then (some false) else (impl_NameOk.l0 k x0 (wrap64 (x3 + 1))))) else (impl_NameOk.l0 k x0 (wrap64 (x3 + 1))))) else (none)) else ((impl_within.f (x0.size : Int) 1 8).bind fun t420 => (some t420))
def impl_NameOk.f (k : Nat) (a0 : ByteArray) : Option (Bool) := impl_NameOk.l0 k a0 0
set_option maxHeartbeats 8000000 in
set_option maxRecDepth 100000 in
theorem impl_NameOk.calls (k : Nat) (a0 : ByteArray) (r : Bool) (w : World) (h : impl_NameOk.f k a0 = some r) :
    Calls Tryd.prog 63 #[.string a0] w fun e w' => e = .returned (.bool r) ∧ Drawn0 w w' := by
  have H : (impl_NameOk.l0 k a0 0) = some r := h
  clear h
  have H' := Aside0.mk H
  clear H
  go_enter Tryd.func63, Tryd.ntmps63
  go_wp2
  go_loopg [3] k (fun kq v3 w' => ∃ (x3_1 : Int), v3 = .int .i64 x3_1 ∧ Aside0 (impl_NameOk.l0 kq a0 x3_1 = some r) ∧ Aside0 (kq ≤ k) ∧ Drawn0 w w')
  case atStart => exact ⟨(0), FR, H', ⟨Nat.le_refl _⟩, by repeat (first | exact Drawn0.refl _ | apply Drawn0.step)⟩
  case round =>
    clear H'
    obtain ⟨x3_1, rfl, HA, HK1, ⟨m1, rfl⟩⟩ := hrel
    cases gk with
    | zero => exact absurd HA.out (by simp [impl_NameOk.l0])
    | succ k1 =>
      have H := HA.out
      clear HA
      simp only [impl_NameOk.l0] at H
      by_cases c2 : x3_1 < (a0.size : Int)
      · rw [if_pos c2] at H
        have c2b0 : decide (x3_1 < (a0.size : Int)) = true := decide_eq_true c2
        clear c2
        by_cases c3 : 0 ≤ x3_1
        · rw [if_pos c3] at H
          have c3b0 : decide (0 ≤ x3_1) = true := decide_eq_true c3
          clear c3
          by_cases c5 : (bt a0 x3_1) < 97
          · rw [if_pos c5] at H
            have c5b0 : decide ((bt a0 x3_1) < 97) = true := decide_eq_true c5
            clear c5
            by_cases c6 : (bt a0 x3_1) < 48
            · rw [if_pos c6] at H
              have c6b0 : decide ((bt a0 x3_1) < 48) = true := decide_eq_true c6
              clear c6
              obtain rfl := Option.some.inj H
              have p4 : 0 ≤ (x3_1 : Int) := DT
              have q4 : x3_1 < (a0.size : Int) := DT
              have hx4 := bt_at a0 x3_1
              replace p4 := eq_true p4
              replace q4 := eq_true q4
              go_wp2
              go_ret
              exact ⟨FR, by repeat (first | exact Drawn0.refl _ | apply Drawn0.step)⟩
            · rw [if_neg c6] at H
              have c6b0 : decide ((bt a0 x3_1) < 48) = false := decide_eq_false c6
              clear c6
              by_cases c7 : (bt a0 x3_1) > 57
              · rw [if_pos c7] at H
                have c7b0 : decide (57 < (bt a0 x3_1)) = true := decide_eq_true c7
                clear c7
                obtain rfl := Option.some.inj H
                have p4 : 0 ≤ (x3_1 : Int) := DT
                have q4 : x3_1 < (a0.size : Int) := DT
                have hx4 := bt_at a0 x3_1
                replace p4 := eq_true p4
                replace q4 := eq_true q4
                go_wp2
                go_ret
                exact ⟨FR, by repeat (first | exact Drawn0.refl _ | apply Drawn0.step)⟩
              · rw [if_neg c7] at H
                have c7b0 : decide (57 < (bt a0 x3_1)) = false := decide_eq_false c7
                clear c7
                have H' := Aside0.mk H
                clear H
                have p4 : 0 ≤ (x3_1 : Int) := DT
                have q4 : x3_1 < (a0.size : Int) := DT
                have hx4 := bt_at a0 x3_1
                replace p4 := eq_true p4
                replace q4 := eq_true q4
                go_wp2
                go_roundg k1
                case measure => have := HK1.out; omega
                case rel => exact ⟨(wrap64 (x3_1 + 1)), FR, H', ⟨by have := HK1.out; omega⟩, by repeat (first | exact Drawn0.refl _ | apply Drawn0.step)⟩
          · rw [if_neg c5] at H
            have c5b0 : decide ((bt a0 x3_1) < 97) = false := decide_eq_false c5
            clear c5
            by_cases c8 : (bt a0 x3_1) > 122
            · rw [if_pos c8] at H
              have c8b0 : decide (122 < (bt a0 x3_1)) = true := decide_eq_true c8
              clear c8
              by_cases c9 : (bt a0 x3_1) < 48
              · rw [if_pos c9] at H
                have c9b0 : decide ((bt a0 x3_1) < 48) = true := decide_eq_true c9
                clear c9
                obtain rfl := Option.some.inj H
                have p4 : 0 ≤ (x3_1 : Int) := DT
                have q4 : x3_1 < (a0.size : Int) := DT
                have hx4 := bt_at a0 x3_1
                replace p4 := eq_true p4
                replace q4 := eq_true q4
                go_wp2
                go_ret
                exact ⟨FR, by repeat (first | exact Drawn0.refl _ | apply Drawn0.step)⟩
              · rw [if_neg c9] at H
                have c9b0 : decide ((bt a0 x3_1) < 48) = false := decide_eq_false c9
                clear c9
                by_cases c10 : (bt a0 x3_1) > 57
                · rw [if_pos c10] at H
                  have c10b0 : decide (57 < (bt a0 x3_1)) = true := decide_eq_true c10
                  clear c10
                  obtain rfl := Option.some.inj H
                  have p4 : 0 ≤ (x3_1 : Int) := DT
                  have q4 : x3_1 < (a0.size : Int) := DT
                  have hx4 := bt_at a0 x3_1
                  replace p4 := eq_true p4
                  replace q4 := eq_true q4
                  go_wp2
                  go_ret
                  exact ⟨FR, by repeat (first | exact Drawn0.refl _ | apply Drawn0.step)⟩
                · rw [if_neg c10] at H
                  have c10b0 : decide (57 < (bt a0 x3_1)) = false := decide_eq_false c10
                  clear c10
                  have H' := Aside0.mk H
                  clear H
                  have p4 : 0 ≤ (x3_1 : Int) := DT
                  have q4 : x3_1 < (a0.size : Int) := DT
                  have hx4 := bt_at a0 x3_1
                  replace p4 := eq_true p4
                  replace q4 := eq_true q4
                  go_wp2
                  go_roundg k1
                  case measure => have := HK1.out; omega
                  case rel => exact ⟨(wrap64 (x3_1 + 1)), FR, H', ⟨by have := HK1.out; omega⟩, by repeat (first | exact Drawn0.refl _ | apply Drawn0.step)⟩
            · rw [if_neg c8] at H
              have c8b0 : decide (122 < (bt a0 x3_1)) = false := decide_eq_false c8
              clear c8
              have H' := Aside0.mk H
              clear H
              have p4 : 0 ≤ (x3_1 : Int) := DT
              have q4 : x3_1 < (a0.size : Int) := DT
              have hx4 := bt_at a0 x3_1
              replace p4 := eq_true p4
              replace q4 := eq_true q4
              go_wp2
              go_roundg k1
              case measure => have := HK1.out; omega
              case rel => exact ⟨(wrap64 (x3_1 + 1)), FR, H', ⟨by have := HK1.out; omega⟩, by repeat (first | exact Drawn0.refl _ | apply Drawn0.step)⟩
        · rw [if_neg c3] at H
          exact absurd H (by simp)
      · rw [if_neg c2] at H
        have c2b0 : decide (x3_1 < (a0.size : Int)) = false := decide_eq_false c2
        clear c2
        replace H := Option.bind_eq_some_iff.mp H
        obtain ⟨t420, A110, H⟩ := H
        replace H : (some t420) = some r := H
        have A11 := Aside0.mk A110
        clear A110
        obtain rfl := Option.some.inj H
        go_wp2_with (first | ((with_reducible refine gate_callee (f := 30) rfl ?_); refine GL (some 30) rfl rfl Tryd.func30 #[.int .i64 (a0.size : Int), .int .i64 1, .int .i64 8] rfl ?_; (with_reducible refine (impl_within.calls (a0.size : Int) 1 8 t420 _ A11.out).mono ?_); rintro e w' ⟨rfl, ⟨nd, rfl⟩⟩; refine ⟨_, rfl, ?_⟩))
        go_ret
        exact ⟨FR, by repeat (first | exact Drawn0.refl _ | apply Drawn0.step)⟩

end Go.Proofs.YtfgnaneajonapaaDoor.Pr

namespace Go.Proofs.YtfgnaneajonapaaDoor.Pu
open Go.RowKit Go.Proofs.YtfgnaneajonapaaDoorW.PrintWords Go.Proofs.YtfgnaneajonapaaDoor.Pr Go.Proofs.YtfgnaneajonapaaDoor.Evs
set_option linter.unusedVariables false
def okc (c : UInt8) : Bool := decide ((97 ≤ (c.toNat : Int) ∧ (c.toNat : Int) ≤ 122) ∨ (48 ≤ (c.toNat : Int) ∧ (c.toNat : Int) ≤ 57))
def nameL (l : List UInt8) : Bool := l.all okc && decide (1 ≤ l.length ∧ l.length ≤ 8)
def isNamed : List UInt8 → Bool
  | [] => false
  | c :: r => decide (c = 47) && (!r.isEmpty && (decide ((cutS r).length ≤ 4) && (cutS r).all nameL))
theorem size_len (s : ByteArray) : s.data.toList.length = s.size := by rw [Array.length_toList]; rfl
theorem bt_nat (s : ByteArray) (i : Nat) (c : UInt8) (r : List UInt8) (h : s.data.toList.drop i = c :: r) : bt s (i : Int) = (c.toNat : Int) := by
  have hi : i < s.data.toList.length := by
    rcases Nat.lt_or_ge i s.data.toList.length with h1 | h1
    · exact h1
    · rw [List.drop_eq_nil_of_le h1] at h; cases h
  have hs : i < s.size := by rw [← size_len]; exact hi
  have e := List.drop_eq_getElem_cons hi
  rw [e] at h
  injection h with h1 h2
  unfold bt
  rw [dif_pos (by simpa using hs)]
  rw [← h1]
  rfl
theorem drop_size (s : ByteArray) (i : Nat) (hi : i < s.size) : ∃ c r, s.data.toList.drop i = c :: r ∧ s.data.toList.drop (i + 1) = r := by
  have h : i < s.data.toList.length := by rw [size_len]; exact hi
  exact ⟨_, _, List.drop_eq_getElem_cons h, rfl⟩
theorem impl_loop (s : ByteArray) (hs : s.size < 9223372036854775807) (m : Nat) : ∀ (i : Nat), i + m = s.size → Ev (fun k => impl_NameOk.l0 k s (i : Int)) ((s.data.toList.drop i).all okc && decide (1 ≤ s.size ∧ s.size ≤ 8)) := by
  induction m with
  | zero =>
    intro i hi
    have e : s.data.toList.drop i = [] := List.drop_eq_nil_of_le (by rw [size_len]; omega)
    rw [e]
    refine ev_step (fun k => impl_NameOk.l0.eq_2 _ _ k) (ev_neg (by omega) ?_)
    refine ev_const ?_
    unfold impl_within.f
    by_cases h1 : (s.size : Int) ≥ 1
    · rw [if_pos h1]
      simp only [Option.bind_some, List.all_nil, Bool.true_and]
      congr 1
      by_cases h2 : (s.size : Int) ≤ 8
      · rw [decide_eq_true h2, decide_eq_true (by omega)]
      · rw [decide_eq_false h2, decide_eq_false (by omega)]
    · rw [if_neg h1]
      simp only [Option.bind_some, List.all_nil, Bool.true_and]
      rw [decide_eq_false (by omega)]
  | succ m ih =>
    intro i hi
    obtain ⟨c, r, hd, hr⟩ := drop_size s i (by omega)
    have hb := bt_nat s i c r hd
    have ih' := ih (i + 1) (by omega)
    rw [hr] at ih'
    have ew : wrap64 ((i : Int) + 1) = ((i + 1 : Nat) : Int) := by rw [wrap_in (by omega) (by omega)]; rfl
    rw [hd, List.all_cons]
    refine ev_step (fun k => impl_NameOk.l0.eq_2 _ _ k) (ev_pos (by omega) (ev_pos (by omega) ?_))
    rw [hb, ew]
    have yes : okc c = true → Ev (fun k => impl_NameOk.l0 k s ((i + 1 : Nat) : Int)) ((okc c && r.all okc) && decide (1 ≤ s.size ∧ s.size ≤ 8)) := fun h => by rw [h, Bool.true_and]; exact ih'
    have no : okc c = false → Ev (fun _ => some false) ((okc c && r.all okc) && decide (1 ≤ s.size ∧ s.size ≤ 8)) := fun h => by rw [h, Bool.false_and, Bool.false_and]; exact ev_some _
    by_cases c1 : (c.toNat : Int) < 97
    · refine ev_pos c1 ?_
      by_cases c2 : (c.toNat : Int) < 48
      · exact ev_pos c2 (no (decide_eq_false (by omega)))
      · by_cases c3 : (c.toNat : Int) > 57
        · exact ev_neg c2 (ev_pos c3 (no (decide_eq_false (by omega))))
        · exact ev_neg c2 (ev_neg c3 (yes (decide_eq_true (by omega))))
    · refine ev_neg c1 ?_
      by_cases c2 : (c.toNat : Int) > 122
      · have c3 : ¬ (c.toNat : Int) < 48 := by omega
        have c4 : (c.toNat : Int) > 57 := by omega
        exact ev_pos c2 (ev_neg c3 (ev_pos c4 (no (decide_eq_false (by omega)))))
      · exact ev_neg c2 (yes (decide_eq_true (by omega)))
theorem impl_NameOk_ev (s : ByteArray) (hs : s.size < 9223372036854775807) : Ev (fun k => impl_NameOk.f k s) (nameL s.data.toList) := by
  have h := impl_loop s hs s.size 0 (by omega)
  rw [List.drop_zero] at h
  unfold impl_NameOk.f nameL
  rw [size_len]
  exact h
theorem spec_loop (s : ByteArray) (hs : s.size < 9223372036854775807) (m : Nat) : ∀ (i : Nat), i + m = s.size → Ev (fun k => spec_NameOk.l0 k s (i : Int)) ((s.data.toList.drop i).all okc && decide (1 ≤ s.size ∧ s.size ≤ 8)) := by
  induction m with
  | zero =>
    intro i hi
    have e : s.data.toList.drop i = [] := List.drop_eq_nil_of_le (by rw [size_len]; omega)
    rw [e]
    refine ev_step (fun k => spec_NameOk.l0.eq_2 _ _ k) (ev_neg (by omega) ?_)
    refine ev_const ?_
    unfold spec_l01In.f
    by_cases h1 : (s.size : Int) ≥ 1
    · rw [if_pos h1]
      simp only [Option.bind_some, List.all_nil, Bool.true_and]
      congr 1
      by_cases h2 : (s.size : Int) ≤ 8
      · rw [decide_eq_true h2, decide_eq_true (by omega)]
      · rw [decide_eq_false h2, decide_eq_false (by omega)]
    · rw [if_neg h1]
      simp only [Option.bind_some, List.all_nil, Bool.true_and]
      rw [decide_eq_false (by omega)]
  | succ m ih =>
    intro i hi
    obtain ⟨c, r, hd, hr⟩ := drop_size s i (by omega)
    have hb := bt_nat s i c r hd
    have ih' := ih (i + 1) (by omega)
    rw [hr] at ih'
    have ew : wrap64 ((i : Int) + 1) = ((i + 1 : Nat) : Int) := by rw [wrap_in (by omega) (by omega)]; rfl
    rw [hd, List.all_cons]
    refine ev_step (fun k => spec_NameOk.l0.eq_2 _ _ k) (ev_pos (by omega) (ev_pos (by omega) ?_))
    rw [hb, ew]
    have yes : okc c = true → Ev (fun k => spec_NameOk.l0 k s ((i + 1 : Nat) : Int)) ((okc c && r.all okc) && decide (1 ≤ s.size ∧ s.size ≤ 8)) := fun h => by rw [h, Bool.true_and]; exact ih'
    have no : okc c = false → Ev (fun _ => some false) ((okc c && r.all okc) && decide (1 ≤ s.size ∧ s.size ≤ 8)) := fun h => by rw [h, Bool.false_and, Bool.false_and]; exact ev_some _
    by_cases c1 : (c.toNat : Int) < 97
    · refine ev_pos c1 ?_
      by_cases c2 : (c.toNat : Int) < 48
      · exact ev_pos c2 (no (decide_eq_false (by omega)))
      · by_cases c3 : (c.toNat : Int) > 57
        · exact ev_neg c2 (ev_pos c3 (no (decide_eq_false (by omega))))
        · exact ev_neg c2 (ev_neg c3 (yes (decide_eq_true (by omega))))
    · refine ev_neg c1 ?_
      by_cases c2 : (c.toNat : Int) > 122
      · have c3 : ¬ (c.toNat : Int) < 48 := by omega
        have c4 : (c.toNat : Int) > 57 := by omega
        exact ev_pos c2 (ev_neg c3 (ev_pos c4 (no (decide_eq_false (by omega)))))
      · exact ev_neg c2 (yes (decide_eq_true (by omega)))
theorem spec_NameOk_ev (s : ByteArray) (hs : s.size < 9223372036854775807) : Ev (fun k => spec_NameOk.f k s) (nameL s.data.toList) := by
  have h := spec_loop s hs s.size 0 (by omega)
  rw [List.drop_zero] at h
  unfold spec_NameOk.f nameL
  rw [size_len]
  exact h
end Go.Proofs.YtfgnaneajonapaaDoor.Pu

namespace Go.Proofs.YtfgnaneajonapaaDoor.Pr
open Go.RowKit Go.Proofs.YtfgnaneajonapaaDoorW.PrintWords Go.Proofs.YtfgnaneajonapaaDoorW.PrintLast Go.Proofs.YtfgnaneajonapaaDoorW.PrintMore
set_option linter.unusedVariables false
set_option linter.unusedSimpArgs false
open Go.Proofs.YtfgnaneajonapaaDoor.Evs Go.Proofs.YtfgnaneajonapaaDoor.Pu
def pieces (s : ByteArray) : List ByteArray := Lib.splitB ⟨#[47]⟩ 0 (Lib.countB s ⟨#[47]⟩) s
theorem pieces_cut (s : ByteArray) : (pieces s).map (·.data.toList) = cutS s.data.toList := by
  unfold pieces
  rw [Lib.splitB_data]
  exact split_cut s.data.toList
theorem pieces_len (s : ByteArray) : (pieces s).length = Lib.countB s ⟨#[47]⟩ + 1 := Lib.splitB_all ⟨#[47]⟩ (by decide) 0 _ s rfl
theorem pieces_size : ∀ (k : Nat) (s : ByteArray), ∀ x ∈ Lib.splitB ⟨#[47]⟩ 0 k s, x.size ≤ s.size
  | 0, s, x, h => by rw [Lib.splitB_zero, List.mem_singleton] at h; rw [h]; exact Nat.le_refl _
  | k + 1, s, x, h => by
    rcases Lib.indexB_cases s ⟨#[47]⟩ with hi | ⟨i, hi, _⟩
    · rw [Lib.splitB_miss _ _ _ _ hi, List.mem_singleton] at h; rw [h]; exact Nat.le_refl _
    · rw [Lib.splitB_hit _ _ _ _ i hi] at h
      rcases List.mem_cons.1 h with h | h
      · rw [h, ByteArray.size_extract]; omega
      · have := pieces_size k _ x h
        rw [ByteArray.size_extract] at this
        omega
theorem split_calls (s : ByteArray) (w : World) (hs : s.size < 4294967281) : Calls Tryd.prog 60 #[.string s, .string ⟨#[47]⟩] w fun e w' =>
    e = .returned (.slice (some ⟨w.heap.size, 0, none⟩) (pieces s).length (pieces s).length) ∧ w' = w.alloc (.cells ((pieces s).map Value.string).toArray 9) := by
  have hI : ∀ (x : ByteArray) (c : Array Value), x.size ≤ s.size → Calls Tryd.prog 75 #[.string x, .string ⟨#[47]⟩] (w.alloc (.cells c 9)) fun e w' => e = .returned (.int .i64 (Lib.indexB x ⟨#[47]⟩)) ∧ w' = w.alloc (.cells c 9) := fun x c _ =>
    (Tryd.strings_Index_one x 47 _).mono fun e w' ⟨he, hw⟩ => ⟨he.trans (by rw [← Lib.index_one]), hw⟩
  have hC : Calls Tryd.prog 74 #[.string s, .string ⟨#[47]⟩] w fun e w' => e = .returned (.int .i64 (Lib.countB s ⟨#[47]⟩)) ∧ w' = w :=
    (Tryd.strings_Count_one s 47 w).mono fun e w' ⟨he, hw⟩ => ⟨he.trans (by show _ = Ending.returned (Value.int .i64 ((Lib.count s.data.toList [47] : Nat) : Int)); rw [Lib.count_one]; rfl), hw⟩
  have hle : Lib.countB s ⟨#[47]⟩ ≤ s.size := Lib.countB_le ⟨#[47]⟩ (by decide) s.size s (Nat.le_refl _)
  have c := Any.strings_genSplit_core Tryd.lays221 (by kernel_rfl) s ⟨#[47]⟩ 0 (-1) (Lib.countB s ⟨#[47]⟩ + 1) w hs (by decide) (Nat.zero_le _) hI hC (by decide) (by decide) (by rw [if_pos (by decide)]; omega)
  rw [Nat.add_sub_cancel, ← pieces_len] at c
  have e2 : Lib.cellsOf (pieces s) (pieces s).length = ((pieces s).map Value.string).toArray := Lib.cellsOf_full _
  replace c : Calls Tryd.prog 67 #[.string s, .string ⟨#[47]⟩, .int .i64 0, .int .i64 (-1)] w fun e w' => e = .returned (.slice (some ⟨w.heap.size, 0, none⟩) (pieces s).length (pieces s).length) ∧ w' = w.alloc (.cells ((pieces s).map Value.string).toArray 9) := by
    rw [← e2]
    exact c
  clear e2 hI hC hle
  go_enter Tryd.func60, Tryd.ntmps60
  go_wp2_with (go_at_call 67; refine c.mono ?_; rintro e w' ⟨rfl, hw⟩; rw [hw])
  go_ret
  exact ⟨rfl, rfl⟩
def Short := { x : ByteArray // x.size < 4294967296 }
instance : Inhabited Short := ⟨⟨⟨#[]⟩, by decide⟩⟩
def shortB (x : Short) : ByteArray := x.1
theorem cl_name (x : Short) (w : World) : Calls Tryd.prog 62 #[.string x.1] w fun e w' => e = .returned (.bool (!nameL x.1.data.toList)) ∧ ∃ q, w' = w.drewN q := by
  obtain ⟨k, hk⟩ := ev_rounds (impl_NameOk_ev x.1 (by have := x.2; omega))
  have c := impl_NameOk.calls k x.1 _ w hk
  clear hk
  generalize nameL x.1.data.toList = b at c ⊢
  go_enter Tryd.func62, Tryd.ntmps62
  go_wp2_with (go_at_call 63; refine c.mono ?_; rintro e w' ⟨rfl, q, rfl⟩)
  go_ret
  exact ⟨rfl, _, rfl⟩
theorem short_of : ∀ l : List ByteArray, (∀ x ∈ l, x.size < 4294967296) → ∃ zs : List Short, zs.map shortB = l
  | [], _ => ⟨[], rfl⟩
  | x :: l, h => by
    obtain ⟨zs, e⟩ := short_of l (fun y hy => h y (List.mem_cons_of_mem _ hy))
    exact ⟨⟨x, h x (List.mem_cons_self ..)⟩ :: zs, by show x :: zs.map shortB = x :: l; rw [e]⟩
theorem any_names : ∀ (zs : List Short), (zs.any fun x => !nameL x.1.data.toList) = !(((zs.map shortB).map (·.data.toList)).all nameL)
  | [] => rfl
  | x :: l => by
    rw [List.any_cons, any_names l, List.map_cons, List.map_cons, List.all_cons, Bool.not_and]
    rfl
theorem cut_prefix (p : ByteArray) (w : World) (r : ByteArray) (b : Bool) (hr : Lib.trimPrefix p.data.toList [47] = r.data.toList) (hb : Lib.hasPrefix p.data.toList [47] = b) : Calls Tryd.prog 59 #[.string p, .string ⟨#[47]⟩] w fun e w' => e = .returned (.tuple #[.string r, .bool b]) ∧ w' = w := by
  refine (Tryd.strings_CutPrefix p ⟨#[47]⟩ w).mono fun e w' ⟨he, hw⟩ => ⟨he.trans ?_, hw⟩
  have e1 : Lib.trimPrefix p.data.toList (⟨#[47]⟩ : ByteArray).data.toList = r.data.toList := hr
  have e2 : Lib.hasPrefix p.data.toList (⟨#[47]⟩ : ByteArray).data.toList = b := hb
  rw [e1, e2]
def SplitTold (p : ByteArray) (w : World) (e : Ending) (w' : World) : Prop := Below w.heap.size w w' ∧
  ((isNamed p.data.toList = false ∧ ∃ (A : Option Addr) (n c : Nat) (ok : Bool), (ok = false ∨ n = 0) ∧ e = .returned (.tuple #[.slice A n c, .bool ok])) ∨
   (isNamed p.data.toList = true ∧ ∃ (b : Nat) (xs : List ByteArray), e = .returned (.tuple #[.slice (some ⟨b, 0, none⟩) xs.length xs.length, .bool true]) ∧ 1 ≤ xs.length ∧ xs.length ≤ 4 ∧ (∀ x ∈ xs, x.size < 4294967296) ∧ b < w'.heap.size ∧ ∀ (j : Nat) x, xs[j]? = some x → w'.cell? ⟨b, 0 + j, none⟩ = some (.string x)))
theorem splitPath_told (p : ByteArray) (w : World) (hs : p.size < 4294967281) : Calls Tryd.prog 54 #[.string p] w (SplitTold p w) := by
  by_cases hp : Lib.hasPrefix p.data.toList [47] = true
  · obtain ⟨rest, hl⟩ : ∃ rest, p.data.toList = 47 :: rest := by
      cases h : p.data.toList with
      | nil => rw [h] at hp; exact absurd hp (by decide)
      | cons a t =>
        rw [h] at hp
        have : a = 47 := by
          have h2 : ([47].isPrefixOf (a :: t)) = true := hp
          simp [List.isPrefixOf] at h2
          exact h2.symm
        rw [this]
        exact ⟨t, rfl⟩
    have ht : Lib.trimPrefix p.data.toList [47] = (⟨rest.toArray⟩ : ByteArray).data.toList := by
      unfold Lib.trimPrefix
      rw [if_pos hp, hl]
      rfl
    have c := cut_prefix p w ⟨rest.toArray⟩ true ht hp
    have hz : rest.length + 1 = p.size := by rw [← size_len, hl]; rfl
    obtain ⟨R, hR⟩ : ∃ R : ByteArray, R = ⟨rest.toArray⟩ := ⟨_, rfl⟩
    rw [← hR] at c ht
    have hRd : R.data.toList = rest := by rw [hR]
    have hRs : R.size < 4294967281 := by rw [← size_len, hRd]; omega
    have cs := split_calls R w hRs
    clear hR ht hp hz
    by_cases hr : rest = []
    · have hn : isNamed p.data.toList = false := by rw [hl, hr]; rfl
      have he : R.toList.isEmpty = true := by rw [Lib.toList_data, hRd, hr]; rfl
      have HN := Aside0.mk hn
      clear hn hl hr hRd hRs cs
      go_enter Tryd.func54, Tryd.ntmps54
      go_wp2_with (go_at_call 59; refine c.mono ?_; rintro e w' ⟨rfl, hw⟩; rw [hw])
      go_ret2
      exact ⟨Below.refl _ _, .inl ⟨HN.out, _, _, _, _, .inr rfl, rfl⟩⟩
    · have he : R.toList.isEmpty = false := by
        rw [Lib.toList_data, hRd]
        cases rest with
        | nil => exact absurd rfl hr
        | cons _ _ => rfl
      have hei : rest.isEmpty = false := by rw [← hRd, ← Lib.toList_data]; exact he
      have hcut := pieces_cut R
      rw [hRd] at hcut
      have hlen : (cutS rest).length = (pieces R).length := by rw [← hcut, List.length_map]
      have hlen1 := pieces_len R
      have hn : isNamed p.data.toList = (decide ((pieces R).length ≤ 4) && (cutS rest).all nameL) := by
        rw [hl, isNamed, decide_eq_true rfl, hei, hlen]
        rfl
      have hsz : ∀ x ∈ pieces R, x.size < 4294967296 := fun x hx => by have := pieces_size _ R x hx; omega
      obtain ⟨zs, hzs⟩ := short_of (pieces R) hsz
      have hzl : zs.length = (pieces R).length := by rw [← hzs, List.length_map]
      have hany := any_names zs
      rw [hzs, hcut] at hany
      have ecell : ∀ (j : Nat) x, (pieces R)[j]? = some x → (w.alloc (.cells ((pieces R).map Value.string).toArray 9)).cell? ⟨w.heap.size, 0 + j, none⟩ = some (.string x) := fun j x hx => by
        rw [World.cell?_alloc_new]
        simp [hx]
      clear hlen hcut hei hl hr hRd hRs
      by_cases h4 : (pieces R).length ≤ 4
      · rw [decide_eq_true h4, Bool.true_and] at hn
        have cc : Calls Tryd.prog 61 #[.slice (some ⟨w.heap.size, 0, none⟩) (pieces R).length (pieces R).length, .func (.func 62) #[] #[]] (w.alloc (.cells ((pieces R).map Value.string).toArray 9)) fun e w' =>
            e = .returned (.bool (!(cutS rest).all nameL)) ∧ ∃ q, w' = (w.alloc (.cells ((pieces R).map Value.string).toArray 9)).drewN q := by
          have hp : PredAt Tryd.prog 62 #[] (fun x : Short => Value.string x.1) (fun x => !nameL x.1.data.toList) (w.alloc (.cells ((pieces R).map Value.string).toArray 9)) := fun W x _ => by
            show Calls _ _ (#[Value.string x.1] ++ #[]) W _
            rw [Array.append_empty]
            exact cl_name x W
          have h := Tryd.slices_ContainsFunc (fun x : Short => Value.string x.1) (fun x => !nameL x.1.data.toList) 62 #[] (enters_of Tryd.func62 (by kernel_rfl) rfl) w.heap.size 0 (pieces R).length (pieces R).length zs _ hp (by omega) (by omega) (fun j hj => by
            refine ecell j _ ?_
            rw [← hzs, List.getElem?_map, List.getElem?_eq_getElem hj, getElem!_pos zs j hj]
            rfl)
          rw [List.take_of_length_le (by omega), hany] at h
          exact h
        have hg : decide (((pieces R).length : Int) > 4) = false := decide_eq_false (by omega)
        have hg2 : ¬ ((pieces R).length : Int) > 4 := by omega
        have hl1 : 1 ≤ (pieces R).length := by omega
        generalize (cutS rest).all nameL = b at hn cc
        generalize pieces R = xs at *
        have HN := Aside0.mk hn
        have HE := Aside0.mk ecell
        have HS := Aside0.mk hsz
        have H4 := Aside0.mk h4
        have H1 := Aside0.mk hl1
        clear hn hsz hzs hzl hany ecell h4 hlen1 hl1
        cases b with
        | true =>
          rw [Bool.not_true] at cc
          go_enter Tryd.func54, Tryd.ntmps54
          go_wp2_with (first | (go_at_call 59; refine c.mono ?_; rintro e w' ⟨rfl, hw⟩; rw [hw]) | (go_at_call 60; refine cs.mono ?_; rintro e w' ⟨rfl, hw⟩; rw [hw]) | (go_at_call 61; refine cc.mono ?_; rintro e w' ⟨rfl, q, hw⟩; rw [hw]))
          go_ret2
          exact ⟨pw_below_drewN ((Below.refl _ _).alloc (Nat.le_refl _) _) _, .inr ⟨HN.out, _, xs, rfl, H1.out, H4.out, HS.out, by simp, fun j x hx => (World.cell?_drewN ..).trans (HE.out j x hx)⟩⟩
        | false =>
          rw [Bool.not_false] at cc
          go_enter Tryd.func54, Tryd.ntmps54
          go_wp2_with (first | (go_at_call 59; refine c.mono ?_; rintro e w' ⟨rfl, hw⟩; rw [hw]) | (go_at_call 60; refine cs.mono ?_; rintro e w' ⟨rfl, hw⟩; rw [hw]) | (go_at_call 61; refine cc.mono ?_; rintro e w' ⟨rfl, q, hw⟩; rw [hw]))
          go_ret2
          exact ⟨pw_below_drewN ((Below.refl _ _).alloc (Nat.le_refl _) _) _, .inl ⟨HN.out, _, _, _, _, .inl rfl, rfl⟩⟩
      · rw [decide_eq_false h4, Bool.false_and] at hn
        have hg : decide (((pieces R).length : Int) > 4) = true := decide_eq_true (by omega)
        have hg2 : ((pieces R).length : Int) > 4 := by omega
        generalize pieces R = xs at *
        have HN := Aside0.mk hn
        clear hn hsz hzs hzl hany ecell h4 hlen1
        go_enter Tryd.func54, Tryd.ntmps54
        go_wp2_with (first | (go_at_call 59; refine c.mono ?_; rintro e w' ⟨rfl, hw⟩; rw [hw]) | (go_at_call 60; refine cs.mono ?_; rintro e w' ⟨rfl, hw⟩; rw [hw]))
        go_ret2
        exact ⟨(Below.refl _ _).alloc (Nat.le_refl _) _, .inl ⟨HN.out, _, _, _, _, .inl rfl, rfl⟩⟩
  · have hp' : Lib.hasPrefix p.data.toList [47] = false := Bool.eq_false_iff.2 hp
    have c := cut_prefix p w p false (by unfold Lib.trimPrefix; rw [if_neg hp]) hp'
    have hn : isNamed p.data.toList = false := by
      cases h : p.data.toList with
      | nil => rfl
      | cons a t =>
        rw [h] at hp'
        have h2 : ([47].isPrefixOf (a :: t)) = false := hp'
        simp [List.isPrefixOf] at h2
        rw [isNamed, decide_eq_false (fun e => h2 e.symm)]
        rfl
    have HN := Aside0.mk hn
    clear hn hp hp'
    go_enter Tryd.func54, Tryd.ntmps54
    go_wp2_with (go_at_call 59; refine c.mono ?_; rintro e w' ⟨rfl, hw⟩; rw [hw])
    go_ret2
    exact ⟨Below.refl _ _, .inl ⟨HN.out, _, _, _, false, .inl rfl, rfl⟩⟩
theorem tail_len (sep : List UInt8) (hs : sep.length ≤ 1) : ∀ l : List (List UInt8), (∀ x ∈ l, x.length < 4294967296) → (Lib.joinTail sep l).length ≤ l.length * 4294967297
  | [], _ => Nat.zero_le _
  | x :: l, h => by
    have h1 := h x (List.mem_cons_self ..)
    have ih := tail_len sep hs l (fun z hz => h z (List.mem_cons_of_mem _ hz))
    have e : Lib.joinTail sep (x :: l) = (sep ++ x) ++ Lib.joinTail sep l := rfl
    rw [e, List.length_append, List.length_append, List.length_cons]
    omega
theorem join_len (sep : List UInt8) (hs : sep.length ≤ 1) : ∀ l : List (List UInt8), (∀ x ∈ l, x.length < 4294967296) → (Lib.join l sep).length ≤ l.length * 4294967297
  | [], _ => by rw [Lib.join_nil]; exact Nat.zero_le _
  | x :: l, h => by
    have h1 := h x (List.mem_cons_self ..)
    have ih := tail_len sep hs l (fun z hz => h z (List.mem_cons_of_mem _ hz))
    rw [Lib.join_cons, List.length_append, List.length_cons]
    omega
theorem joinPath_calls (bk n c : Nat) (xs : List ByteArray) (w : World) (hn : xs.length = n) (h4 : n ≤ 4) (hc : n ≤ c) (hsz : ∀ x ∈ xs, x.size < 4294967296) (hb : bk < w.heap.size) (hcells : ∀ (j : Nat) x, xs[j]? = some x → w.cell? ⟨bk, 0 + j, none⟩ = some (.string x)) :
    Calls Tryd.prog 55 #[.slice (some ⟨bk, 0, none⟩) n c] w fun e w' => (∃ t, e = .returned (.string t)) ∧ Below w.heap.size w w' := by
  subst hn
  have hl : (Lib.join (xs.map (·.data.toList)) (⟨#[47]⟩ : ByteArray).data.toList).length ≤ 140737488355328 := by
    have := join_len (⟨#[47]⟩ : ByteArray).data.toList (Nat.le_refl _) (xs.map (·.data.toList)) (fun x hx => by
      obtain ⟨y, hy, rfl⟩ := List.mem_map.1 hx
      show y.data.toList.length < 4294967296
      rw [size_len]; exact hsz y hy)
    rw [List.length_map] at this
    omega
  have j := Tryd.strings_Join bk 0 c xs ⟨#[47]⟩ w hcells hb (by omega) hc hl
  have hz : (⟨(Lib.join (xs.map (·.data.toList)) (⟨#[47]⟩ : ByteArray).data.toList).toArray⟩ : ByteArray).size ≤ 140737488355328 := by show Array.size _ ≤ _; rw [List.size_toArray]; exact hl
  generalize (⟨(Lib.join (xs.map (·.data.toList)) (⟨#[47]⟩ : ByteArray).data.toList).toArray⟩ : ByteArray) = t at j hz
  clear hl hcells hsz
  go_enter Tryd.func55, Tryd.ntmps55
  go_wp2_with (go_at_call 64; refine j.mono ?_; rintro e w1 ⟨rfl, hb⟩)
  go_ret
  exact ⟨⟨_, rfl⟩, hb⟩
theorem parentPath_calls (p : ByteArray) (w : World) (hs : p.size < 4294967281) : Calls Tryd.prog 48 #[.string p] w fun e w' => (∃ s t, e = .returned (.tuple #[.string s, .string t, .bool (isNamed p.data.toList)])) ∧ Below w.heap.size w w' := by
  have h := splitPath_told p w hs
  clear hs
  go_enter Tryd.func48, Tryd.ntmps48
  go_wp2_with fail
  refine h.mono ?_
  clear h
  rintro e w1 ⟨hb, (⟨hn, A, n, c, ok, hok, rfl⟩ | ⟨hn, b, xs, rfl, h1, h4, hsz, hbl, hcells⟩)⟩
  · have HB := Aside0.mk hb
    have HN := Aside0.mk hn
    clear hb hn
    rcases hok with rfl | rfl
    · go_wp2
      go_ret3
      exact ⟨⟨⟨#[]⟩, ⟨#[]⟩, by rw [HN.out]; rfl⟩, HB.out⟩
    · cases ok with
      | true =>
        go_wp2
        go_ret3
        exact ⟨⟨⟨#[]⟩, ⟨#[]⟩, by rw [HN.out]; rfl⟩, HB.out⟩
      | false =>
        go_wp2
        go_ret3
        exact ⟨⟨⟨#[]⟩, ⟨#[]⟩, by rw [HN.out]; rfl⟩, HB.out⟩
  · obtain ⟨m, hm⟩ : ∃ m, xs.length = m + 1 := ⟨xs.length - 1, by omega⟩
    have hg : ((xs.length : Int) == 0) = false := by rw [beq_eq_false_iff_ne]; omega
    have hwr : wrap64 ((xs.length : Int) - 1) = (m : Int) := by rw [wrap_in (by omega) (by omega)]; omega
    have hj : ∀ W, Below w1.heap.size w1 W → Calls Tryd.prog 55 #[.slice (some ⟨b, 0, none⟩) m (m + 1)] W fun e w' => (∃ t, e = .returned (.string t)) ∧ Below W.heap.size W w' := fun W hB =>
      joinPath_calls b m (m + 1) (xs.take m) W (by rw [List.length_take]; omega) (by omega) (by omega) (fun x hx => hsz x (List.mem_of_mem_take hx)) (Nat.lt_of_lt_of_le hbl hB.size) (fun j x hx => (hB.cell (p := ⟨b, 0 + j, none⟩) hbl).trans (hcells j x (by
        rw [List.getElem?_take] at hx
        split at hx
        · exact hx
        · cases hx)))
    obtain ⟨x, hx⟩ : ∃ x, xs[m]? = some x := ⟨_, List.getElem?_eq_getElem (by omega)⟩
    have hcell := hcells m x hx
    rw [Nat.zero_add] at hcell
    have HB := Aside0.mk hb
    have HN := Aside0.mk hn
    have HL := Aside0.mk hbl
    have HX := Aside0.mk hcell
    have HJ := Aside0.mk hj
    clear hb hn hsz hcells hx hbl hcell hj
    generalize xs.length = l at *
    subst hm
    have q1 : ((m : Int) ≤ (m : Int) + 1) = True := eq_true (by omega)
    have q2 : ((m : Int) < (m : Int) + 1) = True := eq_true (by omega)
    go_wp2
    refine start_ (n := 11) (S := fun w' => Below w1.heap.size w1 w' ∧ w'.cell? ⟨b, m, none⟩ = some (.string x)) (ds := []) #[false, false, false, false, false, false, false, false, false, false, false] (by kernel_rfl) rfl rfl ⟨(Below.refl _ _).drew, HX.out⟩ (fun hHeld => ?_)
    refine pure_ (i := 0) (N := some 23) (v := ?_) (a' := ?_) #[true, false, false, false, false, false, false, false, false, false, false] rfl rfl (by kernel_rfl) (fun _ _ _ h => h) (Or.inl ⟨by rfl, ?_⟩) ?_ ?_
    rotate_left
    · intro w'
      go_simp
      with_reducible rfl
    rotate_left
    · simp only [Act.put, List.setIfInBounds_toArray, List.set_cons_zero, List.set_cons_succ, i64_w, i32_w]
      rfl
    refine pure_ (i := 1) (N := some 24) (v := ?_) (a' := ?_) #[true, true, false, false, false, false, false, false, false, false, false] rfl rfl (by kernel_rfl) (fun _ _ _ h => h) (Or.inl ⟨by rfl, ?_⟩) ?_ ?_
    rotate_left
    · intro w'
      go_simp
      with_reducible rfl
    rotate_left
    · simp only [Act.put, List.setIfInBounds_toArray, List.set_cons_zero, List.set_cons_succ, i64_w, i32_w]
      rfl
    refine pure_ (i := 2) (N := some 25) (v := ?_) (a' := ?_) #[true, true, true, false, false, false, false, false, false, false, false] rfl rfl (by kernel_rfl) (fun _ _ _ h => h) (Or.inl ⟨by rfl, ?_⟩) ?_ ?_
    rotate_left
    · intro w'
      go_simp
      with_reducible rfl
    rotate_left
    · simp only [Act.put, List.setIfInBounds_toArray, List.set_cons_zero, List.set_cons_succ, i64_w, i32_w]
      rfl
    refine pure_ (i := 4) (N := some 27) (v := ?_) (a' := ?_) #[true, true, true, false, true, false, false, false, false, false, false] rfl rfl (by kernel_rfl) (fun _ _ _ h => h) (Or.inl ⟨by rfl, ?_⟩) ?_ ?_
    rotate_left
    · intro w'
      go_simp
      with_reducible rfl
    rotate_left
    · simp only [Act.put, List.setIfInBounds_toArray, List.set_cons_zero, List.set_cons_succ, i64_w, i32_w]
      rfl
    refine pure_ (i := 5) (N := some 28) (v := ?_) (a' := ?_) #[true, true, true, false, true, true, false, false, false, false, false] rfl rfl (by kernel_rfl) (fun _ _ _ h => h) (Or.inl ⟨by rfl, ?_⟩) ?_ ?_
    rotate_left
    · intro w'
      go_simp
      with_reducible rfl
    rotate_left
    · simp only [Act.put, List.setIfInBounds_toArray, List.set_cons_zero, List.set_cons_succ, i64_w, i32_w]
      rfl
    refine pure_ (i := 6) (N := some 29) (v := ?_) (a' := ?_) #[true, true, true, false, true, true, true, false, false, false, false] rfl rfl (by kernel_rfl) (fun _ _ _ h => h) (Or.inl ⟨by rfl, ?_⟩) ?_ ?_
    rotate_left
    · intro w'
      go_simp
      with_reducible rfl
    rotate_left
    · simp only [Act.put, List.setIfInBounds_toArray, List.set_cons_zero, List.set_cons_succ, i64_w, i32_w]
      rfl
    refine take_ (i := 7) (N := some 30) (v := ?_) (a' := ?_) #[true, true, true, false, true, true, true, true, false, false, false] rfl rfl (by kernel_rfl) (fun _ _ _ h => h) (Or.inl ⟨by rfl, ?_⟩) hHeld ?_ ?_
    rotate_left
    · rintro w' ⟨s0, s1⟩
      go_simp
      with_reducible rfl
    rotate_left
    · simp only [Act.put, List.setIfInBounds_toArray, List.set_cons_zero, List.set_cons_succ, i64_w, i32_w]
      rfl
    refine one_ (i := 3) (N := some 26) #[true, true, true, true, true, true, true, true, false, false, false] rfl rfl (by kernel_rfl) (by decide) (fun K hK => ?_)
    refine goes_ Tryd.func55 (by kernel_rfl) rfl #[.slice (some ⟨b, 0, none⟩) m (m + 1)] (by rfl) rfl rfl (by simp only [List.map_toArray, List.map_cons, List.map_nil]; rfl) ?_
    with_reducible refine (HJ.out _ hHeld.1).mono ?_
    rintro e w3 ⟨⟨t, rfl⟩, hb3⟩
    refine ⟨_, rfl, ?_⟩
    refine hK.out _ _ ⟨(hHeld.1.trans (hb3.mono hHeld.1.size)), ((hb3.cell (p := ⟨b, m, none⟩) (Nat.lt_of_lt_of_le HL.out hHeld.1.size)).trans hHeld.2)⟩ (fun hHeld => ?_)
    clear hK K
    refine norm_ (a' := ?_) ?_ ?_
    rotate_left
    · show Act.put _ (some 26) _ = _
      simp only [Act.put, List.setIfInBounds_toArray, List.set_cons_zero, List.set_cons_succ, i64_w, i32_w]
      rfl
    refine pure_ (i := 8) (N := some 2) (v := ?_) (a' := ?_) #[true, true, true, true, true, true, true, true, true, false, false] rfl rfl (by kernel_rfl) (fun _ _ _ h => h) (Or.inl ⟨by rfl, ?_⟩) ?_ ?_
    rotate_left
    · intro w'
      go_simp
      with_reducible rfl
    rotate_left
    · simp only [Act.put, List.setIfInBounds_toArray, List.set_cons_zero, List.set_cons_succ, i64_w, i32_w]
      rfl
    refine pure_ (i := 9) (N := some 3) (v := ?_) (a' := ?_) #[true, true, true, true, true, true, true, true, true, true, false] rfl rfl (by kernel_rfl) (fun _ _ _ h => h) (Or.inl ⟨by rfl, ?_⟩) ?_ ?_
    rotate_left
    · intro w'
      go_simp
      with_reducible rfl
    rotate_left
    · simp only [Act.put, List.setIfInBounds_toArray, List.set_cons_zero, List.set_cons_succ, i64_w, i32_w]
      rfl
    refine pure_ (i := 10) (N := some 4) (v := ?_) (a' := ?_) #[true, true, true, true, true, true, true, true, true, true, true] rfl rfl (by kernel_rfl) (fun _ _ _ h => h) (Or.inl ⟨by rfl, ?_⟩) ?_ ?_
    rotate_left
    · intro w'
      go_simp
      with_reducible rfl
    rotate_left
    · simp only [Act.put, List.setIfInBounds_toArray, List.set_cons_zero, List.set_cons_succ, i64_w, i32_w]
      rfl
    refine done_ (by kernel_rfl) ?_
    go_wp2
    go_ret3
    exact ⟨⟨t, x, by rw [HN.out]; rfl⟩, HB.out.trans (hHeld.1.mono HB.out.size)⟩
def impl_named.f (a0 : ByteArray) : Option Bool := if a0.size < 4294967281 then some (isNamed a0.data.toList) else none
theorem impl_named.calls (a0 : ByteArray) (r : Bool) (w : World) (h : impl_named.f a0 = some r) : Calls Tryd.prog 29 #[.string a0] w fun e w' => e = .returned (.bool r) ∧ Below w.heap.size w w' := by
  unfold impl_named.f at h
  by_cases c : a0.size < 4294967281
  · rw [if_pos c] at h
    obtain rfl := Option.some.inj h
    have hp := parentPath_calls a0 w c
    clear h c
    generalize isNamed a0.data.toList = b at *
    go_enter Tryd.func29, Tryd.ntmps29
    go_wp2_with fail
    refine hp.mono ?_
    rintro e w1 ⟨⟨s, t, rfl⟩, hb⟩
    have HB := Aside0.mk hb
    clear hb hp
    go_wp2
    go_ret
    exact ⟨rfl, HB.out⟩
  · rw [if_neg c] at h
    cases h
end Go.Proofs.YtfgnaneajonapaaDoor.Pr

namespace Go.Proofs.YtfgnaneajonapaaDoor.Pr
open Go.RowKit Go.Proofs.YtfgnaneajonapaaDoorW.PrintWords Go.Proofs.YtfgnaneajonapaaDoorW.PrintLast Go.Proofs.YtfgnaneajonapaaDoorW.PrintMore
attribute [local go_sem] max2_int min2_int max_two min_two max_three min_three max_four min_four
set_option linter.unusedVariables false
set_option linter.unusedSimpArgs false
mutual
def impl_EditOk.j1 : Nat → Bool → Int → ByteArray → ByteArray → Int → Int → Option (Bool)
  | 0, _, _, _, _, _, _ => none
  | k + 1, x3, x209000, x209001, x209002, x209003, x209004 => if x209000 = 5 then ((impl_within.f x209003 1 3).bind fun t210 => ((impl_within.f x209000 1 10).bind fun t211 => (if t211 = true then (if x3 = true then (if t210 = true then (if x209004 = 0 then (some (x209002.toList == ([] : List UInt8))) else (some false)) else (some false)) else (some false)) else (some false)))) else (if x209000 = 6 then ((impl_within.f x209003 0 1000).bind fun t212 => ((impl_within.f x209000 1 10).bind fun t213 => (if t213 = true then (if x3 = true then (if t212 = true then (if x209004 = 0 then (some (x209002.toList == ([] : List UInt8))) else (some false)) else (some false)) else (some false)) else (some false)))) else (if x209000 = 7 then ((impl_within.f x209003 1 200).bind fun t214 => ((impl_within.f x209000 1 10).bind fun t215 => (if t215 = true then (if x3 = true then (if t214 = true then (if x209004 = 0 then (some (x209002.toList == ([] : List UInt8))) else (some false)) else (some false)) else (some false)) else (some false)))) else (if x209000 = 2 then (impl_EditOk.j2 k x3 (x209003 == 0) (x209004 == 0) (x209002.toList == ([] : List UInt8)) x209000 (x209000 == 2) x209000 x209001 x209002 x209003 x209004) else (impl_EditOk.j2 k x3 (x209003 == 0) (x209004 == 0) (x209002.toList == ([] : List UInt8)) x209000 (x209000 == 9) x209000 x209001 x209002 x209003 x209004))))
def impl_EditOk.j2 : Nat → Bool → Bool → Bool → Bool → Int → Bool → Int → ByteArray → ByteArray → Int → Int → Option (Bool)
  | 0, _, _, _, _, _, _, _, _, _, _, _ => none
  | k + 1, x3, x4, x5, x6, x36, x52, x209000, x209001, x209002, x209003, x209004 => if x52 = true then ((impl_within.f x209004 1 9).bind fun t216 => ((impl_within.f x209000 1 10).bind fun t217 => (if t217 = true then (if x3 = true then (if x4 = true then (if t216 = true then (some x6) else (some false)) else (some false)) else (some false)) else (some false)))) else (if x36 = 3 then ((impl_named.f x209002).bind fun t218 => ((impl_within.f x209000 1 10).bind fun t219 => (if t219 = true then (if x3 = true then (if x4 = true then (if x5 = true then (some t218) else (some false)) else (some false)) else (some false)) else (some false)))) else ((impl_within.f x209000 1 10).bind fun t220 => (if t220 = true then (if x3 = true then (if x4 = true then (if x5 = true then (some x6) else (some false)) else (some false)) else (some false)) else (some false))))
def impl_EditOk.j0 : Nat → Bool → Int → Bool → Int → ByteArray → ByteArray → Int → Int → Option (Bool)
  | 0, _, _, _, _, _, _, _, _ => none
  | k + 1, x3, x11, x12, x209000, x209001, x209002, x209003, x209004 => if x12 = true then (if x3 = true then (impl_EditOk.j1 k true x209000 x209001 x209002 x209003 x209004) else (impl_EditOk.j1 k (x209001.toList == ([47] : List UInt8)) x209000 x209001 x209002 x209003 x209004)) else (if x11 = 10 then (impl_EditOk.j1 k (x209001.toList == ([47] : List UInt8)) x209000 x209001 x209002 x209003 x209004) else (impl_EditOk.j1 k x3 x209000 x209001 x209002 x209003 x209004))
end
def impl_EditOk.f (k : Nat) (a0_0 : Int) (a0_1 : ByteArray) (a0_2 : ByteArray) (a0_3 : Int) (a0_4 : Int) : Option (Bool) := (impl_named.f a0_1).bind fun t209 => (if a0_0 = 5 then (impl_EditOk.j0 k t209 a0_0 (a0_0 == 5) a0_0 a0_1 a0_2 a0_3 a0_4) else (impl_EditOk.j0 k t209 a0_0 (a0_0 == 6) a0_0 a0_1 a0_2 a0_3 a0_4))
set_option maxHeartbeats 8000000 in
set_option maxRecDepth 100000 in
theorem impl_EditOk.calls (k : Nat) (a0_0 : Int) (a0_1 : ByteArray) (a0_2 : ByteArray) (a0_3 : Int) (a0_4 : Int) (r : Bool) (w : World) (h : impl_EditOk.f k a0_0 a0_1 a0_2 a0_3 a0_4 = some r) :
    Calls Tryd.prog 34 #[.agg #[.int .i64 a0_0, .string a0_1, .string a0_2, .int .i64 a0_3, .int .i64 a0_4]] w fun e w' => e = .returned (.bool r) ∧ Below w.heap.size w w' := by
  have hu60 := Tryd.underlying60
  have HB := Aside0.mk (Below.refl w.heap.size w)
  have H : ((impl_named.f a0_1).bind fun t209 => (if a0_0 = 5 then (impl_EditOk.j0 k t209 a0_0 (a0_0 == 5) a0_0 a0_1 a0_2 a0_3 a0_4) else (impl_EditOk.j0 k t209 a0_0 (a0_0 == 6) a0_0 a0_1 a0_2 a0_3 a0_4))) = some r := h
  clear h
  replace H := Option.bind_eq_some_iff.mp H
  obtain ⟨t209, A20, H⟩ := H
  replace H : (if a0_0 = 5 then (impl_EditOk.j0 k t209 a0_0 (a0_0 == 5) a0_0 a0_1 a0_2 a0_3 a0_4) else (impl_EditOk.j0 k t209 a0_0 (a0_0 == 6) a0_0 a0_1 a0_2 a0_3 a0_4)) = some r := H
  have A2 := Aside0.mk A20
  clear A20
  have HC3 := Aside0.mk H
  clear H
  go_enter Tryd.func34, Tryd.ntmps34
  go_upto_block 0 with (first | ((with_reducible refine gate_dst (N := 1) rfl ?_); refine BX 1 #[.int .i64 a0_0, .string a0_1, .string a0_2, .int .i64 a0_3, .int .i64 a0_4] 60 ?_; intro gb208 hg w4 hbox hb; have BK208 := Aside0.mk (hbox); have GW208 : Aside0 (w.heap.size ≤ gb208) := WG hg (BB HB.out); have GE208 := GW208; replace HB := Aside0.mk (below_step (BB HB.out) hb); clear hb hbox hg; have hcz5_0 : w4.cell? ⟨gb208, 0, none⟩ = some (.int .i64 a0_0) := (blk_cell BK208.out 0).trans rfl; have hcz5_1 : w4.cell? ⟨gb208, 1, none⟩ = some (.string a0_1) := (blk_cell BK208.out 1).trans rfl; have hcz5_2 : w4.cell? ⟨gb208, 2, none⟩ = some (.string a0_2) := (blk_cell BK208.out 2).trans rfl; have hcz5_3 : w4.cell? ⟨gb208, 3, none⟩ = some (.int .i64 a0_3) := (blk_cell BK208.out 3).trans rfl; have hcz5_4 : w4.cell? ⟨gb208, 4, none⟩ = some (.int .i64 a0_4) := (blk_cell BK208.out 4).trans rfl; have hfz5_0 := blk_frozen BK208.out 0; have hfz5_1 := blk_frozen BK208.out 1; have hfz5_2 := blk_frozen BK208.out 2; have hfz5_3 := blk_frozen BK208.out 3; have hfz5_4 := blk_frozen BK208.out 4) | (go_at_call 29; (with_reducible refine (impl_named.calls a0_1 t209 _ A2.out).mono ?_); rintro e w6 ⟨rfl, hb⟩; replace BK208 := Aside0.mk (KB BK208.out hb); replace HB := Aside0.mk (below_step (BB1 HB.out GE208.out) hb); (try clear hb); (try clear hb2); (try clear hk); (try clear hi); have hcz7_0 : w6.cell? ⟨gb208, 0, none⟩ = some (.int .i64 a0_0) := (blk_cell BK208.out 0).trans rfl; have hcz7_1 : w6.cell? ⟨gb208, 1, none⟩ = some (.string a0_1) := (blk_cell BK208.out 1).trans rfl; have hcz7_2 : w6.cell? ⟨gb208, 2, none⟩ = some (.string a0_2) := (blk_cell BK208.out 2).trans rfl; have hcz7_3 : w6.cell? ⟨gb208, 3, none⟩ = some (.int .i64 a0_3) := (blk_cell BK208.out 3).trans rfl; have hcz7_4 : w6.cell? ⟨gb208, 4, none⟩ = some (.int .i64 a0_4) := (blk_cell BK208.out 4).trans rfl; have hfz7_0 := blk_frozen BK208.out 0; have hfz7_1 := blk_frozen BK208.out 1; have hfz7_2 := blk_frozen BK208.out 2; have hfz7_3 := blk_frozen BK208.out 3; have hfz7_4 := blk_frozen BK208.out 4))
  repeat (go_quiet (first | ((with_reducible refine gate_dst (N := 1) rfl ?_); refine BX 1 #[.int .i64 a0_0, .string a0_1, .string a0_2, .int .i64 a0_3, .int .i64 a0_4] 60 ?_; intro gb208 hg w4 hbox hb; have BK208 := Aside0.mk (hbox); have GW208 : Aside0 (w.heap.size ≤ gb208) := WG hg (BB HB.out); have GE208 := GW208; replace HB := Aside0.mk (below_step (BB HB.out) hb); clear hb hbox hg; have hcz5_0 : w4.cell? ⟨gb208, 0, none⟩ = some (.int .i64 a0_0) := (blk_cell BK208.out 0).trans rfl; have hcz5_1 : w4.cell? ⟨gb208, 1, none⟩ = some (.string a0_1) := (blk_cell BK208.out 1).trans rfl; have hcz5_2 : w4.cell? ⟨gb208, 2, none⟩ = some (.string a0_2) := (blk_cell BK208.out 2).trans rfl; have hcz5_3 : w4.cell? ⟨gb208, 3, none⟩ = some (.int .i64 a0_3) := (blk_cell BK208.out 3).trans rfl; have hcz5_4 : w4.cell? ⟨gb208, 4, none⟩ = some (.int .i64 a0_4) := (blk_cell BK208.out 4).trans rfl; have hfz5_0 := blk_frozen BK208.out 0; have hfz5_1 := blk_frozen BK208.out 1; have hfz5_2 := blk_frozen BK208.out 2; have hfz5_3 := blk_frozen BK208.out 3; have hfz5_4 := blk_frozen BK208.out 4) | (go_at_call 29; (with_reducible refine (impl_named.calls a0_1 t209 _ A2.out).mono ?_); rintro e w6 ⟨rfl, hb⟩; replace BK208 := Aside0.mk (KB BK208.out hb); replace HB := Aside0.mk (below_step (BB1 HB.out GE208.out) hb); (try clear hb); (try clear hb2); (try clear hk); (try clear hi); have hcz7_0 : w6.cell? ⟨gb208, 0, none⟩ = some (.int .i64 a0_0) := (blk_cell BK208.out 0).trans rfl; have hcz7_1 : w6.cell? ⟨gb208, 1, none⟩ = some (.string a0_1) := (blk_cell BK208.out 1).trans rfl; have hcz7_2 : w6.cell? ⟨gb208, 2, none⟩ = some (.string a0_2) := (blk_cell BK208.out 2).trans rfl; have hcz7_3 : w6.cell? ⟨gb208, 3, none⟩ = some (.int .i64 a0_3) := (blk_cell BK208.out 3).trans rfl; have hcz7_4 : w6.cell? ⟨gb208, 4, none⟩ = some (.int .i64 a0_4) := (blk_cell BK208.out 4).trans rfl; have hfz7_0 := blk_frozen BK208.out 0; have hfz7_1 := blk_frozen BK208.out 1; have hfz7_2 := blk_frozen BK208.out 2; have hfz7_3 := blk_frozen BK208.out 3; have hfz7_4 := blk_frozen BK208.out 4)); go_upto_block 0 with (first | ((with_reducible refine gate_dst (N := 1) rfl ?_); refine BX 1 #[.int .i64 a0_0, .string a0_1, .string a0_2, .int .i64 a0_3, .int .i64 a0_4] 60 ?_; intro gb208 hg w4 hbox hb; have BK208 := Aside0.mk (hbox); have GW208 : Aside0 (w.heap.size ≤ gb208) := WG hg (BB HB.out); have GE208 := GW208; replace HB := Aside0.mk (below_step (BB HB.out) hb); clear hb hbox hg; have hcz5_0 : w4.cell? ⟨gb208, 0, none⟩ = some (.int .i64 a0_0) := (blk_cell BK208.out 0).trans rfl; have hcz5_1 : w4.cell? ⟨gb208, 1, none⟩ = some (.string a0_1) := (blk_cell BK208.out 1).trans rfl; have hcz5_2 : w4.cell? ⟨gb208, 2, none⟩ = some (.string a0_2) := (blk_cell BK208.out 2).trans rfl; have hcz5_3 : w4.cell? ⟨gb208, 3, none⟩ = some (.int .i64 a0_3) := (blk_cell BK208.out 3).trans rfl; have hcz5_4 : w4.cell? ⟨gb208, 4, none⟩ = some (.int .i64 a0_4) := (blk_cell BK208.out 4).trans rfl; have hfz5_0 := blk_frozen BK208.out 0; have hfz5_1 := blk_frozen BK208.out 1; have hfz5_2 := blk_frozen BK208.out 2; have hfz5_3 := blk_frozen BK208.out 3; have hfz5_4 := blk_frozen BK208.out 4) | (go_at_call 29; (with_reducible refine (impl_named.calls a0_1 t209 _ A2.out).mono ?_); rintro e w6 ⟨rfl, hb⟩; replace BK208 := Aside0.mk (KB BK208.out hb); replace HB := Aside0.mk (below_step (BB1 HB.out GE208.out) hb); (try clear hb); (try clear hb2); (try clear hk); (try clear hi); have hcz7_0 : w6.cell? ⟨gb208, 0, none⟩ = some (.int .i64 a0_0) := (blk_cell BK208.out 0).trans rfl; have hcz7_1 : w6.cell? ⟨gb208, 1, none⟩ = some (.string a0_1) := (blk_cell BK208.out 1).trans rfl; have hcz7_2 : w6.cell? ⟨gb208, 2, none⟩ = some (.string a0_2) := (blk_cell BK208.out 2).trans rfl; have hcz7_3 : w6.cell? ⟨gb208, 3, none⟩ = some (.int .i64 a0_3) := (blk_cell BK208.out 3).trans rfl; have hcz7_4 : w6.cell? ⟨gb208, 4, none⟩ = some (.int .i64 a0_4) := (blk_cell BK208.out 4).trans rfl; have hfz7_0 := blk_frozen BK208.out 0; have hfz7_1 := blk_frozen BK208.out 1; have hfz7_2 := blk_frozen BK208.out 2; have hfz7_3 := blk_frozen BK208.out 3; have hfz7_4 := blk_frozen BK208.out 4)))
  (try simp only [Act.put, List.setIfInBounds_toArray, List.set_cons_zero, List.set_cons_succ])
  go_cut [3] (fun v3 wc => ∃ (kq : Nat) (x3_2 : Bool), v3 = .bool x3_2 ∧ Aside0 (impl_EditOk.j1 kq x3_2 a0_0 a0_1 a0_2 a0_3 a0_4 = some r) ∧ Aside0 (kq ≤ k) ∧ Aside0 (wc.heap[gb208]? = some (.cells #[.int .i64 a0_0, .string a0_1, .string a0_2, .int .i64 a0_3, .int .i64 a0_4] 60 (0, 0))) ∧ Aside0 (Below w.heap.size w wc))
  case first =>
    have H := HC3.out
    clear HC3
    have HC8 := Aside0.mk H
    clear H
    go_upto_if 12 with (fail)
    repeat (go_quiet (fail); go_upto_if 12 with (fail))
    go_cut [12] (fun v12 wc => ∃ (kq : Nat) (x12_7 : Bool), v12 = .bool x12_7 ∧ Aside0 (impl_EditOk.j0 kq t209 a0_0 x12_7 a0_0 a0_1 a0_2 a0_3 a0_4 = some r) ∧ Aside0 (kq ≤ k) ∧ Aside0 (wc.heap[gb208]? = some (.cells #[.int .i64 a0_0, .string a0_1, .string a0_2, .int .i64 a0_3, .int .i64 a0_4] 60 (0, 0))) ∧ Aside0 (Below w.heap.size w wc))
    case first =>
      have H := HC8.out
      clear HC8
      by_cases c9 : a0_0 = 5
      · rw [if_pos c9] at H
        have c9b0 : (a0_0 == 5) = true := beq_iff_eq.mpr c9
        have c9b1 : (a0_0 != 5) = false := bne_eq_false_iff_eq.mpr c9
        clear c9
        (first | rw [c9b0] | (simp only [i64_w, i32_w]; rw [c9b0]) | skip)
        have H' := Aside0.mk H
        clear H
        go_wp2
        repeat (go_quiet (fail); try go_wp2)
        go_meet
        case rel => exact ⟨_, ((a0_0 == 5)), FR, H', ⟨by first | omega | exact Nat.le_refl _⟩, ⟨by (with_reducible repeat (first | refine blk_drewN ?_ _ | refine blk_drew ?_ | refine blk_alloc ?_ _)); exact BK208.out⟩, ⟨(BB1 HB.out GE208.out)⟩⟩
      · rw [if_neg c9] at H
        have c9b0 : (a0_0 == 5) = false := beq_eq_false_iff_ne.mpr c9
        have c9b1 : (a0_0 != 5) = true := bne_iff_ne.mpr c9
        (first | rw [c9b0] | (simp only [i64_w, i32_w]; rw [c9b0]) | skip)
        have H' := Aside0.mk H
        clear H
        go_wp2
        repeat (go_quiet (fail); try go_wp2)
        go_meet
        case rel => exact ⟨_, ((a0_0 == 6)), FR, H', ⟨by first | omega | exact Nat.le_refl _⟩, ⟨by (with_reducible repeat (first | refine blk_drewN ?_ _ | refine blk_drew ?_ | refine blk_alloc ?_ _)); exact BK208.out⟩, ⟨(BB1 HB.out GE208.out)⟩⟩
    case rest =>
      clear HC8
      try clear p2
      try clear c3
      try clear c9
      try clear c9b0
      try clear c9b1
      try clear hcz5_0
      try clear hcz5_1
      try clear hcz5_2
      try clear hcz5_3
      try clear hcz5_4
      try clear hcz7_0
      try clear hcz7_1
      try clear hcz7_2
      try clear hcz7_3
      try clear hcz7_4
      try clear hfz5_0
      try clear hfz5_1
      try clear hfz5_2
      try clear hfz5_3
      try clear hfz5_4
      try clear hfz7_0
      try clear hfz7_1
      try clear hfz7_2
      try clear hfz7_3
      try clear hfz7_4
      obtain ⟨kq, x12_7, rfl, HA, HJ7, BK208, HB⟩ := hcut
      cases kq with
      | zero => exact absurd HA.out (by simp [impl_EditOk.j0])
      | succ kj7 =>
        have H := HA.out
        clear HA
        simp only [impl_EditOk.j0] at H
        by_cases c10 : x12_7 = true
        · subst c10
          have H1 : (if t209 = true then (impl_EditOk.j1 kj7 true a0_0 a0_1 a0_2 a0_3 a0_4) else (impl_EditOk.j1 kj7 (a0_1.toList == ([47] : List UInt8)) a0_0 a0_1 a0_2 a0_3 a0_4)) = some r := by rw [if_pos rfl] at H; exact H
          clear H
          have H := H1
          clear H1
          by_cases c11 : t209 = true
          · subst c11
            have H1 : (impl_EditOk.j1 kj7 true a0_0 a0_1 a0_2 a0_3 a0_4) = some r := by rw [if_pos rfl] at H; exact H
            clear H
            have H := H1
            clear H1
            have H' := Aside0.mk H
            clear H
            go_wp2
            repeat (go_quiet (fail); try go_wp2)
            go_meet
            case rel => exact ⟨_, (true), FR, H', ⟨by have := HJ7.out; first | omega | exact Nat.le_refl _⟩, ⟨by (with_reducible repeat (first | refine blk_drewN ?_ _ | refine blk_drew ?_ | refine blk_alloc ?_ _)); exact BK208.out⟩, ⟨(BB1 HB.out GE208.out)⟩⟩
          · replace c11 := Bool.eq_false_iff.mpr c11
            subst c11
            have H1 : (impl_EditOk.j1 kj7 (a0_1.toList == ([47] : List UInt8)) a0_0 a0_1 a0_2 a0_3 a0_4) = some r := by rw [if_neg (show ¬ (false = true) by decide)] at H; exact H
            clear H
            have H := H1
            clear H1
            have H' := Aside0.mk H
            clear H
            have hcz12_0 : wc.cell? ⟨gb208, 0, none⟩ = some (.int .i64 a0_0) := (blk_cell BK208.out 0).trans rfl
            have hcz12_1 : wc.cell? ⟨gb208, 1, none⟩ = some (.string a0_1) := (blk_cell BK208.out 1).trans rfl
            have hcz12_2 : wc.cell? ⟨gb208, 2, none⟩ = some (.string a0_2) := (blk_cell BK208.out 2).trans rfl
            have hcz12_3 : wc.cell? ⟨gb208, 3, none⟩ = some (.int .i64 a0_3) := (blk_cell BK208.out 3).trans rfl
            have hcz12_4 : wc.cell? ⟨gb208, 4, none⟩ = some (.int .i64 a0_4) := (blk_cell BK208.out 4).trans rfl
            have hfz12_0 := blk_frozen BK208.out 0
            have hfz12_1 := blk_frozen BK208.out 1
            have hfz12_2 := blk_frozen BK208.out 2
            have hfz12_3 := blk_frozen BK208.out 3
            have hfz12_4 := blk_frozen BK208.out 4
            go_wp2
            repeat (go_quiet (fail); try go_wp2)
            go_meet
            case rel => exact ⟨_, ((a0_1.toList == ([47] : List UInt8))), FR, H', ⟨by have := HJ7.out; first | omega | exact Nat.le_refl _⟩, ⟨by (with_reducible repeat (first | refine blk_drewN ?_ _ | refine blk_drew ?_ | refine blk_alloc ?_ _)); exact BK208.out⟩, ⟨(BB1 HB.out GE208.out)⟩⟩
        · replace c10 := Bool.eq_false_iff.mpr c10
          subst c10
          have H1 : (if a0_0 = 10 then (impl_EditOk.j1 kj7 (a0_1.toList == ([47] : List UInt8)) a0_0 a0_1 a0_2 a0_3 a0_4) else (impl_EditOk.j1 kj7 t209 a0_0 a0_1 a0_2 a0_3 a0_4)) = some r := by rw [if_neg (show ¬ (false = true) by decide)] at H; exact H
          clear H
          have H := H1
          clear H1
          by_cases c13 : a0_0 = 10
          · rw [if_pos c13] at H
            have c13b0 : (a0_0 == 10) = true := beq_iff_eq.mpr c13
            have c13b1 : (a0_0 != 10) = false := bne_eq_false_iff_eq.mpr c13
            clear c13
            have H' := Aside0.mk H
            clear H
            have hcz14_0 : wc.cell? ⟨gb208, 0, none⟩ = some (.int .i64 a0_0) := (blk_cell BK208.out 0).trans rfl
            have hcz14_1 : wc.cell? ⟨gb208, 1, none⟩ = some (.string a0_1) := (blk_cell BK208.out 1).trans rfl
            have hcz14_2 : wc.cell? ⟨gb208, 2, none⟩ = some (.string a0_2) := (blk_cell BK208.out 2).trans rfl
            have hcz14_3 : wc.cell? ⟨gb208, 3, none⟩ = some (.int .i64 a0_3) := (blk_cell BK208.out 3).trans rfl
            have hcz14_4 : wc.cell? ⟨gb208, 4, none⟩ = some (.int .i64 a0_4) := (blk_cell BK208.out 4).trans rfl
            have hfz14_0 := blk_frozen BK208.out 0
            have hfz14_1 := blk_frozen BK208.out 1
            have hfz14_2 := blk_frozen BK208.out 2
            have hfz14_3 := blk_frozen BK208.out 3
            have hfz14_4 := blk_frozen BK208.out 4
            go_wp2
            repeat (go_quiet (fail); try go_wp2)
            go_meet
            case rel => exact ⟨_, ((a0_1.toList == ([47] : List UInt8))), FR, H', ⟨by have := HJ7.out; first | omega | exact Nat.le_refl _⟩, ⟨by (with_reducible repeat (first | refine blk_drewN ?_ _ | refine blk_drew ?_ | refine blk_alloc ?_ _)); exact BK208.out⟩, ⟨(BB1 HB.out GE208.out)⟩⟩
          · rw [if_neg c13] at H
            have c13b0 : (a0_0 == 10) = false := beq_eq_false_iff_ne.mpr c13
            have c13b1 : (a0_0 != 10) = true := bne_iff_ne.mpr c13
            have H' := Aside0.mk H
            clear H
            go_wp2
            repeat (go_quiet (fail); try go_wp2)
            go_meet
            case rel => exact ⟨_, (t209), FR, H', ⟨by have := HJ7.out; first | omega | exact Nat.le_refl _⟩, ⟨by (with_reducible repeat (first | refine blk_drewN ?_ _ | refine blk_drew ?_ | refine blk_alloc ?_ _)); exact BK208.out⟩, ⟨(BB1 HB.out GE208.out)⟩⟩
  case rest =>
    clear HC3
    try clear c1
    try clear p2
    try clear c3
    try clear c9
    try clear c9b0
    try clear c9b1
    try clear c10
    try clear c11
    try clear c13
    try clear c13b0
    try clear c13b1
    try clear hcz12_0
    try clear hcz12_1
    try clear hcz12_2
    try clear hcz12_3
    try clear hcz12_4
    try clear hcz14_0
    try clear hcz14_1
    try clear hcz14_2
    try clear hcz14_3
    try clear hcz14_4
    try clear hcz5_0
    try clear hcz5_1
    try clear hcz5_2
    try clear hcz5_3
    try clear hcz5_4
    try clear hcz7_0
    try clear hcz7_1
    try clear hcz7_2
    try clear hcz7_3
    try clear hcz7_4
    try clear hfz12_0
    try clear hfz12_1
    try clear hfz12_2
    try clear hfz12_3
    try clear hfz12_4
    try clear hfz14_0
    try clear hfz14_1
    try clear hfz14_2
    try clear hfz14_3
    try clear hfz14_4
    try clear hfz5_0
    try clear hfz5_1
    try clear hfz5_2
    try clear hfz5_3
    try clear hfz5_4
    try clear hfz7_0
    try clear hfz7_1
    try clear hfz7_2
    try clear hfz7_3
    try clear hfz7_4
    try clear p2
    obtain ⟨kq, x3_2, rfl, HA, HJ2, BK208, HB⟩ := hcut
    cases kq with
    | zero => exact absurd HA.out (by simp [impl_EditOk.j1])
    | succ kj2 =>
      have H := HA.out
      clear HA
      simp only [impl_EditOk.j1] at H
      by_cases c15 : a0_0 = 5
      · rw [if_pos c15] at H
        have c15b0 : (a0_0 == 5) = true := beq_iff_eq.mpr c15
        have c15b1 : (a0_0 != 5) = false := bne_eq_false_iff_eq.mpr c15
        clear c15
        replace H := Option.bind_eq_some_iff.mp H
        obtain ⟨t210, A160, H⟩ := H
        replace H : ((impl_within.f a0_0 1 10).bind fun t211 => (if t211 = true then (if x3_2 = true then (if t210 = true then (if a0_4 = 0 then (some (a0_2.toList == ([] : List UInt8))) else (some false)) else (some false)) else (some false)) else (some false))) = some r := H
        have A16 := Aside0.mk A160
        clear A160
        replace H := Option.bind_eq_some_iff.mp H
        obtain ⟨t211, A170, H⟩ := H
        replace H : (if t211 = true then (if x3_2 = true then (if t210 = true then (if a0_4 = 0 then (some (a0_2.toList == ([] : List UInt8))) else (some false)) else (some false)) else (some false)) else (some false)) = some r := H
        have A17 := Aside0.mk A170
        clear A170
        by_cases c18 : t211 = true
        · subst c18
          have H1 : (if x3_2 = true then (if t210 = true then (if a0_4 = 0 then (some (a0_2.toList == ([] : List UInt8))) else (some false)) else (some false)) else (some false)) = some r := by rw [if_pos rfl] at H; exact H
          clear H
          have H := H1
          clear H1
          by_cases c19 : x3_2 = true
          · subst c19
            have H1 : (if t210 = true then (if a0_4 = 0 then (some (a0_2.toList == ([] : List UInt8))) else (some false)) else (some false)) = some r := by rw [if_pos rfl] at H; exact H
            clear H
            have H := H1
            clear H1
            by_cases c20 : t210 = true
            · subst c20
              have H1 : (if a0_4 = 0 then (some (a0_2.toList == ([] : List UInt8))) else (some false)) = some r := by rw [if_pos rfl] at H; exact H
              clear H
              have H := H1
              clear H1
              by_cases c21 : a0_4 = 0
              · rw [if_pos c21] at H
                have c21b0 : (a0_4 == 0) = true := beq_iff_eq.mpr c21
                have c21b1 : (a0_4 != 0) = false := bne_eq_false_iff_eq.mpr c21
                clear c21
                obtain rfl := Option.some.inj H
                have hcz22_0 : wc.cell? ⟨gb208, 0, none⟩ = some (.int .i64 a0_0) := (blk_cell BK208.out 0).trans rfl
                have hcz22_1 : wc.cell? ⟨gb208, 1, none⟩ = some (.string a0_1) := (blk_cell BK208.out 1).trans rfl
                have hcz22_2 : wc.cell? ⟨gb208, 2, none⟩ = some (.string a0_2) := (blk_cell BK208.out 2).trans rfl
                have hcz22_3 : wc.cell? ⟨gb208, 3, none⟩ = some (.int .i64 a0_3) := (blk_cell BK208.out 3).trans rfl
                have hcz22_4 : wc.cell? ⟨gb208, 4, none⟩ = some (.int .i64 a0_4) := (blk_cell BK208.out 4).trans rfl
                have hfz22_0 := blk_frozen BK208.out 0
                have hfz22_1 := blk_frozen BK208.out 1
                have hfz22_2 := blk_frozen BK208.out 2
                have hfz22_3 := blk_frozen BK208.out 3
                have hfz22_4 := blk_frozen BK208.out 4
                go_wp2_with (first | (go_at_call 30; (with_reducible refine (impl_within.calls a0_3 1 3 true _ A16.out).mono ?_); rintro e w' ⟨rfl, ⟨nd, rfl⟩⟩; (try first | exact ⟨rfl, _, World.drewN_drewN _ _ _⟩ | exact ⟨rfl, _, Eq.trans (World.drewN_drewN _ _ _) (congrArg (World.drewN _) (Nat.add_assoc _ _ _))⟩)) | (go_at_call 30; (with_reducible refine (impl_within.calls a0_0 1 10 true _ A17.out).mono ?_); rintro e w' ⟨rfl, ⟨nd, rfl⟩⟩; (try first | exact ⟨rfl, _, World.drewN_drewN _ _ _⟩ | exact ⟨rfl, _, Eq.trans (World.drewN_drewN _ _ _) (congrArg (World.drewN _) (Nat.add_assoc _ _ _))⟩)))
                repeat (go_quiet (first | (go_at_call 30; (with_reducible refine (impl_within.calls a0_3 1 3 true _ A16.out).mono ?_); rintro e w' ⟨rfl, ⟨nd, rfl⟩⟩; (try first | exact ⟨rfl, _, World.drewN_drewN _ _ _⟩ | exact ⟨rfl, _, Eq.trans (World.drewN_drewN _ _ _) (congrArg (World.drewN _) (Nat.add_assoc _ _ _))⟩)) | (go_at_call 30; (with_reducible refine (impl_within.calls a0_0 1 10 true _ A17.out).mono ?_); rintro e w' ⟨rfl, ⟨nd, rfl⟩⟩; (try first | exact ⟨rfl, _, World.drewN_drewN _ _ _⟩ | exact ⟨rfl, _, Eq.trans (World.drewN_drewN _ _ _) (congrArg (World.drewN _) (Nat.add_assoc _ _ _))⟩))); try go_wp2_with (first | (go_at_call 30; (with_reducible refine (impl_within.calls a0_3 1 3 true _ A16.out).mono ?_); rintro e w' ⟨rfl, ⟨nd, rfl⟩⟩; (try first | exact ⟨rfl, _, World.drewN_drewN _ _ _⟩ | exact ⟨rfl, _, Eq.trans (World.drewN_drewN _ _ _) (congrArg (World.drewN _) (Nat.add_assoc _ _ _))⟩)) | (go_at_call 30; (with_reducible refine (impl_within.calls a0_0 1 10 true _ A17.out).mono ?_); rintro e w' ⟨rfl, ⟨nd, rfl⟩⟩; (try first | exact ⟨rfl, _, World.drewN_drewN _ _ _⟩ | exact ⟨rfl, _, Eq.trans (World.drewN_drewN _ _ _) (congrArg (World.drewN _) (Nat.add_assoc _ _ _))⟩))))
                go_ret
                exact ⟨ER, (BB1 HB.out GE208.out)⟩
              · rw [if_neg c21] at H
                have c21b0 : (a0_4 == 0) = false := beq_eq_false_iff_ne.mpr c21
                have c21b1 : (a0_4 != 0) = true := bne_iff_ne.mpr c21
                obtain rfl := Option.some.inj H
                have hcz23_0 : wc.cell? ⟨gb208, 0, none⟩ = some (.int .i64 a0_0) := (blk_cell BK208.out 0).trans rfl
                have hcz23_1 : wc.cell? ⟨gb208, 1, none⟩ = some (.string a0_1) := (blk_cell BK208.out 1).trans rfl
                have hcz23_2 : wc.cell? ⟨gb208, 2, none⟩ = some (.string a0_2) := (blk_cell BK208.out 2).trans rfl
                have hcz23_3 : wc.cell? ⟨gb208, 3, none⟩ = some (.int .i64 a0_3) := (blk_cell BK208.out 3).trans rfl
                have hcz23_4 : wc.cell? ⟨gb208, 4, none⟩ = some (.int .i64 a0_4) := (blk_cell BK208.out 4).trans rfl
                have hfz23_0 := blk_frozen BK208.out 0
                have hfz23_1 := blk_frozen BK208.out 1
                have hfz23_2 := blk_frozen BK208.out 2
                have hfz23_3 := blk_frozen BK208.out 3
                have hfz23_4 := blk_frozen BK208.out 4
                go_wp2_with (first | (go_at_call 30; (with_reducible refine (impl_within.calls a0_3 1 3 true _ A16.out).mono ?_); rintro e w' ⟨rfl, ⟨nd, rfl⟩⟩; (try first | exact ⟨rfl, _, World.drewN_drewN _ _ _⟩ | exact ⟨rfl, _, Eq.trans (World.drewN_drewN _ _ _) (congrArg (World.drewN _) (Nat.add_assoc _ _ _))⟩)) | (go_at_call 30; (with_reducible refine (impl_within.calls a0_0 1 10 true _ A17.out).mono ?_); rintro e w' ⟨rfl, ⟨nd, rfl⟩⟩; (try first | exact ⟨rfl, _, World.drewN_drewN _ _ _⟩ | exact ⟨rfl, _, Eq.trans (World.drewN_drewN _ _ _) (congrArg (World.drewN _) (Nat.add_assoc _ _ _))⟩)))
                repeat (go_quiet (first | (go_at_call 30; (with_reducible refine (impl_within.calls a0_3 1 3 true _ A16.out).mono ?_); rintro e w' ⟨rfl, ⟨nd, rfl⟩⟩; (try first | exact ⟨rfl, _, World.drewN_drewN _ _ _⟩ | exact ⟨rfl, _, Eq.trans (World.drewN_drewN _ _ _) (congrArg (World.drewN _) (Nat.add_assoc _ _ _))⟩)) | (go_at_call 30; (with_reducible refine (impl_within.calls a0_0 1 10 true _ A17.out).mono ?_); rintro e w' ⟨rfl, ⟨nd, rfl⟩⟩; (try first | exact ⟨rfl, _, World.drewN_drewN _ _ _⟩ | exact ⟨rfl, _, Eq.trans (World.drewN_drewN _ _ _) (congrArg (World.drewN _) (Nat.add_assoc _ _ _))⟩))); try go_wp2_with (first | (go_at_call 30; (with_reducible refine (impl_within.calls a0_3 1 3 true _ A16.out).mono ?_); rintro e w' ⟨rfl, ⟨nd, rfl⟩⟩; (try first | exact ⟨rfl, _, World.drewN_drewN _ _ _⟩ | exact ⟨rfl, _, Eq.trans (World.drewN_drewN _ _ _) (congrArg (World.drewN _) (Nat.add_assoc _ _ _))⟩)) | (go_at_call 30; (with_reducible refine (impl_within.calls a0_0 1 10 true _ A17.out).mono ?_); rintro e w' ⟨rfl, ⟨nd, rfl⟩⟩; (try first | exact ⟨rfl, _, World.drewN_drewN _ _ _⟩ | exact ⟨rfl, _, Eq.trans (World.drewN_drewN _ _ _) (congrArg (World.drewN _) (Nat.add_assoc _ _ _))⟩))))
                go_ret
                exact ⟨ER, (BB1 HB.out GE208.out)⟩
            · replace c20 := Bool.eq_false_iff.mpr c20
              subst c20
              have H1 : (some false) = some r := by rw [if_neg (show ¬ (false = true) by decide)] at H; exact H
              clear H
              have H := H1
              clear H1
              obtain rfl := Option.some.inj H
              have hcz24_0 : wc.cell? ⟨gb208, 0, none⟩ = some (.int .i64 a0_0) := (blk_cell BK208.out 0).trans rfl
              have hcz24_1 : wc.cell? ⟨gb208, 1, none⟩ = some (.string a0_1) := (blk_cell BK208.out 1).trans rfl
              have hcz24_2 : wc.cell? ⟨gb208, 2, none⟩ = some (.string a0_2) := (blk_cell BK208.out 2).trans rfl
              have hcz24_3 : wc.cell? ⟨gb208, 3, none⟩ = some (.int .i64 a0_3) := (blk_cell BK208.out 3).trans rfl
              have hcz24_4 : wc.cell? ⟨gb208, 4, none⟩ = some (.int .i64 a0_4) := (blk_cell BK208.out 4).trans rfl
              have hfz24_0 := blk_frozen BK208.out 0
              have hfz24_1 := blk_frozen BK208.out 1
              have hfz24_2 := blk_frozen BK208.out 2
              have hfz24_3 := blk_frozen BK208.out 3
              have hfz24_4 := blk_frozen BK208.out 4
              go_wp2_with (first | (go_at_call 30; (with_reducible refine (impl_within.calls a0_3 1 3 false _ A16.out).mono ?_); rintro e w' ⟨rfl, ⟨nd, rfl⟩⟩; (try first | exact ⟨rfl, _, World.drewN_drewN _ _ _⟩ | exact ⟨rfl, _, Eq.trans (World.drewN_drewN _ _ _) (congrArg (World.drewN _) (Nat.add_assoc _ _ _))⟩)) | (go_at_call 30; (with_reducible refine (impl_within.calls a0_0 1 10 true _ A17.out).mono ?_); rintro e w' ⟨rfl, ⟨nd, rfl⟩⟩; (try first | exact ⟨rfl, _, World.drewN_drewN _ _ _⟩ | exact ⟨rfl, _, Eq.trans (World.drewN_drewN _ _ _) (congrArg (World.drewN _) (Nat.add_assoc _ _ _))⟩)))
              repeat (go_quiet (first | (go_at_call 30; (with_reducible refine (impl_within.calls a0_3 1 3 false _ A16.out).mono ?_); rintro e w' ⟨rfl, ⟨nd, rfl⟩⟩; (try first | exact ⟨rfl, _, World.drewN_drewN _ _ _⟩ | exact ⟨rfl, _, Eq.trans (World.drewN_drewN _ _ _) (congrArg (World.drewN _) (Nat.add_assoc _ _ _))⟩)) | (go_at_call 30; (with_reducible refine (impl_within.calls a0_0 1 10 true _ A17.out).mono ?_); rintro e w' ⟨rfl, ⟨nd, rfl⟩⟩; (try first | exact ⟨rfl, _, World.drewN_drewN _ _ _⟩ | exact ⟨rfl, _, Eq.trans (World.drewN_drewN _ _ _) (congrArg (World.drewN _) (Nat.add_assoc _ _ _))⟩))); try go_wp2_with (first | (go_at_call 30; (with_reducible refine (impl_within.calls a0_3 1 3 false _ A16.out).mono ?_); rintro e w' ⟨rfl, ⟨nd, rfl⟩⟩; (try first | exact ⟨rfl, _, World.drewN_drewN _ _ _⟩ | exact ⟨rfl, _, Eq.trans (World.drewN_drewN _ _ _) (congrArg (World.drewN _) (Nat.add_assoc _ _ _))⟩)) | (go_at_call 30; (with_reducible refine (impl_within.calls a0_0 1 10 true _ A17.out).mono ?_); rintro e w' ⟨rfl, ⟨nd, rfl⟩⟩; (try first | exact ⟨rfl, _, World.drewN_drewN _ _ _⟩ | exact ⟨rfl, _, Eq.trans (World.drewN_drewN _ _ _) (congrArg (World.drewN _) (Nat.add_assoc _ _ _))⟩))))
              go_ret
              exact ⟨ER, (BB1 HB.out GE208.out)⟩
          · replace c19 := Bool.eq_false_iff.mpr c19
            subst c19
            have H1 : (some false) = some r := by rw [if_neg (show ¬ (false = true) by decide)] at H; exact H
            clear H
            have H := H1
            clear H1
            obtain rfl := Option.some.inj H
            have hcz25_0 : wc.cell? ⟨gb208, 0, none⟩ = some (.int .i64 a0_0) := (blk_cell BK208.out 0).trans rfl
            have hcz25_1 : wc.cell? ⟨gb208, 1, none⟩ = some (.string a0_1) := (blk_cell BK208.out 1).trans rfl
            have hcz25_2 : wc.cell? ⟨gb208, 2, none⟩ = some (.string a0_2) := (blk_cell BK208.out 2).trans rfl
            have hcz25_3 : wc.cell? ⟨gb208, 3, none⟩ = some (.int .i64 a0_3) := (blk_cell BK208.out 3).trans rfl
            have hcz25_4 : wc.cell? ⟨gb208, 4, none⟩ = some (.int .i64 a0_4) := (blk_cell BK208.out 4).trans rfl
            have hfz25_0 := blk_frozen BK208.out 0
            have hfz25_1 := blk_frozen BK208.out 1
            have hfz25_2 := blk_frozen BK208.out 2
            have hfz25_3 := blk_frozen BK208.out 3
            have hfz25_4 := blk_frozen BK208.out 4
            go_wp2_with (first | (go_at_call 30; (with_reducible refine (impl_within.calls a0_3 1 3 t210 _ A16.out).mono ?_); rintro e w' ⟨rfl, ⟨nd, rfl⟩⟩; (try first | exact ⟨rfl, _, World.drewN_drewN _ _ _⟩ | exact ⟨rfl, _, Eq.trans (World.drewN_drewN _ _ _) (congrArg (World.drewN _) (Nat.add_assoc _ _ _))⟩)) | (go_at_call 30; (with_reducible refine (impl_within.calls a0_0 1 10 true _ A17.out).mono ?_); rintro e w' ⟨rfl, ⟨nd, rfl⟩⟩; (try first | exact ⟨rfl, _, World.drewN_drewN _ _ _⟩ | exact ⟨rfl, _, Eq.trans (World.drewN_drewN _ _ _) (congrArg (World.drewN _) (Nat.add_assoc _ _ _))⟩)))
            repeat (go_quiet (first | (go_at_call 30; (with_reducible refine (impl_within.calls a0_3 1 3 t210 _ A16.out).mono ?_); rintro e w' ⟨rfl, ⟨nd, rfl⟩⟩; (try first | exact ⟨rfl, _, World.drewN_drewN _ _ _⟩ | exact ⟨rfl, _, Eq.trans (World.drewN_drewN _ _ _) (congrArg (World.drewN _) (Nat.add_assoc _ _ _))⟩)) | (go_at_call 30; (with_reducible refine (impl_within.calls a0_0 1 10 true _ A17.out).mono ?_); rintro e w' ⟨rfl, ⟨nd, rfl⟩⟩; (try first | exact ⟨rfl, _, World.drewN_drewN _ _ _⟩ | exact ⟨rfl, _, Eq.trans (World.drewN_drewN _ _ _) (congrArg (World.drewN _) (Nat.add_assoc _ _ _))⟩))); try go_wp2_with (first | (go_at_call 30; (with_reducible refine (impl_within.calls a0_3 1 3 t210 _ A16.out).mono ?_); rintro e w' ⟨rfl, ⟨nd, rfl⟩⟩; (try first | exact ⟨rfl, _, World.drewN_drewN _ _ _⟩ | exact ⟨rfl, _, Eq.trans (World.drewN_drewN _ _ _) (congrArg (World.drewN _) (Nat.add_assoc _ _ _))⟩)) | (go_at_call 30; (with_reducible refine (impl_within.calls a0_0 1 10 true _ A17.out).mono ?_); rintro e w' ⟨rfl, ⟨nd, rfl⟩⟩; (try first | exact ⟨rfl, _, World.drewN_drewN _ _ _⟩ | exact ⟨rfl, _, Eq.trans (World.drewN_drewN _ _ _) (congrArg (World.drewN _) (Nat.add_assoc _ _ _))⟩))))
            go_ret
            exact ⟨ER, (BB1 HB.out GE208.out)⟩
        · replace c18 := Bool.eq_false_iff.mpr c18
          subst c18
          have H1 : (some false) = some r := by rw [if_neg (show ¬ (false = true) by decide)] at H; exact H
          clear H
          have H := H1
          clear H1
          obtain rfl := Option.some.inj H
          have hcz26_0 : wc.cell? ⟨gb208, 0, none⟩ = some (.int .i64 a0_0) := (blk_cell BK208.out 0).trans rfl
          have hcz26_1 : wc.cell? ⟨gb208, 1, none⟩ = some (.string a0_1) := (blk_cell BK208.out 1).trans rfl
          have hcz26_2 : wc.cell? ⟨gb208, 2, none⟩ = some (.string a0_2) := (blk_cell BK208.out 2).trans rfl
          have hcz26_3 : wc.cell? ⟨gb208, 3, none⟩ = some (.int .i64 a0_3) := (blk_cell BK208.out 3).trans rfl
          have hcz26_4 : wc.cell? ⟨gb208, 4, none⟩ = some (.int .i64 a0_4) := (blk_cell BK208.out 4).trans rfl
          have hfz26_0 := blk_frozen BK208.out 0
          have hfz26_1 := blk_frozen BK208.out 1
          have hfz26_2 := blk_frozen BK208.out 2
          have hfz26_3 := blk_frozen BK208.out 3
          have hfz26_4 := blk_frozen BK208.out 4
          go_wp2_with (first | (go_at_call 30; (with_reducible refine (impl_within.calls a0_3 1 3 t210 _ A16.out).mono ?_); rintro e w' ⟨rfl, ⟨nd, rfl⟩⟩; (try first | exact ⟨rfl, _, World.drewN_drewN _ _ _⟩ | exact ⟨rfl, _, Eq.trans (World.drewN_drewN _ _ _) (congrArg (World.drewN _) (Nat.add_assoc _ _ _))⟩)) | (go_at_call 30; (with_reducible refine (impl_within.calls a0_0 1 10 false _ A17.out).mono ?_); rintro e w' ⟨rfl, ⟨nd, rfl⟩⟩; (try first | exact ⟨rfl, _, World.drewN_drewN _ _ _⟩ | exact ⟨rfl, _, Eq.trans (World.drewN_drewN _ _ _) (congrArg (World.drewN _) (Nat.add_assoc _ _ _))⟩)))
          repeat (go_quiet (first | (go_at_call 30; (with_reducible refine (impl_within.calls a0_3 1 3 t210 _ A16.out).mono ?_); rintro e w' ⟨rfl, ⟨nd, rfl⟩⟩; (try first | exact ⟨rfl, _, World.drewN_drewN _ _ _⟩ | exact ⟨rfl, _, Eq.trans (World.drewN_drewN _ _ _) (congrArg (World.drewN _) (Nat.add_assoc _ _ _))⟩)) | (go_at_call 30; (with_reducible refine (impl_within.calls a0_0 1 10 false _ A17.out).mono ?_); rintro e w' ⟨rfl, ⟨nd, rfl⟩⟩; (try first | exact ⟨rfl, _, World.drewN_drewN _ _ _⟩ | exact ⟨rfl, _, Eq.trans (World.drewN_drewN _ _ _) (congrArg (World.drewN _) (Nat.add_assoc _ _ _))⟩))); try go_wp2_with (first | (go_at_call 30; (with_reducible refine (impl_within.calls a0_3 1 3 t210 _ A16.out).mono ?_); rintro e w' ⟨rfl, ⟨nd, rfl⟩⟩; (try first | exact ⟨rfl, _, World.drewN_drewN _ _ _⟩ | exact ⟨rfl, _, Eq.trans (World.drewN_drewN _ _ _) (congrArg (World.drewN _) (Nat.add_assoc _ _ _))⟩)) | (go_at_call 30; (with_reducible refine (impl_within.calls a0_0 1 10 false _ A17.out).mono ?_); rintro e w' ⟨rfl, ⟨nd, rfl⟩⟩; (try first | exact ⟨rfl, _, World.drewN_drewN _ _ _⟩ | exact ⟨rfl, _, Eq.trans (World.drewN_drewN _ _ _) (congrArg (World.drewN _) (Nat.add_assoc _ _ _))⟩))))
          go_ret
          exact ⟨ER, (BB1 HB.out GE208.out)⟩
      · rw [if_neg c15] at H
        have c15b0 : (a0_0 == 5) = false := beq_eq_false_iff_ne.mpr c15
        have c15b1 : (a0_0 != 5) = true := bne_iff_ne.mpr c15
        by_cases c27 : a0_0 = 6
        · rw [if_pos c27] at H
          have c27b0 : (a0_0 == 6) = true := beq_iff_eq.mpr c27
          have c27b1 : (a0_0 != 6) = false := bne_eq_false_iff_eq.mpr c27
          clear c27
          replace H := Option.bind_eq_some_iff.mp H
          obtain ⟨t212, A280, H⟩ := H
          replace H : ((impl_within.f a0_0 1 10).bind fun t213 => (if t213 = true then (if x3_2 = true then (if t212 = true then (if a0_4 = 0 then (some (a0_2.toList == ([] : List UInt8))) else (some false)) else (some false)) else (some false)) else (some false))) = some r := H
          have A28 := Aside0.mk A280
          clear A280
          replace H := Option.bind_eq_some_iff.mp H
          obtain ⟨t213, A290, H⟩ := H
          replace H : (if t213 = true then (if x3_2 = true then (if t212 = true then (if a0_4 = 0 then (some (a0_2.toList == ([] : List UInt8))) else (some false)) else (some false)) else (some false)) else (some false)) = some r := H
          have A29 := Aside0.mk A290
          clear A290
          by_cases c30 : t213 = true
          · subst c30
            have H1 : (if x3_2 = true then (if t212 = true then (if a0_4 = 0 then (some (a0_2.toList == ([] : List UInt8))) else (some false)) else (some false)) else (some false)) = some r := by rw [if_pos rfl] at H; exact H
            clear H
            have H := H1
            clear H1
            by_cases c31 : x3_2 = true
            · subst c31
              have H1 : (if t212 = true then (if a0_4 = 0 then (some (a0_2.toList == ([] : List UInt8))) else (some false)) else (some false)) = some r := by rw [if_pos rfl] at H; exact H
              clear H
              have H := H1
              clear H1
              by_cases c32 : t212 = true
              · subst c32
                have H1 : (if a0_4 = 0 then (some (a0_2.toList == ([] : List UInt8))) else (some false)) = some r := by rw [if_pos rfl] at H; exact H
                clear H
                have H := H1
                clear H1
                by_cases c33 : a0_4 = 0
                · rw [if_pos c33] at H
                  have c33b0 : (a0_4 == 0) = true := beq_iff_eq.mpr c33
                  have c33b1 : (a0_4 != 0) = false := bne_eq_false_iff_eq.mpr c33
                  clear c33
                  obtain rfl := Option.some.inj H
                  have hcz34_0 : wc.cell? ⟨gb208, 0, none⟩ = some (.int .i64 a0_0) := (blk_cell BK208.out 0).trans rfl
                  have hcz34_1 : wc.cell? ⟨gb208, 1, none⟩ = some (.string a0_1) := (blk_cell BK208.out 1).trans rfl
                  have hcz34_2 : wc.cell? ⟨gb208, 2, none⟩ = some (.string a0_2) := (blk_cell BK208.out 2).trans rfl
                  have hcz34_3 : wc.cell? ⟨gb208, 3, none⟩ = some (.int .i64 a0_3) := (blk_cell BK208.out 3).trans rfl
                  have hcz34_4 : wc.cell? ⟨gb208, 4, none⟩ = some (.int .i64 a0_4) := (blk_cell BK208.out 4).trans rfl
                  have hfz34_0 := blk_frozen BK208.out 0
                  have hfz34_1 := blk_frozen BK208.out 1
                  have hfz34_2 := blk_frozen BK208.out 2
                  have hfz34_3 := blk_frozen BK208.out 3
                  have hfz34_4 := blk_frozen BK208.out 4
                  go_wp2_with (first | (go_at_call 30; (with_reducible refine (impl_within.calls a0_3 0 1000 true _ A28.out).mono ?_); rintro e w' ⟨rfl, ⟨nd, rfl⟩⟩; (try first | exact ⟨rfl, _, World.drewN_drewN _ _ _⟩ | exact ⟨rfl, _, Eq.trans (World.drewN_drewN _ _ _) (congrArg (World.drewN _) (Nat.add_assoc _ _ _))⟩)) | (go_at_call 30; (with_reducible refine (impl_within.calls a0_0 1 10 true _ A29.out).mono ?_); rintro e w' ⟨rfl, ⟨nd, rfl⟩⟩; (try first | exact ⟨rfl, _, World.drewN_drewN _ _ _⟩ | exact ⟨rfl, _, Eq.trans (World.drewN_drewN _ _ _) (congrArg (World.drewN _) (Nat.add_assoc _ _ _))⟩)))
                  repeat (go_quiet (first | (go_at_call 30; (with_reducible refine (impl_within.calls a0_3 0 1000 true _ A28.out).mono ?_); rintro e w' ⟨rfl, ⟨nd, rfl⟩⟩; (try first | exact ⟨rfl, _, World.drewN_drewN _ _ _⟩ | exact ⟨rfl, _, Eq.trans (World.drewN_drewN _ _ _) (congrArg (World.drewN _) (Nat.add_assoc _ _ _))⟩)) | (go_at_call 30; (with_reducible refine (impl_within.calls a0_0 1 10 true _ A29.out).mono ?_); rintro e w' ⟨rfl, ⟨nd, rfl⟩⟩; (try first | exact ⟨rfl, _, World.drewN_drewN _ _ _⟩ | exact ⟨rfl, _, Eq.trans (World.drewN_drewN _ _ _) (congrArg (World.drewN _) (Nat.add_assoc _ _ _))⟩))); try go_wp2_with (first | (go_at_call 30; (with_reducible refine (impl_within.calls a0_3 0 1000 true _ A28.out).mono ?_); rintro e w' ⟨rfl, ⟨nd, rfl⟩⟩; (try first | exact ⟨rfl, _, World.drewN_drewN _ _ _⟩ | exact ⟨rfl, _, Eq.trans (World.drewN_drewN _ _ _) (congrArg (World.drewN _) (Nat.add_assoc _ _ _))⟩)) | (go_at_call 30; (with_reducible refine (impl_within.calls a0_0 1 10 true _ A29.out).mono ?_); rintro e w' ⟨rfl, ⟨nd, rfl⟩⟩; (try first | exact ⟨rfl, _, World.drewN_drewN _ _ _⟩ | exact ⟨rfl, _, Eq.trans (World.drewN_drewN _ _ _) (congrArg (World.drewN _) (Nat.add_assoc _ _ _))⟩))))
                  go_ret
                  exact ⟨ER, (BB1 HB.out GE208.out)⟩
                · rw [if_neg c33] at H
                  have c33b0 : (a0_4 == 0) = false := beq_eq_false_iff_ne.mpr c33
                  have c33b1 : (a0_4 != 0) = true := bne_iff_ne.mpr c33
                  obtain rfl := Option.some.inj H
                  have hcz35_0 : wc.cell? ⟨gb208, 0, none⟩ = some (.int .i64 a0_0) := (blk_cell BK208.out 0).trans rfl
                  have hcz35_1 : wc.cell? ⟨gb208, 1, none⟩ = some (.string a0_1) := (blk_cell BK208.out 1).trans rfl
                  have hcz35_2 : wc.cell? ⟨gb208, 2, none⟩ = some (.string a0_2) := (blk_cell BK208.out 2).trans rfl
                  have hcz35_3 : wc.cell? ⟨gb208, 3, none⟩ = some (.int .i64 a0_3) := (blk_cell BK208.out 3).trans rfl
                  have hcz35_4 : wc.cell? ⟨gb208, 4, none⟩ = some (.int .i64 a0_4) := (blk_cell BK208.out 4).trans rfl
                  have hfz35_0 := blk_frozen BK208.out 0
                  have hfz35_1 := blk_frozen BK208.out 1
                  have hfz35_2 := blk_frozen BK208.out 2
                  have hfz35_3 := blk_frozen BK208.out 3
                  have hfz35_4 := blk_frozen BK208.out 4
                  go_wp2_with (first | (go_at_call 30; (with_reducible refine (impl_within.calls a0_3 0 1000 true _ A28.out).mono ?_); rintro e w' ⟨rfl, ⟨nd, rfl⟩⟩; (try first | exact ⟨rfl, _, World.drewN_drewN _ _ _⟩ | exact ⟨rfl, _, Eq.trans (World.drewN_drewN _ _ _) (congrArg (World.drewN _) (Nat.add_assoc _ _ _))⟩)) | (go_at_call 30; (with_reducible refine (impl_within.calls a0_0 1 10 true _ A29.out).mono ?_); rintro e w' ⟨rfl, ⟨nd, rfl⟩⟩; (try first | exact ⟨rfl, _, World.drewN_drewN _ _ _⟩ | exact ⟨rfl, _, Eq.trans (World.drewN_drewN _ _ _) (congrArg (World.drewN _) (Nat.add_assoc _ _ _))⟩)))
                  repeat (go_quiet (first | (go_at_call 30; (with_reducible refine (impl_within.calls a0_3 0 1000 true _ A28.out).mono ?_); rintro e w' ⟨rfl, ⟨nd, rfl⟩⟩; (try first | exact ⟨rfl, _, World.drewN_drewN _ _ _⟩ | exact ⟨rfl, _, Eq.trans (World.drewN_drewN _ _ _) (congrArg (World.drewN _) (Nat.add_assoc _ _ _))⟩)) | (go_at_call 30; (with_reducible refine (impl_within.calls a0_0 1 10 true _ A29.out).mono ?_); rintro e w' ⟨rfl, ⟨nd, rfl⟩⟩; (try first | exact ⟨rfl, _, World.drewN_drewN _ _ _⟩ | exact ⟨rfl, _, Eq.trans (World.drewN_drewN _ _ _) (congrArg (World.drewN _) (Nat.add_assoc _ _ _))⟩))); try go_wp2_with (first | (go_at_call 30; (with_reducible refine (impl_within.calls a0_3 0 1000 true _ A28.out).mono ?_); rintro e w' ⟨rfl, ⟨nd, rfl⟩⟩; (try first | exact ⟨rfl, _, World.drewN_drewN _ _ _⟩ | exact ⟨rfl, _, Eq.trans (World.drewN_drewN _ _ _) (congrArg (World.drewN _) (Nat.add_assoc _ _ _))⟩)) | (go_at_call 30; (with_reducible refine (impl_within.calls a0_0 1 10 true _ A29.out).mono ?_); rintro e w' ⟨rfl, ⟨nd, rfl⟩⟩; (try first | exact ⟨rfl, _, World.drewN_drewN _ _ _⟩ | exact ⟨rfl, _, Eq.trans (World.drewN_drewN _ _ _) (congrArg (World.drewN _) (Nat.add_assoc _ _ _))⟩))))
                  go_ret
                  exact ⟨ER, (BB1 HB.out GE208.out)⟩
              · replace c32 := Bool.eq_false_iff.mpr c32
                subst c32
                have H1 : (some false) = some r := by rw [if_neg (show ¬ (false = true) by decide)] at H; exact H
                clear H
                have H := H1
                clear H1
                obtain rfl := Option.some.inj H
                have hcz36_0 : wc.cell? ⟨gb208, 0, none⟩ = some (.int .i64 a0_0) := (blk_cell BK208.out 0).trans rfl
                have hcz36_1 : wc.cell? ⟨gb208, 1, none⟩ = some (.string a0_1) := (blk_cell BK208.out 1).trans rfl
                have hcz36_2 : wc.cell? ⟨gb208, 2, none⟩ = some (.string a0_2) := (blk_cell BK208.out 2).trans rfl
                have hcz36_3 : wc.cell? ⟨gb208, 3, none⟩ = some (.int .i64 a0_3) := (blk_cell BK208.out 3).trans rfl
                have hcz36_4 : wc.cell? ⟨gb208, 4, none⟩ = some (.int .i64 a0_4) := (blk_cell BK208.out 4).trans rfl
                have hfz36_0 := blk_frozen BK208.out 0
                have hfz36_1 := blk_frozen BK208.out 1
                have hfz36_2 := blk_frozen BK208.out 2
                have hfz36_3 := blk_frozen BK208.out 3
                have hfz36_4 := blk_frozen BK208.out 4
                go_wp2_with (first | (go_at_call 30; (with_reducible refine (impl_within.calls a0_3 0 1000 false _ A28.out).mono ?_); rintro e w' ⟨rfl, ⟨nd, rfl⟩⟩; (try first | exact ⟨rfl, _, World.drewN_drewN _ _ _⟩ | exact ⟨rfl, _, Eq.trans (World.drewN_drewN _ _ _) (congrArg (World.drewN _) (Nat.add_assoc _ _ _))⟩)) | (go_at_call 30; (with_reducible refine (impl_within.calls a0_0 1 10 true _ A29.out).mono ?_); rintro e w' ⟨rfl, ⟨nd, rfl⟩⟩; (try first | exact ⟨rfl, _, World.drewN_drewN _ _ _⟩ | exact ⟨rfl, _, Eq.trans (World.drewN_drewN _ _ _) (congrArg (World.drewN _) (Nat.add_assoc _ _ _))⟩)))
                repeat (go_quiet (first | (go_at_call 30; (with_reducible refine (impl_within.calls a0_3 0 1000 false _ A28.out).mono ?_); rintro e w' ⟨rfl, ⟨nd, rfl⟩⟩; (try first | exact ⟨rfl, _, World.drewN_drewN _ _ _⟩ | exact ⟨rfl, _, Eq.trans (World.drewN_drewN _ _ _) (congrArg (World.drewN _) (Nat.add_assoc _ _ _))⟩)) | (go_at_call 30; (with_reducible refine (impl_within.calls a0_0 1 10 true _ A29.out).mono ?_); rintro e w' ⟨rfl, ⟨nd, rfl⟩⟩; (try first | exact ⟨rfl, _, World.drewN_drewN _ _ _⟩ | exact ⟨rfl, _, Eq.trans (World.drewN_drewN _ _ _) (congrArg (World.drewN _) (Nat.add_assoc _ _ _))⟩))); try go_wp2_with (first | (go_at_call 30; (with_reducible refine (impl_within.calls a0_3 0 1000 false _ A28.out).mono ?_); rintro e w' ⟨rfl, ⟨nd, rfl⟩⟩; (try first | exact ⟨rfl, _, World.drewN_drewN _ _ _⟩ | exact ⟨rfl, _, Eq.trans (World.drewN_drewN _ _ _) (congrArg (World.drewN _) (Nat.add_assoc _ _ _))⟩)) | (go_at_call 30; (with_reducible refine (impl_within.calls a0_0 1 10 true _ A29.out).mono ?_); rintro e w' ⟨rfl, ⟨nd, rfl⟩⟩; (try first | exact ⟨rfl, _, World.drewN_drewN _ _ _⟩ | exact ⟨rfl, _, Eq.trans (World.drewN_drewN _ _ _) (congrArg (World.drewN _) (Nat.add_assoc _ _ _))⟩))))
                go_ret
                exact ⟨ER, (BB1 HB.out GE208.out)⟩
            · replace c31 := Bool.eq_false_iff.mpr c31
              subst c31
              have H1 : (some false) = some r := by rw [if_neg (show ¬ (false = true) by decide)] at H; exact H
              clear H
              have H := H1
              clear H1
              obtain rfl := Option.some.inj H
              have hcz37_0 : wc.cell? ⟨gb208, 0, none⟩ = some (.int .i64 a0_0) := (blk_cell BK208.out 0).trans rfl
              have hcz37_1 : wc.cell? ⟨gb208, 1, none⟩ = some (.string a0_1) := (blk_cell BK208.out 1).trans rfl
              have hcz37_2 : wc.cell? ⟨gb208, 2, none⟩ = some (.string a0_2) := (blk_cell BK208.out 2).trans rfl
              have hcz37_3 : wc.cell? ⟨gb208, 3, none⟩ = some (.int .i64 a0_3) := (blk_cell BK208.out 3).trans rfl
              have hcz37_4 : wc.cell? ⟨gb208, 4, none⟩ = some (.int .i64 a0_4) := (blk_cell BK208.out 4).trans rfl
              have hfz37_0 := blk_frozen BK208.out 0
              have hfz37_1 := blk_frozen BK208.out 1
              have hfz37_2 := blk_frozen BK208.out 2
              have hfz37_3 := blk_frozen BK208.out 3
              have hfz37_4 := blk_frozen BK208.out 4
              go_wp2_with (first | (go_at_call 30; (with_reducible refine (impl_within.calls a0_3 0 1000 t212 _ A28.out).mono ?_); rintro e w' ⟨rfl, ⟨nd, rfl⟩⟩; (try first | exact ⟨rfl, _, World.drewN_drewN _ _ _⟩ | exact ⟨rfl, _, Eq.trans (World.drewN_drewN _ _ _) (congrArg (World.drewN _) (Nat.add_assoc _ _ _))⟩)) | (go_at_call 30; (with_reducible refine (impl_within.calls a0_0 1 10 true _ A29.out).mono ?_); rintro e w' ⟨rfl, ⟨nd, rfl⟩⟩; (try first | exact ⟨rfl, _, World.drewN_drewN _ _ _⟩ | exact ⟨rfl, _, Eq.trans (World.drewN_drewN _ _ _) (congrArg (World.drewN _) (Nat.add_assoc _ _ _))⟩)))
              repeat (go_quiet (first | (go_at_call 30; (with_reducible refine (impl_within.calls a0_3 0 1000 t212 _ A28.out).mono ?_); rintro e w' ⟨rfl, ⟨nd, rfl⟩⟩; (try first | exact ⟨rfl, _, World.drewN_drewN _ _ _⟩ | exact ⟨rfl, _, Eq.trans (World.drewN_drewN _ _ _) (congrArg (World.drewN _) (Nat.add_assoc _ _ _))⟩)) | (go_at_call 30; (with_reducible refine (impl_within.calls a0_0 1 10 true _ A29.out).mono ?_); rintro e w' ⟨rfl, ⟨nd, rfl⟩⟩; (try first | exact ⟨rfl, _, World.drewN_drewN _ _ _⟩ | exact ⟨rfl, _, Eq.trans (World.drewN_drewN _ _ _) (congrArg (World.drewN _) (Nat.add_assoc _ _ _))⟩))); try go_wp2_with (first | (go_at_call 30; (with_reducible refine (impl_within.calls a0_3 0 1000 t212 _ A28.out).mono ?_); rintro e w' ⟨rfl, ⟨nd, rfl⟩⟩; (try first | exact ⟨rfl, _, World.drewN_drewN _ _ _⟩ | exact ⟨rfl, _, Eq.trans (World.drewN_drewN _ _ _) (congrArg (World.drewN _) (Nat.add_assoc _ _ _))⟩)) | (go_at_call 30; (with_reducible refine (impl_within.calls a0_0 1 10 true _ A29.out).mono ?_); rintro e w' ⟨rfl, ⟨nd, rfl⟩⟩; (try first | exact ⟨rfl, _, World.drewN_drewN _ _ _⟩ | exact ⟨rfl, _, Eq.trans (World.drewN_drewN _ _ _) (congrArg (World.drewN _) (Nat.add_assoc _ _ _))⟩))))
              go_ret
              exact ⟨ER, (BB1 HB.out GE208.out)⟩
          · replace c30 := Bool.eq_false_iff.mpr c30
            subst c30
            have H1 : (some false) = some r := by rw [if_neg (show ¬ (false = true) by decide)] at H; exact H
            clear H
            have H := H1
            clear H1
            obtain rfl := Option.some.inj H
            have hcz38_0 : wc.cell? ⟨gb208, 0, none⟩ = some (.int .i64 a0_0) := (blk_cell BK208.out 0).trans rfl
            have hcz38_1 : wc.cell? ⟨gb208, 1, none⟩ = some (.string a0_1) := (blk_cell BK208.out 1).trans rfl
            have hcz38_2 : wc.cell? ⟨gb208, 2, none⟩ = some (.string a0_2) := (blk_cell BK208.out 2).trans rfl
            have hcz38_3 : wc.cell? ⟨gb208, 3, none⟩ = some (.int .i64 a0_3) := (blk_cell BK208.out 3).trans rfl
            have hcz38_4 : wc.cell? ⟨gb208, 4, none⟩ = some (.int .i64 a0_4) := (blk_cell BK208.out 4).trans rfl
            have hfz38_0 := blk_frozen BK208.out 0
            have hfz38_1 := blk_frozen BK208.out 1
            have hfz38_2 := blk_frozen BK208.out 2
            have hfz38_3 := blk_frozen BK208.out 3
            have hfz38_4 := blk_frozen BK208.out 4
            go_wp2_with (first | (go_at_call 30; (with_reducible refine (impl_within.calls a0_3 0 1000 t212 _ A28.out).mono ?_); rintro e w' ⟨rfl, ⟨nd, rfl⟩⟩; (try first | exact ⟨rfl, _, World.drewN_drewN _ _ _⟩ | exact ⟨rfl, _, Eq.trans (World.drewN_drewN _ _ _) (congrArg (World.drewN _) (Nat.add_assoc _ _ _))⟩)) | (go_at_call 30; (with_reducible refine (impl_within.calls a0_0 1 10 false _ A29.out).mono ?_); rintro e w' ⟨rfl, ⟨nd, rfl⟩⟩; (try first | exact ⟨rfl, _, World.drewN_drewN _ _ _⟩ | exact ⟨rfl, _, Eq.trans (World.drewN_drewN _ _ _) (congrArg (World.drewN _) (Nat.add_assoc _ _ _))⟩)))
            repeat (go_quiet (first | (go_at_call 30; (with_reducible refine (impl_within.calls a0_3 0 1000 t212 _ A28.out).mono ?_); rintro e w' ⟨rfl, ⟨nd, rfl⟩⟩; (try first | exact ⟨rfl, _, World.drewN_drewN _ _ _⟩ | exact ⟨rfl, _, Eq.trans (World.drewN_drewN _ _ _) (congrArg (World.drewN _) (Nat.add_assoc _ _ _))⟩)) | (go_at_call 30; (with_reducible refine (impl_within.calls a0_0 1 10 false _ A29.out).mono ?_); rintro e w' ⟨rfl, ⟨nd, rfl⟩⟩; (try first | exact ⟨rfl, _, World.drewN_drewN _ _ _⟩ | exact ⟨rfl, _, Eq.trans (World.drewN_drewN _ _ _) (congrArg (World.drewN _) (Nat.add_assoc _ _ _))⟩))); try go_wp2_with (first | (go_at_call 30; (with_reducible refine (impl_within.calls a0_3 0 1000 t212 _ A28.out).mono ?_); rintro e w' ⟨rfl, ⟨nd, rfl⟩⟩; (try first | exact ⟨rfl, _, World.drewN_drewN _ _ _⟩ | exact ⟨rfl, _, Eq.trans (World.drewN_drewN _ _ _) (congrArg (World.drewN _) (Nat.add_assoc _ _ _))⟩)) | (go_at_call 30; (with_reducible refine (impl_within.calls a0_0 1 10 false _ A29.out).mono ?_); rintro e w' ⟨rfl, ⟨nd, rfl⟩⟩; (try first | exact ⟨rfl, _, World.drewN_drewN _ _ _⟩ | exact ⟨rfl, _, Eq.trans (World.drewN_drewN _ _ _) (congrArg (World.drewN _) (Nat.add_assoc _ _ _))⟩))))
            go_ret
            exact ⟨ER, (BB1 HB.out GE208.out)⟩
        · rw [if_neg c27] at H
          have c27b0 : (a0_0 == 6) = false := beq_eq_false_iff_ne.mpr c27
          have c27b1 : (a0_0 != 6) = true := bne_iff_ne.mpr c27
          by_cases c39 : a0_0 = 7
          · rw [if_pos c39] at H
            have c39b0 : (a0_0 == 7) = true := beq_iff_eq.mpr c39
            have c39b1 : (a0_0 != 7) = false := bne_eq_false_iff_eq.mpr c39
            clear c39
            replace H := Option.bind_eq_some_iff.mp H
            obtain ⟨t214, A400, H⟩ := H
            replace H : ((impl_within.f a0_0 1 10).bind fun t215 => (if t215 = true then (if x3_2 = true then (if t214 = true then (if a0_4 = 0 then (some (a0_2.toList == ([] : List UInt8))) else (some false)) else (some false)) else (some false)) else (some false))) = some r := H
            have A40 := Aside0.mk A400
            clear A400
            replace H := Option.bind_eq_some_iff.mp H
            obtain ⟨t215, A410, H⟩ := H
            replace H : (if t215 = true then (if x3_2 = true then (if t214 = true then (if a0_4 = 0 then (some (a0_2.toList == ([] : List UInt8))) else (some false)) else (some false)) else (some false)) else (some false)) = some r := H
            have A41 := Aside0.mk A410
            clear A410
            by_cases c42 : t215 = true
            · subst c42
              have H1 : (if x3_2 = true then (if t214 = true then (if a0_4 = 0 then (some (a0_2.toList == ([] : List UInt8))) else (some false)) else (some false)) else (some false)) = some r := by rw [if_pos rfl] at H; exact H
              clear H
              have H := H1
              clear H1
              by_cases c43 : x3_2 = true
              · subst c43
                have H1 : (if t214 = true then (if a0_4 = 0 then (some (a0_2.toList == ([] : List UInt8))) else (some false)) else (some false)) = some r := by rw [if_pos rfl] at H; exact H
                clear H
                have H := H1
                clear H1
                by_cases c44 : t214 = true
                · subst c44
                  have H1 : (if a0_4 = 0 then (some (a0_2.toList == ([] : List UInt8))) else (some false)) = some r := by rw [if_pos rfl] at H; exact H
                  clear H
                  have H := H1
                  clear H1
                  by_cases c45 : a0_4 = 0
                  · rw [if_pos c45] at H
                    have c45b0 : (a0_4 == 0) = true := beq_iff_eq.mpr c45
                    have c45b1 : (a0_4 != 0) = false := bne_eq_false_iff_eq.mpr c45
                    clear c45
                    obtain rfl := Option.some.inj H
                    have hcz46_0 : wc.cell? ⟨gb208, 0, none⟩ = some (.int .i64 a0_0) := (blk_cell BK208.out 0).trans rfl
                    have hcz46_1 : wc.cell? ⟨gb208, 1, none⟩ = some (.string a0_1) := (blk_cell BK208.out 1).trans rfl
                    have hcz46_2 : wc.cell? ⟨gb208, 2, none⟩ = some (.string a0_2) := (blk_cell BK208.out 2).trans rfl
                    have hcz46_3 : wc.cell? ⟨gb208, 3, none⟩ = some (.int .i64 a0_3) := (blk_cell BK208.out 3).trans rfl
                    have hcz46_4 : wc.cell? ⟨gb208, 4, none⟩ = some (.int .i64 a0_4) := (blk_cell BK208.out 4).trans rfl
                    have hfz46_0 := blk_frozen BK208.out 0
                    have hfz46_1 := blk_frozen BK208.out 1
                    have hfz46_2 := blk_frozen BK208.out 2
                    have hfz46_3 := blk_frozen BK208.out 3
                    have hfz46_4 := blk_frozen BK208.out 4
                    go_wp2_with (first | (go_at_call 30; (with_reducible refine (impl_within.calls a0_3 1 200 true _ A40.out).mono ?_); rintro e w' ⟨rfl, ⟨nd, rfl⟩⟩; (try first | exact ⟨rfl, _, World.drewN_drewN _ _ _⟩ | exact ⟨rfl, _, Eq.trans (World.drewN_drewN _ _ _) (congrArg (World.drewN _) (Nat.add_assoc _ _ _))⟩)) | (go_at_call 30; (with_reducible refine (impl_within.calls a0_0 1 10 true _ A41.out).mono ?_); rintro e w' ⟨rfl, ⟨nd, rfl⟩⟩; (try first | exact ⟨rfl, _, World.drewN_drewN _ _ _⟩ | exact ⟨rfl, _, Eq.trans (World.drewN_drewN _ _ _) (congrArg (World.drewN _) (Nat.add_assoc _ _ _))⟩)))
                    repeat (go_quiet (first | (go_at_call 30; (with_reducible refine (impl_within.calls a0_3 1 200 true _ A40.out).mono ?_); rintro e w' ⟨rfl, ⟨nd, rfl⟩⟩; (try first | exact ⟨rfl, _, World.drewN_drewN _ _ _⟩ | exact ⟨rfl, _, Eq.trans (World.drewN_drewN _ _ _) (congrArg (World.drewN _) (Nat.add_assoc _ _ _))⟩)) | (go_at_call 30; (with_reducible refine (impl_within.calls a0_0 1 10 true _ A41.out).mono ?_); rintro e w' ⟨rfl, ⟨nd, rfl⟩⟩; (try first | exact ⟨rfl, _, World.drewN_drewN _ _ _⟩ | exact ⟨rfl, _, Eq.trans (World.drewN_drewN _ _ _) (congrArg (World.drewN _) (Nat.add_assoc _ _ _))⟩))); try go_wp2_with (first | (go_at_call 30; (with_reducible refine (impl_within.calls a0_3 1 200 true _ A40.out).mono ?_); rintro e w' ⟨rfl, ⟨nd, rfl⟩⟩; (try first | exact ⟨rfl, _, World.drewN_drewN _ _ _⟩ | exact ⟨rfl, _, Eq.trans (World.drewN_drewN _ _ _) (congrArg (World.drewN _) (Nat.add_assoc _ _ _))⟩)) | (go_at_call 30; (with_reducible refine (impl_within.calls a0_0 1 10 true _ A41.out).mono ?_); rintro e w' ⟨rfl, ⟨nd, rfl⟩⟩; (try first | exact ⟨rfl, _, World.drewN_drewN _ _ _⟩ | exact ⟨rfl, _, Eq.trans (World.drewN_drewN _ _ _) (congrArg (World.drewN _) (Nat.add_assoc _ _ _))⟩))))
                    go_ret
                    exact ⟨ER, (BB1 HB.out GE208.out)⟩
                  · rw [if_neg c45] at H
                    have c45b0 : (a0_4 == 0) = false := beq_eq_false_iff_ne.mpr c45
                    have c45b1 : (a0_4 != 0) = true := bne_iff_ne.mpr c45
                    obtain rfl := Option.some.inj H
                    have hcz47_0 : wc.cell? ⟨gb208, 0, none⟩ = some (.int .i64 a0_0) := (blk_cell BK208.out 0).trans rfl
                    have hcz47_1 : wc.cell? ⟨gb208, 1, none⟩ = some (.string a0_1) := (blk_cell BK208.out 1).trans rfl
                    have hcz47_2 : wc.cell? ⟨gb208, 2, none⟩ = some (.string a0_2) := (blk_cell BK208.out 2).trans rfl
                    have hcz47_3 : wc.cell? ⟨gb208, 3, none⟩ = some (.int .i64 a0_3) := (blk_cell BK208.out 3).trans rfl
                    have hcz47_4 : wc.cell? ⟨gb208, 4, none⟩ = some (.int .i64 a0_4) := (blk_cell BK208.out 4).trans rfl
                    have hfz47_0 := blk_frozen BK208.out 0
                    have hfz47_1 := blk_frozen BK208.out 1
                    have hfz47_2 := blk_frozen BK208.out 2
                    have hfz47_3 := blk_frozen BK208.out 3
                    have hfz47_4 := blk_frozen BK208.out 4
                    go_wp2_with (first | (go_at_call 30; (with_reducible refine (impl_within.calls a0_3 1 200 true _ A40.out).mono ?_); rintro e w' ⟨rfl, ⟨nd, rfl⟩⟩; (try first | exact ⟨rfl, _, World.drewN_drewN _ _ _⟩ | exact ⟨rfl, _, Eq.trans (World.drewN_drewN _ _ _) (congrArg (World.drewN _) (Nat.add_assoc _ _ _))⟩)) | (go_at_call 30; (with_reducible refine (impl_within.calls a0_0 1 10 true _ A41.out).mono ?_); rintro e w' ⟨rfl, ⟨nd, rfl⟩⟩; (try first | exact ⟨rfl, _, World.drewN_drewN _ _ _⟩ | exact ⟨rfl, _, Eq.trans (World.drewN_drewN _ _ _) (congrArg (World.drewN _) (Nat.add_assoc _ _ _))⟩)))
                    repeat (go_quiet (first | (go_at_call 30; (with_reducible refine (impl_within.calls a0_3 1 200 true _ A40.out).mono ?_); rintro e w' ⟨rfl, ⟨nd, rfl⟩⟩; (try first | exact ⟨rfl, _, World.drewN_drewN _ _ _⟩ | exact ⟨rfl, _, Eq.trans (World.drewN_drewN _ _ _) (congrArg (World.drewN _) (Nat.add_assoc _ _ _))⟩)) | (go_at_call 30; (with_reducible refine (impl_within.calls a0_0 1 10 true _ A41.out).mono ?_); rintro e w' ⟨rfl, ⟨nd, rfl⟩⟩; (try first | exact ⟨rfl, _, World.drewN_drewN _ _ _⟩ | exact ⟨rfl, _, Eq.trans (World.drewN_drewN _ _ _) (congrArg (World.drewN _) (Nat.add_assoc _ _ _))⟩))); try go_wp2_with (first | (go_at_call 30; (with_reducible refine (impl_within.calls a0_3 1 200 true _ A40.out).mono ?_); rintro e w' ⟨rfl, ⟨nd, rfl⟩⟩; (try first | exact ⟨rfl, _, World.drewN_drewN _ _ _⟩ | exact ⟨rfl, _, Eq.trans (World.drewN_drewN _ _ _) (congrArg (World.drewN _) (Nat.add_assoc _ _ _))⟩)) | (go_at_call 30; (with_reducible refine (impl_within.calls a0_0 1 10 true _ A41.out).mono ?_); rintro e w' ⟨rfl, ⟨nd, rfl⟩⟩; (try first | exact ⟨rfl, _, World.drewN_drewN _ _ _⟩ | exact ⟨rfl, _, Eq.trans (World.drewN_drewN _ _ _) (congrArg (World.drewN _) (Nat.add_assoc _ _ _))⟩))))
                    go_ret
                    exact ⟨ER, (BB1 HB.out GE208.out)⟩
                · replace c44 := Bool.eq_false_iff.mpr c44
                  subst c44
                  have H1 : (some false) = some r := by rw [if_neg (show ¬ (false = true) by decide)] at H; exact H
                  clear H
                  have H := H1
                  clear H1
                  obtain rfl := Option.some.inj H
                  have hcz48_0 : wc.cell? ⟨gb208, 0, none⟩ = some (.int .i64 a0_0) := (blk_cell BK208.out 0).trans rfl
                  have hcz48_1 : wc.cell? ⟨gb208, 1, none⟩ = some (.string a0_1) := (blk_cell BK208.out 1).trans rfl
                  have hcz48_2 : wc.cell? ⟨gb208, 2, none⟩ = some (.string a0_2) := (blk_cell BK208.out 2).trans rfl
                  have hcz48_3 : wc.cell? ⟨gb208, 3, none⟩ = some (.int .i64 a0_3) := (blk_cell BK208.out 3).trans rfl
                  have hcz48_4 : wc.cell? ⟨gb208, 4, none⟩ = some (.int .i64 a0_4) := (blk_cell BK208.out 4).trans rfl
                  have hfz48_0 := blk_frozen BK208.out 0
                  have hfz48_1 := blk_frozen BK208.out 1
                  have hfz48_2 := blk_frozen BK208.out 2
                  have hfz48_3 := blk_frozen BK208.out 3
                  have hfz48_4 := blk_frozen BK208.out 4
                  go_wp2_with (first | (go_at_call 30; (with_reducible refine (impl_within.calls a0_3 1 200 false _ A40.out).mono ?_); rintro e w' ⟨rfl, ⟨nd, rfl⟩⟩; (try first | exact ⟨rfl, _, World.drewN_drewN _ _ _⟩ | exact ⟨rfl, _, Eq.trans (World.drewN_drewN _ _ _) (congrArg (World.drewN _) (Nat.add_assoc _ _ _))⟩)) | (go_at_call 30; (with_reducible refine (impl_within.calls a0_0 1 10 true _ A41.out).mono ?_); rintro e w' ⟨rfl, ⟨nd, rfl⟩⟩; (try first | exact ⟨rfl, _, World.drewN_drewN _ _ _⟩ | exact ⟨rfl, _, Eq.trans (World.drewN_drewN _ _ _) (congrArg (World.drewN _) (Nat.add_assoc _ _ _))⟩)))
                  repeat (go_quiet (first | (go_at_call 30; (with_reducible refine (impl_within.calls a0_3 1 200 false _ A40.out).mono ?_); rintro e w' ⟨rfl, ⟨nd, rfl⟩⟩; (try first | exact ⟨rfl, _, World.drewN_drewN _ _ _⟩ | exact ⟨rfl, _, Eq.trans (World.drewN_drewN _ _ _) (congrArg (World.drewN _) (Nat.add_assoc _ _ _))⟩)) | (go_at_call 30; (with_reducible refine (impl_within.calls a0_0 1 10 true _ A41.out).mono ?_); rintro e w' ⟨rfl, ⟨nd, rfl⟩⟩; (try first | exact ⟨rfl, _, World.drewN_drewN _ _ _⟩ | exact ⟨rfl, _, Eq.trans (World.drewN_drewN _ _ _) (congrArg (World.drewN _) (Nat.add_assoc _ _ _))⟩))); try go_wp2_with (first | (go_at_call 30; (with_reducible refine (impl_within.calls a0_3 1 200 false _ A40.out).mono ?_); rintro e w' ⟨rfl, ⟨nd, rfl⟩⟩; (try first | exact ⟨rfl, _, World.drewN_drewN _ _ _⟩ | exact ⟨rfl, _, Eq.trans (World.drewN_drewN _ _ _) (congrArg (World.drewN _) (Nat.add_assoc _ _ _))⟩)) | (go_at_call 30; (with_reducible refine (impl_within.calls a0_0 1 10 true _ A41.out).mono ?_); rintro e w' ⟨rfl, ⟨nd, rfl⟩⟩; (try first | exact ⟨rfl, _, World.drewN_drewN _ _ _⟩ | exact ⟨rfl, _, Eq.trans (World.drewN_drewN _ _ _) (congrArg (World.drewN _) (Nat.add_assoc _ _ _))⟩))))
                  go_ret
                  exact ⟨ER, (BB1 HB.out GE208.out)⟩
              · replace c43 := Bool.eq_false_iff.mpr c43
                subst c43
                have H1 : (some false) = some r := by rw [if_neg (show ¬ (false = true) by decide)] at H; exact H
                clear H
                have H := H1
                clear H1
                obtain rfl := Option.some.inj H
                have hcz49_0 : wc.cell? ⟨gb208, 0, none⟩ = some (.int .i64 a0_0) := (blk_cell BK208.out 0).trans rfl
                have hcz49_1 : wc.cell? ⟨gb208, 1, none⟩ = some (.string a0_1) := (blk_cell BK208.out 1).trans rfl
                have hcz49_2 : wc.cell? ⟨gb208, 2, none⟩ = some (.string a0_2) := (blk_cell BK208.out 2).trans rfl
                have hcz49_3 : wc.cell? ⟨gb208, 3, none⟩ = some (.int .i64 a0_3) := (blk_cell BK208.out 3).trans rfl
                have hcz49_4 : wc.cell? ⟨gb208, 4, none⟩ = some (.int .i64 a0_4) := (blk_cell BK208.out 4).trans rfl
                have hfz49_0 := blk_frozen BK208.out 0
                have hfz49_1 := blk_frozen BK208.out 1
                have hfz49_2 := blk_frozen BK208.out 2
                have hfz49_3 := blk_frozen BK208.out 3
                have hfz49_4 := blk_frozen BK208.out 4
                go_wp2_with (first | (go_at_call 30; (with_reducible refine (impl_within.calls a0_3 1 200 t214 _ A40.out).mono ?_); rintro e w' ⟨rfl, ⟨nd, rfl⟩⟩; (try first | exact ⟨rfl, _, World.drewN_drewN _ _ _⟩ | exact ⟨rfl, _, Eq.trans (World.drewN_drewN _ _ _) (congrArg (World.drewN _) (Nat.add_assoc _ _ _))⟩)) | (go_at_call 30; (with_reducible refine (impl_within.calls a0_0 1 10 true _ A41.out).mono ?_); rintro e w' ⟨rfl, ⟨nd, rfl⟩⟩; (try first | exact ⟨rfl, _, World.drewN_drewN _ _ _⟩ | exact ⟨rfl, _, Eq.trans (World.drewN_drewN _ _ _) (congrArg (World.drewN _) (Nat.add_assoc _ _ _))⟩)))
                repeat (go_quiet (first | (go_at_call 30; (with_reducible refine (impl_within.calls a0_3 1 200 t214 _ A40.out).mono ?_); rintro e w' ⟨rfl, ⟨nd, rfl⟩⟩; (try first | exact ⟨rfl, _, World.drewN_drewN _ _ _⟩ | exact ⟨rfl, _, Eq.trans (World.drewN_drewN _ _ _) (congrArg (World.drewN _) (Nat.add_assoc _ _ _))⟩)) | (go_at_call 30; (with_reducible refine (impl_within.calls a0_0 1 10 true _ A41.out).mono ?_); rintro e w' ⟨rfl, ⟨nd, rfl⟩⟩; (try first | exact ⟨rfl, _, World.drewN_drewN _ _ _⟩ | exact ⟨rfl, _, Eq.trans (World.drewN_drewN _ _ _) (congrArg (World.drewN _) (Nat.add_assoc _ _ _))⟩))); try go_wp2_with (first | (go_at_call 30; (with_reducible refine (impl_within.calls a0_3 1 200 t214 _ A40.out).mono ?_); rintro e w' ⟨rfl, ⟨nd, rfl⟩⟩; (try first | exact ⟨rfl, _, World.drewN_drewN _ _ _⟩ | exact ⟨rfl, _, Eq.trans (World.drewN_drewN _ _ _) (congrArg (World.drewN _) (Nat.add_assoc _ _ _))⟩)) | (go_at_call 30; (with_reducible refine (impl_within.calls a0_0 1 10 true _ A41.out).mono ?_); rintro e w' ⟨rfl, ⟨nd, rfl⟩⟩; (try first | exact ⟨rfl, _, World.drewN_drewN _ _ _⟩ | exact ⟨rfl, _, Eq.trans (World.drewN_drewN _ _ _) (congrArg (World.drewN _) (Nat.add_assoc _ _ _))⟩))))
                go_ret
                exact ⟨ER, (BB1 HB.out GE208.out)⟩
            · replace c42 := Bool.eq_false_iff.mpr c42
              subst c42
              have H1 : (some false) = some r := by rw [if_neg (show ¬ (false = true) by decide)] at H; exact H
              clear H
              have H := H1
              clear H1
              obtain rfl := Option.some.inj H
              have hcz50_0 : wc.cell? ⟨gb208, 0, none⟩ = some (.int .i64 a0_0) := (blk_cell BK208.out 0).trans rfl
              have hcz50_1 : wc.cell? ⟨gb208, 1, none⟩ = some (.string a0_1) := (blk_cell BK208.out 1).trans rfl
              have hcz50_2 : wc.cell? ⟨gb208, 2, none⟩ = some (.string a0_2) := (blk_cell BK208.out 2).trans rfl
              have hcz50_3 : wc.cell? ⟨gb208, 3, none⟩ = some (.int .i64 a0_3) := (blk_cell BK208.out 3).trans rfl
              have hcz50_4 : wc.cell? ⟨gb208, 4, none⟩ = some (.int .i64 a0_4) := (blk_cell BK208.out 4).trans rfl
              have hfz50_0 := blk_frozen BK208.out 0
              have hfz50_1 := blk_frozen BK208.out 1
              have hfz50_2 := blk_frozen BK208.out 2
              have hfz50_3 := blk_frozen BK208.out 3
              have hfz50_4 := blk_frozen BK208.out 4
              go_wp2_with (first | (go_at_call 30; (with_reducible refine (impl_within.calls a0_3 1 200 t214 _ A40.out).mono ?_); rintro e w' ⟨rfl, ⟨nd, rfl⟩⟩; (try first | exact ⟨rfl, _, World.drewN_drewN _ _ _⟩ | exact ⟨rfl, _, Eq.trans (World.drewN_drewN _ _ _) (congrArg (World.drewN _) (Nat.add_assoc _ _ _))⟩)) | (go_at_call 30; (with_reducible refine (impl_within.calls a0_0 1 10 false _ A41.out).mono ?_); rintro e w' ⟨rfl, ⟨nd, rfl⟩⟩; (try first | exact ⟨rfl, _, World.drewN_drewN _ _ _⟩ | exact ⟨rfl, _, Eq.trans (World.drewN_drewN _ _ _) (congrArg (World.drewN _) (Nat.add_assoc _ _ _))⟩)))
              repeat (go_quiet (first | (go_at_call 30; (with_reducible refine (impl_within.calls a0_3 1 200 t214 _ A40.out).mono ?_); rintro e w' ⟨rfl, ⟨nd, rfl⟩⟩; (try first | exact ⟨rfl, _, World.drewN_drewN _ _ _⟩ | exact ⟨rfl, _, Eq.trans (World.drewN_drewN _ _ _) (congrArg (World.drewN _) (Nat.add_assoc _ _ _))⟩)) | (go_at_call 30; (with_reducible refine (impl_within.calls a0_0 1 10 false _ A41.out).mono ?_); rintro e w' ⟨rfl, ⟨nd, rfl⟩⟩; (try first | exact ⟨rfl, _, World.drewN_drewN _ _ _⟩ | exact ⟨rfl, _, Eq.trans (World.drewN_drewN _ _ _) (congrArg (World.drewN _) (Nat.add_assoc _ _ _))⟩))); try go_wp2_with (first | (go_at_call 30; (with_reducible refine (impl_within.calls a0_3 1 200 t214 _ A40.out).mono ?_); rintro e w' ⟨rfl, ⟨nd, rfl⟩⟩; (try first | exact ⟨rfl, _, World.drewN_drewN _ _ _⟩ | exact ⟨rfl, _, Eq.trans (World.drewN_drewN _ _ _) (congrArg (World.drewN _) (Nat.add_assoc _ _ _))⟩)) | (go_at_call 30; (with_reducible refine (impl_within.calls a0_0 1 10 false _ A41.out).mono ?_); rintro e w' ⟨rfl, ⟨nd, rfl⟩⟩; (try first | exact ⟨rfl, _, World.drewN_drewN _ _ _⟩ | exact ⟨rfl, _, Eq.trans (World.drewN_drewN _ _ _) (congrArg (World.drewN _) (Nat.add_assoc _ _ _))⟩))))
              go_ret
              exact ⟨ER, (BB1 HB.out GE208.out)⟩
          · rw [if_neg c39] at H
            have c39b0 : (a0_0 == 7) = false := beq_eq_false_iff_ne.mpr c39
            have c39b1 : (a0_0 != 7) = true := bne_iff_ne.mpr c39
            have HC51 := Aside0.mk H
            clear H
            have hcz52_0 : wc.cell? ⟨gb208, 0, none⟩ = some (.int .i64 a0_0) := (blk_cell BK208.out 0).trans rfl
            have hcz52_1 : wc.cell? ⟨gb208, 1, none⟩ = some (.string a0_1) := (blk_cell BK208.out 1).trans rfl
            have hcz52_2 : wc.cell? ⟨gb208, 2, none⟩ = some (.string a0_2) := (blk_cell BK208.out 2).trans rfl
            have hcz52_3 : wc.cell? ⟨gb208, 3, none⟩ = some (.int .i64 a0_3) := (blk_cell BK208.out 3).trans rfl
            have hcz52_4 : wc.cell? ⟨gb208, 4, none⟩ = some (.int .i64 a0_4) := (blk_cell BK208.out 4).trans rfl
            have hfz52_0 := blk_frozen BK208.out 0
            have hfz52_1 := blk_frozen BK208.out 1
            have hfz52_2 := blk_frozen BK208.out 2
            have hfz52_3 := blk_frozen BK208.out 3
            have hfz52_4 := blk_frozen BK208.out 4
            go_upto_if 52 with (fail)
            repeat (go_quiet (fail); go_upto_if 52 with (fail))
            go_cut [52] (fun v52 wc => ∃ (kq : Nat) (x52_50 : Bool), v52 = .bool x52_50 ∧ Aside0 (impl_EditOk.j2 kq x3_2 (a0_3 == 0) (a0_4 == 0) (a0_2.toList == ([] : List UInt8)) a0_0 x52_50 a0_0 a0_1 a0_2 a0_3 a0_4 = some r) ∧ Aside0 (kq ≤ kj2) ∧ Aside0 (wc.heap[gb208]? = some (.cells #[.int .i64 a0_0, .string a0_1, .string a0_2, .int .i64 a0_3, .int .i64 a0_4] 60 (0, 0))) ∧ Aside0 (Below w.heap.size w wc))
            case first =>
              have H := HC51.out
              clear HC51
              by_cases c53 : a0_0 = 2
              · rw [if_pos c53] at H
                have c53b0 : (a0_0 == 2) = true := beq_iff_eq.mpr c53
                have c53b1 : (a0_0 != 2) = false := bne_eq_false_iff_eq.mpr c53
                clear c53
                (first | rw [c53b0] | (simp only [i64_w, i32_w]; rw [c53b0]) | skip)
                have H' := Aside0.mk H
                clear H
                go_wp2
                repeat (go_quiet (fail); try go_wp2)
                go_meet
                case rel => exact ⟨_, ((a0_0 == 2)), FR, H', ⟨by have := HJ2.out; first | omega | exact Nat.le_refl _⟩, ⟨by (with_reducible repeat (first | refine blk_drewN ?_ _ | refine blk_drew ?_ | refine blk_alloc ?_ _)); exact BK208.out⟩, ⟨(BB1 HB.out GE208.out)⟩⟩
              · rw [if_neg c53] at H
                have c53b0 : (a0_0 == 2) = false := beq_eq_false_iff_ne.mpr c53
                have c53b1 : (a0_0 != 2) = true := bne_iff_ne.mpr c53
                (first | rw [c53b0] | (simp only [i64_w, i32_w]; rw [c53b0]) | skip)
                have H' := Aside0.mk H
                clear H
                go_wp2
                repeat (go_quiet (fail); try go_wp2)
                go_meet
                case rel => exact ⟨_, ((a0_0 == 9)), FR, H', ⟨by have := HJ2.out; first | omega | exact Nat.le_refl _⟩, ⟨by (with_reducible repeat (first | refine blk_drewN ?_ _ | refine blk_drew ?_ | refine blk_alloc ?_ _)); exact BK208.out⟩, ⟨(BB1 HB.out GE208.out)⟩⟩
            case rest =>
              clear HC51
              try clear c1
              try clear c2
              try clear p2
              try clear c3
              try clear c4
              try clear c5
              try clear c9
              try clear c9b0
              try clear c9b1
              try clear c10
              try clear c11
              try clear c13
              try clear c13b0
              try clear c13b1
              try clear c15
              try clear c15b0
              try clear c15b1
              try clear c18
              try clear c19
              try clear c20
              try clear c21
              try clear c21b0
              try clear c21b1
              try clear c27
              try clear c27b0
              try clear c27b1
              try clear c30
              try clear c31
              try clear c32
              try clear c33
              try clear c33b0
              try clear c33b1
              try clear c39
              try clear c39b0
              try clear c39b1
              try clear c42
              try clear c43
              try clear c44
              try clear c45
              try clear c45b0
              try clear c45b1
              try clear c53
              try clear c53b0
              try clear c53b1
              try clear hcz12_0
              try clear hcz12_1
              try clear hcz12_2
              try clear hcz12_3
              try clear hcz12_4
              try clear hcz14_0
              try clear hcz14_1
              try clear hcz14_2
              try clear hcz14_3
              try clear hcz14_4
              try clear hcz22_0
              try clear hcz22_1
              try clear hcz22_2
              try clear hcz22_3
              try clear hcz22_4
              try clear hcz23_0
              try clear hcz23_1
              try clear hcz23_2
              try clear hcz23_3
              try clear hcz23_4
              try clear hcz24_0
              try clear hcz24_1
              try clear hcz24_2
              try clear hcz24_3
              try clear hcz24_4
              try clear hcz25_0
              try clear hcz25_1
              try clear hcz25_2
              try clear hcz25_3
              try clear hcz25_4
              try clear hcz26_0
              try clear hcz26_1
              try clear hcz26_2
              try clear hcz26_3
              try clear hcz26_4
              try clear hcz34_0
              try clear hcz34_1
              try clear hcz34_2
              try clear hcz34_3
              try clear hcz34_4
              try clear hcz35_0
              try clear hcz35_1
              try clear hcz35_2
              try clear hcz35_3
              try clear hcz35_4
              try clear hcz36_0
              try clear hcz36_1
              try clear hcz36_2
              try clear hcz36_3
              try clear hcz36_4
              try clear hcz37_0
              try clear hcz37_1
              try clear hcz37_2
              try clear hcz37_3
              try clear hcz37_4
              try clear hcz38_0
              try clear hcz38_1
              try clear hcz38_2
              try clear hcz38_3
              try clear hcz38_4
              try clear hcz46_0
              try clear hcz46_1
              try clear hcz46_2
              try clear hcz46_3
              try clear hcz46_4
              try clear hcz47_0
              try clear hcz47_1
              try clear hcz47_2
              try clear hcz47_3
              try clear hcz47_4
              try clear hcz48_0
              try clear hcz48_1
              try clear hcz48_2
              try clear hcz48_3
              try clear hcz48_4
              try clear hcz49_0
              try clear hcz49_1
              try clear hcz49_2
              try clear hcz49_3
              try clear hcz49_4
              try clear hcz50_0
              try clear hcz50_1
              try clear hcz50_2
              try clear hcz50_3
              try clear hcz50_4
              try clear hcz52_0
              try clear hcz52_1
              try clear hcz52_2
              try clear hcz52_3
              try clear hcz52_4
              try clear hcz5_0
              try clear hcz5_1
              try clear hcz5_2
              try clear hcz5_3
              try clear hcz5_4
              try clear hcz7_0
              try clear hcz7_1
              try clear hcz7_2
              try clear hcz7_3
              try clear hcz7_4
              try clear hfz12_0
              try clear hfz12_1
              try clear hfz12_2
              try clear hfz12_3
              try clear hfz12_4
              try clear hfz14_0
              try clear hfz14_1
              try clear hfz14_2
              try clear hfz14_3
              try clear hfz14_4
              try clear hfz22_0
              try clear hfz22_1
              try clear hfz22_2
              try clear hfz22_3
              try clear hfz22_4
              try clear hfz23_0
              try clear hfz23_1
              try clear hfz23_2
              try clear hfz23_3
              try clear hfz23_4
              try clear hfz24_0
              try clear hfz24_1
              try clear hfz24_2
              try clear hfz24_3
              try clear hfz24_4
              try clear hfz25_0
              try clear hfz25_1
              try clear hfz25_2
              try clear hfz25_3
              try clear hfz25_4
              try clear hfz26_0
              try clear hfz26_1
              try clear hfz26_2
              try clear hfz26_3
              try clear hfz26_4
              try clear hfz34_0
              try clear hfz34_1
              try clear hfz34_2
              try clear hfz34_3
              try clear hfz34_4
              try clear hfz35_0
              try clear hfz35_1
              try clear hfz35_2
              try clear hfz35_3
              try clear hfz35_4
              try clear hfz36_0
              try clear hfz36_1
              try clear hfz36_2
              try clear hfz36_3
              try clear hfz36_4
              try clear hfz37_0
              try clear hfz37_1
              try clear hfz37_2
              try clear hfz37_3
              try clear hfz37_4
              try clear hfz38_0
              try clear hfz38_1
              try clear hfz38_2
              try clear hfz38_3
              try clear hfz38_4
              try clear hfz46_0
              try clear hfz46_1
              try clear hfz46_2
              try clear hfz46_3
              try clear hfz46_4
              try clear hfz47_0
              try clear hfz47_1
              try clear hfz47_2
              try clear hfz47_3
              try clear hfz47_4
              try clear hfz48_0
              try clear hfz48_1
              try clear hfz48_2
              try clear hfz48_3
              try clear hfz48_4
              try clear hfz49_0
              try clear hfz49_1
              try clear hfz49_2
              try clear hfz49_3
              try clear hfz49_4
              try clear hfz50_0
              try clear hfz50_1
              try clear hfz50_2
              try clear hfz50_3
              try clear hfz50_4
              try clear hfz52_0
              try clear hfz52_1
              try clear hfz52_2
              try clear hfz52_3
              try clear hfz52_4
              try clear hfz5_0
              try clear hfz5_1
              try clear hfz5_2
              try clear hfz5_3
              try clear hfz5_4
              try clear hfz7_0
              try clear hfz7_1
              try clear hfz7_2
              try clear hfz7_3
              try clear hfz7_4
              try clear p2
              obtain ⟨kq, x52_50, rfl, HA, HJ50, BK208, HB⟩ := hcut
              cases kq with
              | zero => exact absurd HA.out (by simp [impl_EditOk.j2])
              | succ kj50 =>
                have H := HA.out
                clear HA
                simp only [impl_EditOk.j2] at H
                by_cases c54 : x52_50 = true
                · subst c54
                  have H1 : ((impl_within.f a0_4 1 9).bind fun t216 => ((impl_within.f a0_0 1 10).bind fun t217 => (if t217 = true then (if x3_2 = true then (if (a0_3 == 0) = true then (if t216 = true then (some (a0_2.toList == ([] : List UInt8))) else (some false)) else (some false)) else (some false)) else (some false)))) = some r := by rw [if_pos rfl] at H; exact H
                  clear H
                  have H := H1
                  clear H1
                  replace H := Option.bind_eq_some_iff.mp H
                  obtain ⟨t216, A550, H⟩ := H
                  replace H : ((impl_within.f a0_0 1 10).bind fun t217 => (if t217 = true then (if x3_2 = true then (if (a0_3 == 0) = true then (if t216 = true then (some (a0_2.toList == ([] : List UInt8))) else (some false)) else (some false)) else (some false)) else (some false))) = some r := H
                  have A55 := Aside0.mk A550
                  clear A550
                  replace H := Option.bind_eq_some_iff.mp H
                  obtain ⟨t217, A560, H⟩ := H
                  replace H : (if t217 = true then (if x3_2 = true then (if (a0_3 == 0) = true then (if t216 = true then (some (a0_2.toList == ([] : List UInt8))) else (some false)) else (some false)) else (some false)) else (some false)) = some r := H
                  have A56 := Aside0.mk A560
                  clear A560
                  by_cases c57 : t217 = true
                  · subst c57
                    have H1 : (if x3_2 = true then (if (a0_3 == 0) = true then (if t216 = true then (some (a0_2.toList == ([] : List UInt8))) else (some false)) else (some false)) else (some false)) = some r := by rw [if_pos rfl] at H; exact H
                    clear H
                    have H := H1
                    clear H1
                    by_cases c58 : x3_2 = true
                    · subst c58
                      have H1 : (if (a0_3 == 0) = true then (if t216 = true then (some (a0_2.toList == ([] : List UInt8))) else (some false)) else (some false)) = some r := by rw [if_pos rfl] at H; exact H
                      clear H
                      have H := H1
                      clear H1
                      by_cases c59 : (a0_3 == 0) = true
                      · rw [if_pos c59] at H
                        have c59b0 : (a0_3 == 0) = true := c59
                        (try (have c59b1 : decide (a0_3 = 0) = true := by simpa using c59))
                        (try (have c59b2 : (a0_3 == 0) = true := by simpa using c59))
                        clear c59
                        by_cases c60 : t216 = true
                        · subst c60
                          have H1 : (some (a0_2.toList == ([] : List UInt8))) = some r := by rw [if_pos rfl] at H; exact H
                          clear H
                          have H := H1
                          clear H1
                          obtain rfl := Option.some.inj H
                          have hcz61_0 : wc.cell? ⟨gb208, 0, none⟩ = some (.int .i64 a0_0) := (blk_cell BK208.out 0).trans rfl
                          have hcz61_1 : wc.cell? ⟨gb208, 1, none⟩ = some (.string a0_1) := (blk_cell BK208.out 1).trans rfl
                          have hcz61_2 : wc.cell? ⟨gb208, 2, none⟩ = some (.string a0_2) := (blk_cell BK208.out 2).trans rfl
                          have hcz61_3 : wc.cell? ⟨gb208, 3, none⟩ = some (.int .i64 a0_3) := (blk_cell BK208.out 3).trans rfl
                          have hcz61_4 : wc.cell? ⟨gb208, 4, none⟩ = some (.int .i64 a0_4) := (blk_cell BK208.out 4).trans rfl
                          have hfz61_0 := blk_frozen BK208.out 0
                          have hfz61_1 := blk_frozen BK208.out 1
                          have hfz61_2 := blk_frozen BK208.out 2
                          have hfz61_3 := blk_frozen BK208.out 3
                          have hfz61_4 := blk_frozen BK208.out 4
                          go_wp2_with (first | (go_at_call 30; (with_reducible refine (impl_within.calls a0_4 1 9 true _ A55.out).mono ?_); rintro e w' ⟨rfl, ⟨nd, rfl⟩⟩; (try first | exact ⟨rfl, _, World.drewN_drewN _ _ _⟩ | exact ⟨rfl, _, Eq.trans (World.drewN_drewN _ _ _) (congrArg (World.drewN _) (Nat.add_assoc _ _ _))⟩)) | (go_at_call 30; (with_reducible refine (impl_within.calls a0_0 1 10 true _ A56.out).mono ?_); rintro e w' ⟨rfl, ⟨nd, rfl⟩⟩; (try first | exact ⟨rfl, _, World.drewN_drewN _ _ _⟩ | exact ⟨rfl, _, Eq.trans (World.drewN_drewN _ _ _) (congrArg (World.drewN _) (Nat.add_assoc _ _ _))⟩)))
                          repeat (go_quiet (first | (go_at_call 30; (with_reducible refine (impl_within.calls a0_4 1 9 true _ A55.out).mono ?_); rintro e w' ⟨rfl, ⟨nd, rfl⟩⟩; (try first | exact ⟨rfl, _, World.drewN_drewN _ _ _⟩ | exact ⟨rfl, _, Eq.trans (World.drewN_drewN _ _ _) (congrArg (World.drewN _) (Nat.add_assoc _ _ _))⟩)) | (go_at_call 30; (with_reducible refine (impl_within.calls a0_0 1 10 true _ A56.out).mono ?_); rintro e w' ⟨rfl, ⟨nd, rfl⟩⟩; (try first | exact ⟨rfl, _, World.drewN_drewN _ _ _⟩ | exact ⟨rfl, _, Eq.trans (World.drewN_drewN _ _ _) (congrArg (World.drewN _) (Nat.add_assoc _ _ _))⟩))); try go_wp2_with (first | (go_at_call 30; (with_reducible refine (impl_within.calls a0_4 1 9 true _ A55.out).mono ?_); rintro e w' ⟨rfl, ⟨nd, rfl⟩⟩; (try first | exact ⟨rfl, _, World.drewN_drewN _ _ _⟩ | exact ⟨rfl, _, Eq.trans (World.drewN_drewN _ _ _) (congrArg (World.drewN _) (Nat.add_assoc _ _ _))⟩)) | (go_at_call 30; (with_reducible refine (impl_within.calls a0_0 1 10 true _ A56.out).mono ?_); rintro e w' ⟨rfl, ⟨nd, rfl⟩⟩; (try first | exact ⟨rfl, _, World.drewN_drewN _ _ _⟩ | exact ⟨rfl, _, Eq.trans (World.drewN_drewN _ _ _) (congrArg (World.drewN _) (Nat.add_assoc _ _ _))⟩))))
                          go_ret
                          exact ⟨ER, (BB1 HB.out GE208.out)⟩
                        · replace c60 := Bool.eq_false_iff.mpr c60
                          subst c60
                          have H1 : (some false) = some r := by rw [if_neg (show ¬ (false = true) by decide)] at H; exact H
                          clear H
                          have H := H1
                          clear H1
                          obtain rfl := Option.some.inj H
                          have hcz62_0 : wc.cell? ⟨gb208, 0, none⟩ = some (.int .i64 a0_0) := (blk_cell BK208.out 0).trans rfl
                          have hcz62_1 : wc.cell? ⟨gb208, 1, none⟩ = some (.string a0_1) := (blk_cell BK208.out 1).trans rfl
                          have hcz62_2 : wc.cell? ⟨gb208, 2, none⟩ = some (.string a0_2) := (blk_cell BK208.out 2).trans rfl
                          have hcz62_3 : wc.cell? ⟨gb208, 3, none⟩ = some (.int .i64 a0_3) := (blk_cell BK208.out 3).trans rfl
                          have hcz62_4 : wc.cell? ⟨gb208, 4, none⟩ = some (.int .i64 a0_4) := (blk_cell BK208.out 4).trans rfl
                          have hfz62_0 := blk_frozen BK208.out 0
                          have hfz62_1 := blk_frozen BK208.out 1
                          have hfz62_2 := blk_frozen BK208.out 2
                          have hfz62_3 := blk_frozen BK208.out 3
                          have hfz62_4 := blk_frozen BK208.out 4
                          go_wp2_with (first | (go_at_call 30; (with_reducible refine (impl_within.calls a0_4 1 9 false _ A55.out).mono ?_); rintro e w' ⟨rfl, ⟨nd, rfl⟩⟩; (try first | exact ⟨rfl, _, World.drewN_drewN _ _ _⟩ | exact ⟨rfl, _, Eq.trans (World.drewN_drewN _ _ _) (congrArg (World.drewN _) (Nat.add_assoc _ _ _))⟩)) | (go_at_call 30; (with_reducible refine (impl_within.calls a0_0 1 10 true _ A56.out).mono ?_); rintro e w' ⟨rfl, ⟨nd, rfl⟩⟩; (try first | exact ⟨rfl, _, World.drewN_drewN _ _ _⟩ | exact ⟨rfl, _, Eq.trans (World.drewN_drewN _ _ _) (congrArg (World.drewN _) (Nat.add_assoc _ _ _))⟩)))
                          repeat (go_quiet (first | (go_at_call 30; (with_reducible refine (impl_within.calls a0_4 1 9 false _ A55.out).mono ?_); rintro e w' ⟨rfl, ⟨nd, rfl⟩⟩; (try first | exact ⟨rfl, _, World.drewN_drewN _ _ _⟩ | exact ⟨rfl, _, Eq.trans (World.drewN_drewN _ _ _) (congrArg (World.drewN _) (Nat.add_assoc _ _ _))⟩)) | (go_at_call 30; (with_reducible refine (impl_within.calls a0_0 1 10 true _ A56.out).mono ?_); rintro e w' ⟨rfl, ⟨nd, rfl⟩⟩; (try first | exact ⟨rfl, _, World.drewN_drewN _ _ _⟩ | exact ⟨rfl, _, Eq.trans (World.drewN_drewN _ _ _) (congrArg (World.drewN _) (Nat.add_assoc _ _ _))⟩))); try go_wp2_with (first | (go_at_call 30; (with_reducible refine (impl_within.calls a0_4 1 9 false _ A55.out).mono ?_); rintro e w' ⟨rfl, ⟨nd, rfl⟩⟩; (try first | exact ⟨rfl, _, World.drewN_drewN _ _ _⟩ | exact ⟨rfl, _, Eq.trans (World.drewN_drewN _ _ _) (congrArg (World.drewN _) (Nat.add_assoc _ _ _))⟩)) | (go_at_call 30; (with_reducible refine (impl_within.calls a0_0 1 10 true _ A56.out).mono ?_); rintro e w' ⟨rfl, ⟨nd, rfl⟩⟩; (try first | exact ⟨rfl, _, World.drewN_drewN _ _ _⟩ | exact ⟨rfl, _, Eq.trans (World.drewN_drewN _ _ _) (congrArg (World.drewN _) (Nat.add_assoc _ _ _))⟩))))
                          go_ret
                          exact ⟨ER, (BB1 HB.out GE208.out)⟩
                      · rw [if_neg c59] at H
                        have c59b0 : (a0_3 == 0) = false := by simpa using c59
                        (try (have c59b1 : decide (a0_3 = 0) = false := by simpa using c59))
                        (try (have c59b2 : (a0_3 == 0) = false := by simpa using c59))
                        (try (have c59b3 : ¬ (a0_3 = 0) := by simpa using c59))
                        clear c59
                        obtain rfl := Option.some.inj H
                        have hcz63_0 : wc.cell? ⟨gb208, 0, none⟩ = some (.int .i64 a0_0) := (blk_cell BK208.out 0).trans rfl
                        have hcz63_1 : wc.cell? ⟨gb208, 1, none⟩ = some (.string a0_1) := (blk_cell BK208.out 1).trans rfl
                        have hcz63_2 : wc.cell? ⟨gb208, 2, none⟩ = some (.string a0_2) := (blk_cell BK208.out 2).trans rfl
                        have hcz63_3 : wc.cell? ⟨gb208, 3, none⟩ = some (.int .i64 a0_3) := (blk_cell BK208.out 3).trans rfl
                        have hcz63_4 : wc.cell? ⟨gb208, 4, none⟩ = some (.int .i64 a0_4) := (blk_cell BK208.out 4).trans rfl
                        have hfz63_0 := blk_frozen BK208.out 0
                        have hfz63_1 := blk_frozen BK208.out 1
                        have hfz63_2 := blk_frozen BK208.out 2
                        have hfz63_3 := blk_frozen BK208.out 3
                        have hfz63_4 := blk_frozen BK208.out 4
                        go_wp2_with (first | (go_at_call 30; (with_reducible refine (impl_within.calls a0_4 1 9 t216 _ A55.out).mono ?_); rintro e w' ⟨rfl, ⟨nd, rfl⟩⟩; (try first | exact ⟨rfl, _, World.drewN_drewN _ _ _⟩ | exact ⟨rfl, _, Eq.trans (World.drewN_drewN _ _ _) (congrArg (World.drewN _) (Nat.add_assoc _ _ _))⟩)) | (go_at_call 30; (with_reducible refine (impl_within.calls a0_0 1 10 true _ A56.out).mono ?_); rintro e w' ⟨rfl, ⟨nd, rfl⟩⟩; (try first | exact ⟨rfl, _, World.drewN_drewN _ _ _⟩ | exact ⟨rfl, _, Eq.trans (World.drewN_drewN _ _ _) (congrArg (World.drewN _) (Nat.add_assoc _ _ _))⟩)))
                        repeat (go_quiet (first | (go_at_call 30; (with_reducible refine (impl_within.calls a0_4 1 9 t216 _ A55.out).mono ?_); rintro e w' ⟨rfl, ⟨nd, rfl⟩⟩; (try first | exact ⟨rfl, _, World.drewN_drewN _ _ _⟩ | exact ⟨rfl, _, Eq.trans (World.drewN_drewN _ _ _) (congrArg (World.drewN _) (Nat.add_assoc _ _ _))⟩)) | (go_at_call 30; (with_reducible refine (impl_within.calls a0_0 1 10 true _ A56.out).mono ?_); rintro e w' ⟨rfl, ⟨nd, rfl⟩⟩; (try first | exact ⟨rfl, _, World.drewN_drewN _ _ _⟩ | exact ⟨rfl, _, Eq.trans (World.drewN_drewN _ _ _) (congrArg (World.drewN _) (Nat.add_assoc _ _ _))⟩))); try go_wp2_with (first | (go_at_call 30; (with_reducible refine (impl_within.calls a0_4 1 9 t216 _ A55.out).mono ?_); rintro e w' ⟨rfl, ⟨nd, rfl⟩⟩; (try first | exact ⟨rfl, _, World.drewN_drewN _ _ _⟩ | exact ⟨rfl, _, Eq.trans (World.drewN_drewN _ _ _) (congrArg (World.drewN _) (Nat.add_assoc _ _ _))⟩)) | (go_at_call 30; (with_reducible refine (impl_within.calls a0_0 1 10 true _ A56.out).mono ?_); rintro e w' ⟨rfl, ⟨nd, rfl⟩⟩; (try first | exact ⟨rfl, _, World.drewN_drewN _ _ _⟩ | exact ⟨rfl, _, Eq.trans (World.drewN_drewN _ _ _) (congrArg (World.drewN _) (Nat.add_assoc _ _ _))⟩))))
                        go_ret
                        exact ⟨ER, (BB1 HB.out GE208.out)⟩
                    · replace c58 := Bool.eq_false_iff.mpr c58
                      subst c58
                      have H1 : (some false) = some r := by rw [if_neg (show ¬ (false = true) by decide)] at H; exact H
                      clear H
                      have H := H1
                      clear H1
                      obtain rfl := Option.some.inj H
                      have hcz64_0 : wc.cell? ⟨gb208, 0, none⟩ = some (.int .i64 a0_0) := (blk_cell BK208.out 0).trans rfl
                      have hcz64_1 : wc.cell? ⟨gb208, 1, none⟩ = some (.string a0_1) := (blk_cell BK208.out 1).trans rfl
                      have hcz64_2 : wc.cell? ⟨gb208, 2, none⟩ = some (.string a0_2) := (blk_cell BK208.out 2).trans rfl
                      have hcz64_3 : wc.cell? ⟨gb208, 3, none⟩ = some (.int .i64 a0_3) := (blk_cell BK208.out 3).trans rfl
                      have hcz64_4 : wc.cell? ⟨gb208, 4, none⟩ = some (.int .i64 a0_4) := (blk_cell BK208.out 4).trans rfl
                      have hfz64_0 := blk_frozen BK208.out 0
                      have hfz64_1 := blk_frozen BK208.out 1
                      have hfz64_2 := blk_frozen BK208.out 2
                      have hfz64_3 := blk_frozen BK208.out 3
                      have hfz64_4 := blk_frozen BK208.out 4
                      go_wp2_with (first | (go_at_call 30; (with_reducible refine (impl_within.calls a0_4 1 9 t216 _ A55.out).mono ?_); rintro e w' ⟨rfl, ⟨nd, rfl⟩⟩; (try first | exact ⟨rfl, _, World.drewN_drewN _ _ _⟩ | exact ⟨rfl, _, Eq.trans (World.drewN_drewN _ _ _) (congrArg (World.drewN _) (Nat.add_assoc _ _ _))⟩)) | (go_at_call 30; (with_reducible refine (impl_within.calls a0_0 1 10 true _ A56.out).mono ?_); rintro e w' ⟨rfl, ⟨nd, rfl⟩⟩; (try first | exact ⟨rfl, _, World.drewN_drewN _ _ _⟩ | exact ⟨rfl, _, Eq.trans (World.drewN_drewN _ _ _) (congrArg (World.drewN _) (Nat.add_assoc _ _ _))⟩)))
                      repeat (go_quiet (first | (go_at_call 30; (with_reducible refine (impl_within.calls a0_4 1 9 t216 _ A55.out).mono ?_); rintro e w' ⟨rfl, ⟨nd, rfl⟩⟩; (try first | exact ⟨rfl, _, World.drewN_drewN _ _ _⟩ | exact ⟨rfl, _, Eq.trans (World.drewN_drewN _ _ _) (congrArg (World.drewN _) (Nat.add_assoc _ _ _))⟩)) | (go_at_call 30; (with_reducible refine (impl_within.calls a0_0 1 10 true _ A56.out).mono ?_); rintro e w' ⟨rfl, ⟨nd, rfl⟩⟩; (try first | exact ⟨rfl, _, World.drewN_drewN _ _ _⟩ | exact ⟨rfl, _, Eq.trans (World.drewN_drewN _ _ _) (congrArg (World.drewN _) (Nat.add_assoc _ _ _))⟩))); try go_wp2_with (first | (go_at_call 30; (with_reducible refine (impl_within.calls a0_4 1 9 t216 _ A55.out).mono ?_); rintro e w' ⟨rfl, ⟨nd, rfl⟩⟩; (try first | exact ⟨rfl, _, World.drewN_drewN _ _ _⟩ | exact ⟨rfl, _, Eq.trans (World.drewN_drewN _ _ _) (congrArg (World.drewN _) (Nat.add_assoc _ _ _))⟩)) | (go_at_call 30; (with_reducible refine (impl_within.calls a0_0 1 10 true _ A56.out).mono ?_); rintro e w' ⟨rfl, ⟨nd, rfl⟩⟩; (try first | exact ⟨rfl, _, World.drewN_drewN _ _ _⟩ | exact ⟨rfl, _, Eq.trans (World.drewN_drewN _ _ _) (congrArg (World.drewN _) (Nat.add_assoc _ _ _))⟩))))
                      go_ret
                      exact ⟨ER, (BB1 HB.out GE208.out)⟩
                  · replace c57 := Bool.eq_false_iff.mpr c57
                    subst c57
                    have H1 : (some false) = some r := by rw [if_neg (show ¬ (false = true) by decide)] at H; exact H
                    clear H
                    have H := H1
                    clear H1
                    obtain rfl := Option.some.inj H
                    have hcz65_0 : wc.cell? ⟨gb208, 0, none⟩ = some (.int .i64 a0_0) := (blk_cell BK208.out 0).trans rfl
                    have hcz65_1 : wc.cell? ⟨gb208, 1, none⟩ = some (.string a0_1) := (blk_cell BK208.out 1).trans rfl
                    have hcz65_2 : wc.cell? ⟨gb208, 2, none⟩ = some (.string a0_2) := (blk_cell BK208.out 2).trans rfl
                    have hcz65_3 : wc.cell? ⟨gb208, 3, none⟩ = some (.int .i64 a0_3) := (blk_cell BK208.out 3).trans rfl
                    have hcz65_4 : wc.cell? ⟨gb208, 4, none⟩ = some (.int .i64 a0_4) := (blk_cell BK208.out 4).trans rfl
                    have hfz65_0 := blk_frozen BK208.out 0
                    have hfz65_1 := blk_frozen BK208.out 1
                    have hfz65_2 := blk_frozen BK208.out 2
                    have hfz65_3 := blk_frozen BK208.out 3
                    have hfz65_4 := blk_frozen BK208.out 4
                    go_wp2_with (first | (go_at_call 30; (with_reducible refine (impl_within.calls a0_4 1 9 t216 _ A55.out).mono ?_); rintro e w' ⟨rfl, ⟨nd, rfl⟩⟩; (try first | exact ⟨rfl, _, World.drewN_drewN _ _ _⟩ | exact ⟨rfl, _, Eq.trans (World.drewN_drewN _ _ _) (congrArg (World.drewN _) (Nat.add_assoc _ _ _))⟩)) | (go_at_call 30; (with_reducible refine (impl_within.calls a0_0 1 10 false _ A56.out).mono ?_); rintro e w' ⟨rfl, ⟨nd, rfl⟩⟩; (try first | exact ⟨rfl, _, World.drewN_drewN _ _ _⟩ | exact ⟨rfl, _, Eq.trans (World.drewN_drewN _ _ _) (congrArg (World.drewN _) (Nat.add_assoc _ _ _))⟩)))
                    repeat (go_quiet (first | (go_at_call 30; (with_reducible refine (impl_within.calls a0_4 1 9 t216 _ A55.out).mono ?_); rintro e w' ⟨rfl, ⟨nd, rfl⟩⟩; (try first | exact ⟨rfl, _, World.drewN_drewN _ _ _⟩ | exact ⟨rfl, _, Eq.trans (World.drewN_drewN _ _ _) (congrArg (World.drewN _) (Nat.add_assoc _ _ _))⟩)) | (go_at_call 30; (with_reducible refine (impl_within.calls a0_0 1 10 false _ A56.out).mono ?_); rintro e w' ⟨rfl, ⟨nd, rfl⟩⟩; (try first | exact ⟨rfl, _, World.drewN_drewN _ _ _⟩ | exact ⟨rfl, _, Eq.trans (World.drewN_drewN _ _ _) (congrArg (World.drewN _) (Nat.add_assoc _ _ _))⟩))); try go_wp2_with (first | (go_at_call 30; (with_reducible refine (impl_within.calls a0_4 1 9 t216 _ A55.out).mono ?_); rintro e w' ⟨rfl, ⟨nd, rfl⟩⟩; (try first | exact ⟨rfl, _, World.drewN_drewN _ _ _⟩ | exact ⟨rfl, _, Eq.trans (World.drewN_drewN _ _ _) (congrArg (World.drewN _) (Nat.add_assoc _ _ _))⟩)) | (go_at_call 30; (with_reducible refine (impl_within.calls a0_0 1 10 false _ A56.out).mono ?_); rintro e w' ⟨rfl, ⟨nd, rfl⟩⟩; (try first | exact ⟨rfl, _, World.drewN_drewN _ _ _⟩ | exact ⟨rfl, _, Eq.trans (World.drewN_drewN _ _ _) (congrArg (World.drewN _) (Nat.add_assoc _ _ _))⟩))))
                    go_ret
                    exact ⟨ER, (BB1 HB.out GE208.out)⟩
                · replace c54 := Bool.eq_false_iff.mpr c54
                  subst c54
                  have H1 : (if a0_0 = 3 then ((impl_named.f a0_2).bind fun t218 => ((impl_within.f a0_0 1 10).bind fun t219 => (if t219 = true then (if x3_2 = true then (if (a0_3 == 0) = true then (if (a0_4 == 0) = true then (some t218) else (some false)) else (some false)) else (some false)) else (some false)))) else ((impl_within.f a0_0 1 10).bind fun t220 => (if t220 = true then (if x3_2 = true then (if (a0_3 == 0) = true then (if (a0_4 == 0) = true then (some (a0_2.toList == ([] : List UInt8))) else (some false)) else (some false)) else (some false)) else (some false)))) = some r := by rw [if_neg (show ¬ (false = true) by decide)] at H; exact H
                  clear H
                  have H := H1
                  clear H1
                  by_cases c66 : a0_0 = 3
                  · rw [if_pos c66] at H
                    have c66b0 : (a0_0 == 3) = true := beq_iff_eq.mpr c66
                    have c66b1 : (a0_0 != 3) = false := bne_eq_false_iff_eq.mpr c66
                    clear c66
                    replace H := Option.bind_eq_some_iff.mp H
                    obtain ⟨t218, A670, H⟩ := H
                    replace H : ((impl_within.f a0_0 1 10).bind fun t219 => (if t219 = true then (if x3_2 = true then (if (a0_3 == 0) = true then (if (a0_4 == 0) = true then (some t218) else (some false)) else (some false)) else (some false)) else (some false))) = some r := H
                    have A67 := Aside0.mk A670
                    clear A670
                    replace H := Option.bind_eq_some_iff.mp H
                    obtain ⟨t219, A680, H⟩ := H
                    replace H : (if t219 = true then (if x3_2 = true then (if (a0_3 == 0) = true then (if (a0_4 == 0) = true then (some t218) else (some false)) else (some false)) else (some false)) else (some false)) = some r := H
                    have A68 := Aside0.mk A680
                    clear A680
                    by_cases c69 : t219 = true
                    · subst c69
                      have H1 : (if x3_2 = true then (if (a0_3 == 0) = true then (if (a0_4 == 0) = true then (some t218) else (some false)) else (some false)) else (some false)) = some r := by rw [if_pos rfl] at H; exact H
                      clear H
                      have H := H1
                      clear H1
                      by_cases c70 : x3_2 = true
                      · subst c70
                        have H1 : (if (a0_3 == 0) = true then (if (a0_4 == 0) = true then (some t218) else (some false)) else (some false)) = some r := by rw [if_pos rfl] at H; exact H
                        clear H
                        have H := H1
                        clear H1
                        by_cases c71 : (a0_3 == 0) = true
                        · rw [if_pos c71] at H
                          have c71b0 : (a0_3 == 0) = true := c71
                          (try (have c71b1 : decide (a0_3 = 0) = true := by simpa using c71))
                          (try (have c71b2 : (a0_3 == 0) = true := by simpa using c71))
                          clear c71
                          by_cases c72 : (a0_4 == 0) = true
                          · rw [if_pos c72] at H
                            have c72b0 : (a0_4 == 0) = true := c72
                            (try (have c72b1 : decide (a0_4 = 0) = true := by simpa using c72))
                            (try (have c72b2 : (a0_4 == 0) = true := by simpa using c72))
                            clear c72
                            obtain rfl := Option.some.inj H
                            have hcz73_0 : wc.cell? ⟨gb208, 0, none⟩ = some (.int .i64 a0_0) := (blk_cell BK208.out 0).trans rfl
                            have hcz73_1 : wc.cell? ⟨gb208, 1, none⟩ = some (.string a0_1) := (blk_cell BK208.out 1).trans rfl
                            have hcz73_2 : wc.cell? ⟨gb208, 2, none⟩ = some (.string a0_2) := (blk_cell BK208.out 2).trans rfl
                            have hcz73_3 : wc.cell? ⟨gb208, 3, none⟩ = some (.int .i64 a0_3) := (blk_cell BK208.out 3).trans rfl
                            have hcz73_4 : wc.cell? ⟨gb208, 4, none⟩ = some (.int .i64 a0_4) := (blk_cell BK208.out 4).trans rfl
                            have hfz73_0 := blk_frozen BK208.out 0
                            have hfz73_1 := blk_frozen BK208.out 1
                            have hfz73_2 := blk_frozen BK208.out 2
                            have hfz73_3 := blk_frozen BK208.out 3
                            have hfz73_4 := blk_frozen BK208.out 4
                            go_wp2_with (first | (go_at_call 29; (with_reducible refine (impl_named.calls a0_2 t218 _ A67.out).mono ?_); rintro e w74 ⟨rfl, hb⟩; replace BK208 := Aside0.mk (KB BK208.out hb); replace HB := Aside0.mk (below_step (BB1 HB.out GE208.out) hb); (try clear hb); (try clear hb2); (try clear hk); (try clear hi); have hcz75_0 : w74.cell? ⟨gb208, 0, none⟩ = some (.int .i64 a0_0) := (blk_cell BK208.out 0).trans rfl; have hcz75_1 : w74.cell? ⟨gb208, 1, none⟩ = some (.string a0_1) := (blk_cell BK208.out 1).trans rfl; have hcz75_2 : w74.cell? ⟨gb208, 2, none⟩ = some (.string a0_2) := (blk_cell BK208.out 2).trans rfl; have hcz75_3 : w74.cell? ⟨gb208, 3, none⟩ = some (.int .i64 a0_3) := (blk_cell BK208.out 3).trans rfl; have hcz75_4 : w74.cell? ⟨gb208, 4, none⟩ = some (.int .i64 a0_4) := (blk_cell BK208.out 4).trans rfl; have hfz75_0 := blk_frozen BK208.out 0; have hfz75_1 := blk_frozen BK208.out 1; have hfz75_2 := blk_frozen BK208.out 2; have hfz75_3 := blk_frozen BK208.out 3; have hfz75_4 := blk_frozen BK208.out 4) | (go_at_call 30; (with_reducible refine (impl_within.calls a0_0 1 10 true _ A68.out).mono ?_); rintro e w' ⟨rfl, ⟨nd, rfl⟩⟩; (try first | exact ⟨rfl, _, World.drewN_drewN _ _ _⟩ | exact ⟨rfl, _, Eq.trans (World.drewN_drewN _ _ _) (congrArg (World.drewN _) (Nat.add_assoc _ _ _))⟩)))
                            repeat (go_quiet (first | (go_at_call 29; (with_reducible refine (impl_named.calls a0_2 t218 _ A67.out).mono ?_); rintro e w74 ⟨rfl, hb⟩; replace BK208 := Aside0.mk (KB BK208.out hb); replace HB := Aside0.mk (below_step (BB1 HB.out GE208.out) hb); (try clear hb); (try clear hb2); (try clear hk); (try clear hi); have hcz75_0 : w74.cell? ⟨gb208, 0, none⟩ = some (.int .i64 a0_0) := (blk_cell BK208.out 0).trans rfl; have hcz75_1 : w74.cell? ⟨gb208, 1, none⟩ = some (.string a0_1) := (blk_cell BK208.out 1).trans rfl; have hcz75_2 : w74.cell? ⟨gb208, 2, none⟩ = some (.string a0_2) := (blk_cell BK208.out 2).trans rfl; have hcz75_3 : w74.cell? ⟨gb208, 3, none⟩ = some (.int .i64 a0_3) := (blk_cell BK208.out 3).trans rfl; have hcz75_4 : w74.cell? ⟨gb208, 4, none⟩ = some (.int .i64 a0_4) := (blk_cell BK208.out 4).trans rfl; have hfz75_0 := blk_frozen BK208.out 0; have hfz75_1 := blk_frozen BK208.out 1; have hfz75_2 := blk_frozen BK208.out 2; have hfz75_3 := blk_frozen BK208.out 3; have hfz75_4 := blk_frozen BK208.out 4) | (go_at_call 30; (with_reducible refine (impl_within.calls a0_0 1 10 true _ A68.out).mono ?_); rintro e w' ⟨rfl, ⟨nd, rfl⟩⟩; (try first | exact ⟨rfl, _, World.drewN_drewN _ _ _⟩ | exact ⟨rfl, _, Eq.trans (World.drewN_drewN _ _ _) (congrArg (World.drewN _) (Nat.add_assoc _ _ _))⟩))); try go_wp2_with (first | (go_at_call 29; (with_reducible refine (impl_named.calls a0_2 t218 _ A67.out).mono ?_); rintro e w74 ⟨rfl, hb⟩; replace BK208 := Aside0.mk (KB BK208.out hb); replace HB := Aside0.mk (below_step (BB1 HB.out GE208.out) hb); (try clear hb); (try clear hb2); (try clear hk); (try clear hi); have hcz75_0 : w74.cell? ⟨gb208, 0, none⟩ = some (.int .i64 a0_0) := (blk_cell BK208.out 0).trans rfl; have hcz75_1 : w74.cell? ⟨gb208, 1, none⟩ = some (.string a0_1) := (blk_cell BK208.out 1).trans rfl; have hcz75_2 : w74.cell? ⟨gb208, 2, none⟩ = some (.string a0_2) := (blk_cell BK208.out 2).trans rfl; have hcz75_3 : w74.cell? ⟨gb208, 3, none⟩ = some (.int .i64 a0_3) := (blk_cell BK208.out 3).trans rfl; have hcz75_4 : w74.cell? ⟨gb208, 4, none⟩ = some (.int .i64 a0_4) := (blk_cell BK208.out 4).trans rfl; have hfz75_0 := blk_frozen BK208.out 0; have hfz75_1 := blk_frozen BK208.out 1; have hfz75_2 := blk_frozen BK208.out 2; have hfz75_3 := blk_frozen BK208.out 3; have hfz75_4 := blk_frozen BK208.out 4) | (go_at_call 30; (with_reducible refine (impl_within.calls a0_0 1 10 true _ A68.out).mono ?_); rintro e w' ⟨rfl, ⟨nd, rfl⟩⟩; (try first | exact ⟨rfl, _, World.drewN_drewN _ _ _⟩ | exact ⟨rfl, _, Eq.trans (World.drewN_drewN _ _ _) (congrArg (World.drewN _) (Nat.add_assoc _ _ _))⟩))))
                            go_ret
                            exact ⟨ER, (BB1 HB.out GE208.out)⟩
                          · rw [if_neg c72] at H
                            have c72b0 : (a0_4 == 0) = false := by simpa using c72
                            (try (have c72b1 : decide (a0_4 = 0) = false := by simpa using c72))
                            (try (have c72b2 : (a0_4 == 0) = false := by simpa using c72))
                            (try (have c72b3 : ¬ (a0_4 = 0) := by simpa using c72))
                            clear c72
                            obtain rfl := Option.some.inj H
                            have hcz76_0 : wc.cell? ⟨gb208, 0, none⟩ = some (.int .i64 a0_0) := (blk_cell BK208.out 0).trans rfl
                            have hcz76_1 : wc.cell? ⟨gb208, 1, none⟩ = some (.string a0_1) := (blk_cell BK208.out 1).trans rfl
                            have hcz76_2 : wc.cell? ⟨gb208, 2, none⟩ = some (.string a0_2) := (blk_cell BK208.out 2).trans rfl
                            have hcz76_3 : wc.cell? ⟨gb208, 3, none⟩ = some (.int .i64 a0_3) := (blk_cell BK208.out 3).trans rfl
                            have hcz76_4 : wc.cell? ⟨gb208, 4, none⟩ = some (.int .i64 a0_4) := (blk_cell BK208.out 4).trans rfl
                            have hfz76_0 := blk_frozen BK208.out 0
                            have hfz76_1 := blk_frozen BK208.out 1
                            have hfz76_2 := blk_frozen BK208.out 2
                            have hfz76_3 := blk_frozen BK208.out 3
                            have hfz76_4 := blk_frozen BK208.out 4
                            go_wp2_with (first | (go_at_call 29; (with_reducible refine (impl_named.calls a0_2 t218 _ A67.out).mono ?_); rintro e w77 ⟨rfl, hb⟩; replace BK208 := Aside0.mk (KB BK208.out hb); replace HB := Aside0.mk (below_step (BB1 HB.out GE208.out) hb); (try clear hb); (try clear hb2); (try clear hk); (try clear hi); have hcz78_0 : w77.cell? ⟨gb208, 0, none⟩ = some (.int .i64 a0_0) := (blk_cell BK208.out 0).trans rfl; have hcz78_1 : w77.cell? ⟨gb208, 1, none⟩ = some (.string a0_1) := (blk_cell BK208.out 1).trans rfl; have hcz78_2 : w77.cell? ⟨gb208, 2, none⟩ = some (.string a0_2) := (blk_cell BK208.out 2).trans rfl; have hcz78_3 : w77.cell? ⟨gb208, 3, none⟩ = some (.int .i64 a0_3) := (blk_cell BK208.out 3).trans rfl; have hcz78_4 : w77.cell? ⟨gb208, 4, none⟩ = some (.int .i64 a0_4) := (blk_cell BK208.out 4).trans rfl; have hfz78_0 := blk_frozen BK208.out 0; have hfz78_1 := blk_frozen BK208.out 1; have hfz78_2 := blk_frozen BK208.out 2; have hfz78_3 := blk_frozen BK208.out 3; have hfz78_4 := blk_frozen BK208.out 4) | (go_at_call 30; (with_reducible refine (impl_within.calls a0_0 1 10 true _ A68.out).mono ?_); rintro e w' ⟨rfl, ⟨nd, rfl⟩⟩; (try first | exact ⟨rfl, _, World.drewN_drewN _ _ _⟩ | exact ⟨rfl, _, Eq.trans (World.drewN_drewN _ _ _) (congrArg (World.drewN _) (Nat.add_assoc _ _ _))⟩)))
                            repeat (go_quiet (first | (go_at_call 29; (with_reducible refine (impl_named.calls a0_2 t218 _ A67.out).mono ?_); rintro e w77 ⟨rfl, hb⟩; replace BK208 := Aside0.mk (KB BK208.out hb); replace HB := Aside0.mk (below_step (BB1 HB.out GE208.out) hb); (try clear hb); (try clear hb2); (try clear hk); (try clear hi); have hcz78_0 : w77.cell? ⟨gb208, 0, none⟩ = some (.int .i64 a0_0) := (blk_cell BK208.out 0).trans rfl; have hcz78_1 : w77.cell? ⟨gb208, 1, none⟩ = some (.string a0_1) := (blk_cell BK208.out 1).trans rfl; have hcz78_2 : w77.cell? ⟨gb208, 2, none⟩ = some (.string a0_2) := (blk_cell BK208.out 2).trans rfl; have hcz78_3 : w77.cell? ⟨gb208, 3, none⟩ = some (.int .i64 a0_3) := (blk_cell BK208.out 3).trans rfl; have hcz78_4 : w77.cell? ⟨gb208, 4, none⟩ = some (.int .i64 a0_4) := (blk_cell BK208.out 4).trans rfl; have hfz78_0 := blk_frozen BK208.out 0; have hfz78_1 := blk_frozen BK208.out 1; have hfz78_2 := blk_frozen BK208.out 2; have hfz78_3 := blk_frozen BK208.out 3; have hfz78_4 := blk_frozen BK208.out 4) | (go_at_call 30; (with_reducible refine (impl_within.calls a0_0 1 10 true _ A68.out).mono ?_); rintro e w' ⟨rfl, ⟨nd, rfl⟩⟩; (try first | exact ⟨rfl, _, World.drewN_drewN _ _ _⟩ | exact ⟨rfl, _, Eq.trans (World.drewN_drewN _ _ _) (congrArg (World.drewN _) (Nat.add_assoc _ _ _))⟩))); try go_wp2_with (first | (go_at_call 29; (with_reducible refine (impl_named.calls a0_2 t218 _ A67.out).mono ?_); rintro e w77 ⟨rfl, hb⟩; replace BK208 := Aside0.mk (KB BK208.out hb); replace HB := Aside0.mk (below_step (BB1 HB.out GE208.out) hb); (try clear hb); (try clear hb2); (try clear hk); (try clear hi); have hcz78_0 : w77.cell? ⟨gb208, 0, none⟩ = some (.int .i64 a0_0) := (blk_cell BK208.out 0).trans rfl; have hcz78_1 : w77.cell? ⟨gb208, 1, none⟩ = some (.string a0_1) := (blk_cell BK208.out 1).trans rfl; have hcz78_2 : w77.cell? ⟨gb208, 2, none⟩ = some (.string a0_2) := (blk_cell BK208.out 2).trans rfl; have hcz78_3 : w77.cell? ⟨gb208, 3, none⟩ = some (.int .i64 a0_3) := (blk_cell BK208.out 3).trans rfl; have hcz78_4 : w77.cell? ⟨gb208, 4, none⟩ = some (.int .i64 a0_4) := (blk_cell BK208.out 4).trans rfl; have hfz78_0 := blk_frozen BK208.out 0; have hfz78_1 := blk_frozen BK208.out 1; have hfz78_2 := blk_frozen BK208.out 2; have hfz78_3 := blk_frozen BK208.out 3; have hfz78_4 := blk_frozen BK208.out 4) | (go_at_call 30; (with_reducible refine (impl_within.calls a0_0 1 10 true _ A68.out).mono ?_); rintro e w' ⟨rfl, ⟨nd, rfl⟩⟩; (try first | exact ⟨rfl, _, World.drewN_drewN _ _ _⟩ | exact ⟨rfl, _, Eq.trans (World.drewN_drewN _ _ _) (congrArg (World.drewN _) (Nat.add_assoc _ _ _))⟩))))
                            go_ret
                            exact ⟨ER, (BB1 HB.out GE208.out)⟩
                        · rw [if_neg c71] at H
                          have c71b0 : (a0_3 == 0) = false := by simpa using c71
                          (try (have c71b1 : decide (a0_3 = 0) = false := by simpa using c71))
                          (try (have c71b2 : (a0_3 == 0) = false := by simpa using c71))
                          (try (have c71b3 : ¬ (a0_3 = 0) := by simpa using c71))
                          clear c71
                          obtain rfl := Option.some.inj H
                          have hcz79_0 : wc.cell? ⟨gb208, 0, none⟩ = some (.int .i64 a0_0) := (blk_cell BK208.out 0).trans rfl
                          have hcz79_1 : wc.cell? ⟨gb208, 1, none⟩ = some (.string a0_1) := (blk_cell BK208.out 1).trans rfl
                          have hcz79_2 : wc.cell? ⟨gb208, 2, none⟩ = some (.string a0_2) := (blk_cell BK208.out 2).trans rfl
                          have hcz79_3 : wc.cell? ⟨gb208, 3, none⟩ = some (.int .i64 a0_3) := (blk_cell BK208.out 3).trans rfl
                          have hcz79_4 : wc.cell? ⟨gb208, 4, none⟩ = some (.int .i64 a0_4) := (blk_cell BK208.out 4).trans rfl
                          have hfz79_0 := blk_frozen BK208.out 0
                          have hfz79_1 := blk_frozen BK208.out 1
                          have hfz79_2 := blk_frozen BK208.out 2
                          have hfz79_3 := blk_frozen BK208.out 3
                          have hfz79_4 := blk_frozen BK208.out 4
                          go_wp2_with (first | (go_at_call 29; (with_reducible refine (impl_named.calls a0_2 t218 _ A67.out).mono ?_); rintro e w80 ⟨rfl, hb⟩; replace BK208 := Aside0.mk (KB BK208.out hb); replace HB := Aside0.mk (below_step (BB1 HB.out GE208.out) hb); (try clear hb); (try clear hb2); (try clear hk); (try clear hi); have hcz81_0 : w80.cell? ⟨gb208, 0, none⟩ = some (.int .i64 a0_0) := (blk_cell BK208.out 0).trans rfl; have hcz81_1 : w80.cell? ⟨gb208, 1, none⟩ = some (.string a0_1) := (blk_cell BK208.out 1).trans rfl; have hcz81_2 : w80.cell? ⟨gb208, 2, none⟩ = some (.string a0_2) := (blk_cell BK208.out 2).trans rfl; have hcz81_3 : w80.cell? ⟨gb208, 3, none⟩ = some (.int .i64 a0_3) := (blk_cell BK208.out 3).trans rfl; have hcz81_4 : w80.cell? ⟨gb208, 4, none⟩ = some (.int .i64 a0_4) := (blk_cell BK208.out 4).trans rfl; have hfz81_0 := blk_frozen BK208.out 0; have hfz81_1 := blk_frozen BK208.out 1; have hfz81_2 := blk_frozen BK208.out 2; have hfz81_3 := blk_frozen BK208.out 3; have hfz81_4 := blk_frozen BK208.out 4) | (go_at_call 30; (with_reducible refine (impl_within.calls a0_0 1 10 true _ A68.out).mono ?_); rintro e w' ⟨rfl, ⟨nd, rfl⟩⟩; (try first | exact ⟨rfl, _, World.drewN_drewN _ _ _⟩ | exact ⟨rfl, _, Eq.trans (World.drewN_drewN _ _ _) (congrArg (World.drewN _) (Nat.add_assoc _ _ _))⟩)))
                          repeat (go_quiet (first | (go_at_call 29; (with_reducible refine (impl_named.calls a0_2 t218 _ A67.out).mono ?_); rintro e w80 ⟨rfl, hb⟩; replace BK208 := Aside0.mk (KB BK208.out hb); replace HB := Aside0.mk (below_step (BB1 HB.out GE208.out) hb); (try clear hb); (try clear hb2); (try clear hk); (try clear hi); have hcz81_0 : w80.cell? ⟨gb208, 0, none⟩ = some (.int .i64 a0_0) := (blk_cell BK208.out 0).trans rfl; have hcz81_1 : w80.cell? ⟨gb208, 1, none⟩ = some (.string a0_1) := (blk_cell BK208.out 1).trans rfl; have hcz81_2 : w80.cell? ⟨gb208, 2, none⟩ = some (.string a0_2) := (blk_cell BK208.out 2).trans rfl; have hcz81_3 : w80.cell? ⟨gb208, 3, none⟩ = some (.int .i64 a0_3) := (blk_cell BK208.out 3).trans rfl; have hcz81_4 : w80.cell? ⟨gb208, 4, none⟩ = some (.int .i64 a0_4) := (blk_cell BK208.out 4).trans rfl; have hfz81_0 := blk_frozen BK208.out 0; have hfz81_1 := blk_frozen BK208.out 1; have hfz81_2 := blk_frozen BK208.out 2; have hfz81_3 := blk_frozen BK208.out 3; have hfz81_4 := blk_frozen BK208.out 4) | (go_at_call 30; (with_reducible refine (impl_within.calls a0_0 1 10 true _ A68.out).mono ?_); rintro e w' ⟨rfl, ⟨nd, rfl⟩⟩; (try first | exact ⟨rfl, _, World.drewN_drewN _ _ _⟩ | exact ⟨rfl, _, Eq.trans (World.drewN_drewN _ _ _) (congrArg (World.drewN _) (Nat.add_assoc _ _ _))⟩))); try go_wp2_with (first | (go_at_call 29; (with_reducible refine (impl_named.calls a0_2 t218 _ A67.out).mono ?_); rintro e w80 ⟨rfl, hb⟩; replace BK208 := Aside0.mk (KB BK208.out hb); replace HB := Aside0.mk (below_step (BB1 HB.out GE208.out) hb); (try clear hb); (try clear hb2); (try clear hk); (try clear hi); have hcz81_0 : w80.cell? ⟨gb208, 0, none⟩ = some (.int .i64 a0_0) := (blk_cell BK208.out 0).trans rfl; have hcz81_1 : w80.cell? ⟨gb208, 1, none⟩ = some (.string a0_1) := (blk_cell BK208.out 1).trans rfl; have hcz81_2 : w80.cell? ⟨gb208, 2, none⟩ = some (.string a0_2) := (blk_cell BK208.out 2).trans rfl; have hcz81_3 : w80.cell? ⟨gb208, 3, none⟩ = some (.int .i64 a0_3) := (blk_cell BK208.out 3).trans rfl; have hcz81_4 : w80.cell? ⟨gb208, 4, none⟩ = some (.int .i64 a0_4) := (blk_cell BK208.out 4).trans rfl; have hfz81_0 := blk_frozen BK208.out 0; have hfz81_1 := blk_frozen BK208.out 1; have hfz81_2 := blk_frozen BK208.out 2; have hfz81_3 := blk_frozen BK208.out 3; have hfz81_4 := blk_frozen BK208.out 4) | (go_at_call 30; (with_reducible refine (impl_within.calls a0_0 1 10 true _ A68.out).mono ?_); rintro e w' ⟨rfl, ⟨nd, rfl⟩⟩; (try first | exact ⟨rfl, _, World.drewN_drewN _ _ _⟩ | exact ⟨rfl, _, Eq.trans (World.drewN_drewN _ _ _) (congrArg (World.drewN _) (Nat.add_assoc _ _ _))⟩))))
                          go_ret
                          exact ⟨ER, (BB1 HB.out GE208.out)⟩
                      · replace c70 := Bool.eq_false_iff.mpr c70
                        subst c70
                        have H1 : (some false) = some r := by rw [if_neg (show ¬ (false = true) by decide)] at H; exact H
                        clear H
                        have H := H1
                        clear H1
                        obtain rfl := Option.some.inj H
                        have hcz82_0 : wc.cell? ⟨gb208, 0, none⟩ = some (.int .i64 a0_0) := (blk_cell BK208.out 0).trans rfl
                        have hcz82_1 : wc.cell? ⟨gb208, 1, none⟩ = some (.string a0_1) := (blk_cell BK208.out 1).trans rfl
                        have hcz82_2 : wc.cell? ⟨gb208, 2, none⟩ = some (.string a0_2) := (blk_cell BK208.out 2).trans rfl
                        have hcz82_3 : wc.cell? ⟨gb208, 3, none⟩ = some (.int .i64 a0_3) := (blk_cell BK208.out 3).trans rfl
                        have hcz82_4 : wc.cell? ⟨gb208, 4, none⟩ = some (.int .i64 a0_4) := (blk_cell BK208.out 4).trans rfl
                        have hfz82_0 := blk_frozen BK208.out 0
                        have hfz82_1 := blk_frozen BK208.out 1
                        have hfz82_2 := blk_frozen BK208.out 2
                        have hfz82_3 := blk_frozen BK208.out 3
                        have hfz82_4 := blk_frozen BK208.out 4
                        go_wp2_with (first | (go_at_call 29; (with_reducible refine (impl_named.calls a0_2 t218 _ A67.out).mono ?_); rintro e w83 ⟨rfl, hb⟩; replace BK208 := Aside0.mk (KB BK208.out hb); replace HB := Aside0.mk (below_step (BB1 HB.out GE208.out) hb); (try clear hb); (try clear hb2); (try clear hk); (try clear hi); have hcz84_0 : w83.cell? ⟨gb208, 0, none⟩ = some (.int .i64 a0_0) := (blk_cell BK208.out 0).trans rfl; have hcz84_1 : w83.cell? ⟨gb208, 1, none⟩ = some (.string a0_1) := (blk_cell BK208.out 1).trans rfl; have hcz84_2 : w83.cell? ⟨gb208, 2, none⟩ = some (.string a0_2) := (blk_cell BK208.out 2).trans rfl; have hcz84_3 : w83.cell? ⟨gb208, 3, none⟩ = some (.int .i64 a0_3) := (blk_cell BK208.out 3).trans rfl; have hcz84_4 : w83.cell? ⟨gb208, 4, none⟩ = some (.int .i64 a0_4) := (blk_cell BK208.out 4).trans rfl; have hfz84_0 := blk_frozen BK208.out 0; have hfz84_1 := blk_frozen BK208.out 1; have hfz84_2 := blk_frozen BK208.out 2; have hfz84_3 := blk_frozen BK208.out 3; have hfz84_4 := blk_frozen BK208.out 4) | (go_at_call 30; (with_reducible refine (impl_within.calls a0_0 1 10 true _ A68.out).mono ?_); rintro e w' ⟨rfl, ⟨nd, rfl⟩⟩; (try first | exact ⟨rfl, _, World.drewN_drewN _ _ _⟩ | exact ⟨rfl, _, Eq.trans (World.drewN_drewN _ _ _) (congrArg (World.drewN _) (Nat.add_assoc _ _ _))⟩)))
                        repeat (go_quiet (first | (go_at_call 29; (with_reducible refine (impl_named.calls a0_2 t218 _ A67.out).mono ?_); rintro e w83 ⟨rfl, hb⟩; replace BK208 := Aside0.mk (KB BK208.out hb); replace HB := Aside0.mk (below_step (BB1 HB.out GE208.out) hb); (try clear hb); (try clear hb2); (try clear hk); (try clear hi); have hcz84_0 : w83.cell? ⟨gb208, 0, none⟩ = some (.int .i64 a0_0) := (blk_cell BK208.out 0).trans rfl; have hcz84_1 : w83.cell? ⟨gb208, 1, none⟩ = some (.string a0_1) := (blk_cell BK208.out 1).trans rfl; have hcz84_2 : w83.cell? ⟨gb208, 2, none⟩ = some (.string a0_2) := (blk_cell BK208.out 2).trans rfl; have hcz84_3 : w83.cell? ⟨gb208, 3, none⟩ = some (.int .i64 a0_3) := (blk_cell BK208.out 3).trans rfl; have hcz84_4 : w83.cell? ⟨gb208, 4, none⟩ = some (.int .i64 a0_4) := (blk_cell BK208.out 4).trans rfl; have hfz84_0 := blk_frozen BK208.out 0; have hfz84_1 := blk_frozen BK208.out 1; have hfz84_2 := blk_frozen BK208.out 2; have hfz84_3 := blk_frozen BK208.out 3; have hfz84_4 := blk_frozen BK208.out 4) | (go_at_call 30; (with_reducible refine (impl_within.calls a0_0 1 10 true _ A68.out).mono ?_); rintro e w' ⟨rfl, ⟨nd, rfl⟩⟩; (try first | exact ⟨rfl, _, World.drewN_drewN _ _ _⟩ | exact ⟨rfl, _, Eq.trans (World.drewN_drewN _ _ _) (congrArg (World.drewN _) (Nat.add_assoc _ _ _))⟩))); try go_wp2_with (first | (go_at_call 29; (with_reducible refine (impl_named.calls a0_2 t218 _ A67.out).mono ?_); rintro e w83 ⟨rfl, hb⟩; replace BK208 := Aside0.mk (KB BK208.out hb); replace HB := Aside0.mk (below_step (BB1 HB.out GE208.out) hb); (try clear hb); (try clear hb2); (try clear hk); (try clear hi); have hcz84_0 : w83.cell? ⟨gb208, 0, none⟩ = some (.int .i64 a0_0) := (blk_cell BK208.out 0).trans rfl; have hcz84_1 : w83.cell? ⟨gb208, 1, none⟩ = some (.string a0_1) := (blk_cell BK208.out 1).trans rfl; have hcz84_2 : w83.cell? ⟨gb208, 2, none⟩ = some (.string a0_2) := (blk_cell BK208.out 2).trans rfl; have hcz84_3 : w83.cell? ⟨gb208, 3, none⟩ = some (.int .i64 a0_3) := (blk_cell BK208.out 3).trans rfl; have hcz84_4 : w83.cell? ⟨gb208, 4, none⟩ = some (.int .i64 a0_4) := (blk_cell BK208.out 4).trans rfl; have hfz84_0 := blk_frozen BK208.out 0; have hfz84_1 := blk_frozen BK208.out 1; have hfz84_2 := blk_frozen BK208.out 2; have hfz84_3 := blk_frozen BK208.out 3; have hfz84_4 := blk_frozen BK208.out 4) | (go_at_call 30; (with_reducible refine (impl_within.calls a0_0 1 10 true _ A68.out).mono ?_); rintro e w' ⟨rfl, ⟨nd, rfl⟩⟩; (try first | exact ⟨rfl, _, World.drewN_drewN _ _ _⟩ | exact ⟨rfl, _, Eq.trans (World.drewN_drewN _ _ _) (congrArg (World.drewN _) (Nat.add_assoc _ _ _))⟩))))
                        go_ret
                        exact ⟨ER, (BB1 HB.out GE208.out)⟩
                    · replace c69 := Bool.eq_false_iff.mpr c69
                      subst c69
                      have H1 : (some false) = some r := by rw [if_neg (show ¬ (false = true) by decide)] at H; exact H
                      clear H
                      have H := H1
                      clear H1
                      obtain rfl := Option.some.inj H
                      have hcz85_0 : wc.cell? ⟨gb208, 0, none⟩ = some (.int .i64 a0_0) := (blk_cell BK208.out 0).trans rfl
                      have hcz85_1 : wc.cell? ⟨gb208, 1, none⟩ = some (.string a0_1) := (blk_cell BK208.out 1).trans rfl
                      have hcz85_2 : wc.cell? ⟨gb208, 2, none⟩ = some (.string a0_2) := (blk_cell BK208.out 2).trans rfl
                      have hcz85_3 : wc.cell? ⟨gb208, 3, none⟩ = some (.int .i64 a0_3) := (blk_cell BK208.out 3).trans rfl
                      have hcz85_4 : wc.cell? ⟨gb208, 4, none⟩ = some (.int .i64 a0_4) := (blk_cell BK208.out 4).trans rfl
                      have hfz85_0 := blk_frozen BK208.out 0
                      have hfz85_1 := blk_frozen BK208.out 1
                      have hfz85_2 := blk_frozen BK208.out 2
                      have hfz85_3 := blk_frozen BK208.out 3
                      have hfz85_4 := blk_frozen BK208.out 4
                      go_wp2_with (first | (go_at_call 29; (with_reducible refine (impl_named.calls a0_2 t218 _ A67.out).mono ?_); rintro e w86 ⟨rfl, hb⟩; replace BK208 := Aside0.mk (KB BK208.out hb); replace HB := Aside0.mk (below_step (BB1 HB.out GE208.out) hb); (try clear hb); (try clear hb2); (try clear hk); (try clear hi); have hcz87_0 : w86.cell? ⟨gb208, 0, none⟩ = some (.int .i64 a0_0) := (blk_cell BK208.out 0).trans rfl; have hcz87_1 : w86.cell? ⟨gb208, 1, none⟩ = some (.string a0_1) := (blk_cell BK208.out 1).trans rfl; have hcz87_2 : w86.cell? ⟨gb208, 2, none⟩ = some (.string a0_2) := (blk_cell BK208.out 2).trans rfl; have hcz87_3 : w86.cell? ⟨gb208, 3, none⟩ = some (.int .i64 a0_3) := (blk_cell BK208.out 3).trans rfl; have hcz87_4 : w86.cell? ⟨gb208, 4, none⟩ = some (.int .i64 a0_4) := (blk_cell BK208.out 4).trans rfl; have hfz87_0 := blk_frozen BK208.out 0; have hfz87_1 := blk_frozen BK208.out 1; have hfz87_2 := blk_frozen BK208.out 2; have hfz87_3 := blk_frozen BK208.out 3; have hfz87_4 := blk_frozen BK208.out 4) | (go_at_call 30; (with_reducible refine (impl_within.calls a0_0 1 10 false _ A68.out).mono ?_); rintro e w' ⟨rfl, ⟨nd, rfl⟩⟩; (try first | exact ⟨rfl, _, World.drewN_drewN _ _ _⟩ | exact ⟨rfl, _, Eq.trans (World.drewN_drewN _ _ _) (congrArg (World.drewN _) (Nat.add_assoc _ _ _))⟩)))
                      repeat (go_quiet (first | (go_at_call 29; (with_reducible refine (impl_named.calls a0_2 t218 _ A67.out).mono ?_); rintro e w86 ⟨rfl, hb⟩; replace BK208 := Aside0.mk (KB BK208.out hb); replace HB := Aside0.mk (below_step (BB1 HB.out GE208.out) hb); (try clear hb); (try clear hb2); (try clear hk); (try clear hi); have hcz87_0 : w86.cell? ⟨gb208, 0, none⟩ = some (.int .i64 a0_0) := (blk_cell BK208.out 0).trans rfl; have hcz87_1 : w86.cell? ⟨gb208, 1, none⟩ = some (.string a0_1) := (blk_cell BK208.out 1).trans rfl; have hcz87_2 : w86.cell? ⟨gb208, 2, none⟩ = some (.string a0_2) := (blk_cell BK208.out 2).trans rfl; have hcz87_3 : w86.cell? ⟨gb208, 3, none⟩ = some (.int .i64 a0_3) := (blk_cell BK208.out 3).trans rfl; have hcz87_4 : w86.cell? ⟨gb208, 4, none⟩ = some (.int .i64 a0_4) := (blk_cell BK208.out 4).trans rfl; have hfz87_0 := blk_frozen BK208.out 0; have hfz87_1 := blk_frozen BK208.out 1; have hfz87_2 := blk_frozen BK208.out 2; have hfz87_3 := blk_frozen BK208.out 3; have hfz87_4 := blk_frozen BK208.out 4) | (go_at_call 30; (with_reducible refine (impl_within.calls a0_0 1 10 false _ A68.out).mono ?_); rintro e w' ⟨rfl, ⟨nd, rfl⟩⟩; (try first | exact ⟨rfl, _, World.drewN_drewN _ _ _⟩ | exact ⟨rfl, _, Eq.trans (World.drewN_drewN _ _ _) (congrArg (World.drewN _) (Nat.add_assoc _ _ _))⟩))); try go_wp2_with (first | (go_at_call 29; (with_reducible refine (impl_named.calls a0_2 t218 _ A67.out).mono ?_); rintro e w86 ⟨rfl, hb⟩; replace BK208 := Aside0.mk (KB BK208.out hb); replace HB := Aside0.mk (below_step (BB1 HB.out GE208.out) hb); (try clear hb); (try clear hb2); (try clear hk); (try clear hi); have hcz87_0 : w86.cell? ⟨gb208, 0, none⟩ = some (.int .i64 a0_0) := (blk_cell BK208.out 0).trans rfl; have hcz87_1 : w86.cell? ⟨gb208, 1, none⟩ = some (.string a0_1) := (blk_cell BK208.out 1).trans rfl; have hcz87_2 : w86.cell? ⟨gb208, 2, none⟩ = some (.string a0_2) := (blk_cell BK208.out 2).trans rfl; have hcz87_3 : w86.cell? ⟨gb208, 3, none⟩ = some (.int .i64 a0_3) := (blk_cell BK208.out 3).trans rfl; have hcz87_4 : w86.cell? ⟨gb208, 4, none⟩ = some (.int .i64 a0_4) := (blk_cell BK208.out 4).trans rfl; have hfz87_0 := blk_frozen BK208.out 0; have hfz87_1 := blk_frozen BK208.out 1; have hfz87_2 := blk_frozen BK208.out 2; have hfz87_3 := blk_frozen BK208.out 3; have hfz87_4 := blk_frozen BK208.out 4) | (go_at_call 30; (with_reducible refine (impl_within.calls a0_0 1 10 false _ A68.out).mono ?_); rintro e w' ⟨rfl, ⟨nd, rfl⟩⟩; (try first | exact ⟨rfl, _, World.drewN_drewN _ _ _⟩ | exact ⟨rfl, _, Eq.trans (World.drewN_drewN _ _ _) (congrArg (World.drewN _) (Nat.add_assoc _ _ _))⟩))))
                      go_ret
                      exact ⟨ER, (BB1 HB.out GE208.out)⟩
                  · rw [if_neg c66] at H
                    have c66b0 : (a0_0 == 3) = false := beq_eq_false_iff_ne.mpr c66
                    have c66b1 : (a0_0 != 3) = true := bne_iff_ne.mpr c66
                    replace H := Option.bind_eq_some_iff.mp H
                    obtain ⟨t220, A880, H⟩ := H
                    replace H : (if t220 = true then (if x3_2 = true then (if (a0_3 == 0) = true then (if (a0_4 == 0) = true then (some (a0_2.toList == ([] : List UInt8))) else (some false)) else (some false)) else (some false)) else (some false)) = some r := H
                    have A88 := Aside0.mk A880
                    clear A880
                    by_cases c89 : t220 = true
                    · subst c89
                      have H1 : (if x3_2 = true then (if (a0_3 == 0) = true then (if (a0_4 == 0) = true then (some (a0_2.toList == ([] : List UInt8))) else (some false)) else (some false)) else (some false)) = some r := by rw [if_pos rfl] at H; exact H
                      clear H
                      have H := H1
                      clear H1
                      by_cases c90 : x3_2 = true
                      · subst c90
                        have H1 : (if (a0_3 == 0) = true then (if (a0_4 == 0) = true then (some (a0_2.toList == ([] : List UInt8))) else (some false)) else (some false)) = some r := by rw [if_pos rfl] at H; exact H
                        clear H
                        have H := H1
                        clear H1
                        by_cases c91 : (a0_3 == 0) = true
                        · rw [if_pos c91] at H
                          have c91b0 : (a0_3 == 0) = true := c91
                          (try (have c91b1 : decide (a0_3 = 0) = true := by simpa using c91))
                          (try (have c91b2 : (a0_3 == 0) = true := by simpa using c91))
                          clear c91
                          by_cases c92 : (a0_4 == 0) = true
                          · rw [if_pos c92] at H
                            have c92b0 : (a0_4 == 0) = true := c92
                            (try (have c92b1 : decide (a0_4 = 0) = true := by simpa using c92))
                            (try (have c92b2 : (a0_4 == 0) = true := by simpa using c92))
                            clear c92
                            obtain rfl := Option.some.inj H
                            have hcz93_0 : wc.cell? ⟨gb208, 0, none⟩ = some (.int .i64 a0_0) := (blk_cell BK208.out 0).trans rfl
                            have hcz93_1 : wc.cell? ⟨gb208, 1, none⟩ = some (.string a0_1) := (blk_cell BK208.out 1).trans rfl
                            have hcz93_2 : wc.cell? ⟨gb208, 2, none⟩ = some (.string a0_2) := (blk_cell BK208.out 2).trans rfl
                            have hcz93_3 : wc.cell? ⟨gb208, 3, none⟩ = some (.int .i64 a0_3) := (blk_cell BK208.out 3).trans rfl
                            have hcz93_4 : wc.cell? ⟨gb208, 4, none⟩ = some (.int .i64 a0_4) := (blk_cell BK208.out 4).trans rfl
                            have hfz93_0 := blk_frozen BK208.out 0
                            have hfz93_1 := blk_frozen BK208.out 1
                            have hfz93_2 := blk_frozen BK208.out 2
                            have hfz93_3 := blk_frozen BK208.out 3
                            have hfz93_4 := blk_frozen BK208.out 4
                            go_wp2_with (first | (go_at_call 30; (with_reducible refine (impl_within.calls a0_0 1 10 true _ A88.out).mono ?_); rintro e w' ⟨rfl, ⟨nd, rfl⟩⟩; (try first | exact ⟨rfl, _, World.drewN_drewN _ _ _⟩ | exact ⟨rfl, _, Eq.trans (World.drewN_drewN _ _ _) (congrArg (World.drewN _) (Nat.add_assoc _ _ _))⟩)))
                            repeat (go_quiet (first | (go_at_call 30; (with_reducible refine (impl_within.calls a0_0 1 10 true _ A88.out).mono ?_); rintro e w' ⟨rfl, ⟨nd, rfl⟩⟩; (try first | exact ⟨rfl, _, World.drewN_drewN _ _ _⟩ | exact ⟨rfl, _, Eq.trans (World.drewN_drewN _ _ _) (congrArg (World.drewN _) (Nat.add_assoc _ _ _))⟩))); try go_wp2_with (first | (go_at_call 30; (with_reducible refine (impl_within.calls a0_0 1 10 true _ A88.out).mono ?_); rintro e w' ⟨rfl, ⟨nd, rfl⟩⟩; (try first | exact ⟨rfl, _, World.drewN_drewN _ _ _⟩ | exact ⟨rfl, _, Eq.trans (World.drewN_drewN _ _ _) (congrArg (World.drewN _) (Nat.add_assoc _ _ _))⟩))))
                            go_ret
                            exact ⟨ER, (BB1 HB.out GE208.out)⟩
                          · rw [if_neg c92] at H
                            have c92b0 : (a0_4 == 0) = false := by simpa using c92
                            (try (have c92b1 : decide (a0_4 = 0) = false := by simpa using c92))
                            (try (have c92b2 : (a0_4 == 0) = false := by simpa using c92))
                            (try (have c92b3 : ¬ (a0_4 = 0) := by simpa using c92))
                            clear c92
                            obtain rfl := Option.some.inj H
                            have hcz94_0 : wc.cell? ⟨gb208, 0, none⟩ = some (.int .i64 a0_0) := (blk_cell BK208.out 0).trans rfl
                            have hcz94_1 : wc.cell? ⟨gb208, 1, none⟩ = some (.string a0_1) := (blk_cell BK208.out 1).trans rfl
                            have hcz94_2 : wc.cell? ⟨gb208, 2, none⟩ = some (.string a0_2) := (blk_cell BK208.out 2).trans rfl
                            have hcz94_3 : wc.cell? ⟨gb208, 3, none⟩ = some (.int .i64 a0_3) := (blk_cell BK208.out 3).trans rfl
                            have hcz94_4 : wc.cell? ⟨gb208, 4, none⟩ = some (.int .i64 a0_4) := (blk_cell BK208.out 4).trans rfl
                            have hfz94_0 := blk_frozen BK208.out 0
                            have hfz94_1 := blk_frozen BK208.out 1
                            have hfz94_2 := blk_frozen BK208.out 2
                            have hfz94_3 := blk_frozen BK208.out 3
                            have hfz94_4 := blk_frozen BK208.out 4
                            go_wp2_with (first | (go_at_call 30; (with_reducible refine (impl_within.calls a0_0 1 10 true _ A88.out).mono ?_); rintro e w' ⟨rfl, ⟨nd, rfl⟩⟩; (try first | exact ⟨rfl, _, World.drewN_drewN _ _ _⟩ | exact ⟨rfl, _, Eq.trans (World.drewN_drewN _ _ _) (congrArg (World.drewN _) (Nat.add_assoc _ _ _))⟩)))
                            repeat (go_quiet (first | (go_at_call 30; (with_reducible refine (impl_within.calls a0_0 1 10 true _ A88.out).mono ?_); rintro e w' ⟨rfl, ⟨nd, rfl⟩⟩; (try first | exact ⟨rfl, _, World.drewN_drewN _ _ _⟩ | exact ⟨rfl, _, Eq.trans (World.drewN_drewN _ _ _) (congrArg (World.drewN _) (Nat.add_assoc _ _ _))⟩))); try go_wp2_with (first | (go_at_call 30; (with_reducible refine (impl_within.calls a0_0 1 10 true _ A88.out).mono ?_); rintro e w' ⟨rfl, ⟨nd, rfl⟩⟩; (try first | exact ⟨rfl, _, World.drewN_drewN _ _ _⟩ | exact ⟨rfl, _, Eq.trans (World.drewN_drewN _ _ _) (congrArg (World.drewN _) (Nat.add_assoc _ _ _))⟩))))
                            go_ret
                            exact ⟨ER, (BB1 HB.out GE208.out)⟩
                        · rw [if_neg c91] at H
                          have c91b0 : (a0_3 == 0) = false := by simpa using c91
                          (try (have c91b1 : decide (a0_3 = 0) = false := by simpa using c91))
                          (try (have c91b2 : (a0_3 == 0) = false := by simpa using c91))
                          (try (have c91b3 : ¬ (a0_3 = 0) := by simpa using c91))
                          clear c91
                          obtain rfl := Option.some.inj H
                          have hcz95_0 : wc.cell? ⟨gb208, 0, none⟩ = some (.int .i64 a0_0) := (blk_cell BK208.out 0).trans rfl
                          have hcz95_1 : wc.cell? ⟨gb208, 1, none⟩ = some (.string a0_1) := (blk_cell BK208.out 1).trans rfl
                          have hcz95_2 : wc.cell? ⟨gb208, 2, none⟩ = some (.string a0_2) := (blk_cell BK208.out 2).trans rfl
                          have hcz95_3 : wc.cell? ⟨gb208, 3, none⟩ = some (.int .i64 a0_3) := (blk_cell BK208.out 3).trans rfl
                          have hcz95_4 : wc.cell? ⟨gb208, 4, none⟩ = some (.int .i64 a0_4) := (blk_cell BK208.out 4).trans rfl
                          have hfz95_0 := blk_frozen BK208.out 0
                          have hfz95_1 := blk_frozen BK208.out 1
                          have hfz95_2 := blk_frozen BK208.out 2
                          have hfz95_3 := blk_frozen BK208.out 3
                          have hfz95_4 := blk_frozen BK208.out 4
                          go_wp2_with (first | (go_at_call 30; (with_reducible refine (impl_within.calls a0_0 1 10 true _ A88.out).mono ?_); rintro e w' ⟨rfl, ⟨nd, rfl⟩⟩; (try first | exact ⟨rfl, _, World.drewN_drewN _ _ _⟩ | exact ⟨rfl, _, Eq.trans (World.drewN_drewN _ _ _) (congrArg (World.drewN _) (Nat.add_assoc _ _ _))⟩)))
                          repeat (go_quiet (first | (go_at_call 30; (with_reducible refine (impl_within.calls a0_0 1 10 true _ A88.out).mono ?_); rintro e w' ⟨rfl, ⟨nd, rfl⟩⟩; (try first | exact ⟨rfl, _, World.drewN_drewN _ _ _⟩ | exact ⟨rfl, _, Eq.trans (World.drewN_drewN _ _ _) (congrArg (World.drewN _) (Nat.add_assoc _ _ _))⟩))); try go_wp2_with (first | (go_at_call 30; (with_reducible refine (impl_within.calls a0_0 1 10 true _ A88.out).mono ?_); rintro e w' ⟨rfl, ⟨nd, rfl⟩⟩; (try first | exact ⟨rfl, _, World.drewN_drewN _ _ _⟩ | exact ⟨rfl, _, Eq.trans (World.drewN_drewN _ _ _) (congrArg (World.drewN _) (Nat.add_assoc _ _ _))⟩))))
                          go_ret
                          exact ⟨ER, (BB1 HB.out GE208.out)⟩
                      · replace c90 := Bool.eq_false_iff.mpr c90
                        subst c90
                        have H1 : (some false) = some r := by rw [if_neg (show ¬ (false = true) by decide)] at H; exact H
                        clear H
                        have H := H1
                        clear H1
                        obtain rfl := Option.some.inj H
                        have hcz96_0 : wc.cell? ⟨gb208, 0, none⟩ = some (.int .i64 a0_0) := (blk_cell BK208.out 0).trans rfl
                        have hcz96_1 : wc.cell? ⟨gb208, 1, none⟩ = some (.string a0_1) := (blk_cell BK208.out 1).trans rfl
                        have hcz96_2 : wc.cell? ⟨gb208, 2, none⟩ = some (.string a0_2) := (blk_cell BK208.out 2).trans rfl
                        have hcz96_3 : wc.cell? ⟨gb208, 3, none⟩ = some (.int .i64 a0_3) := (blk_cell BK208.out 3).trans rfl
                        have hcz96_4 : wc.cell? ⟨gb208, 4, none⟩ = some (.int .i64 a0_4) := (blk_cell BK208.out 4).trans rfl
                        have hfz96_0 := blk_frozen BK208.out 0
                        have hfz96_1 := blk_frozen BK208.out 1
                        have hfz96_2 := blk_frozen BK208.out 2
                        have hfz96_3 := blk_frozen BK208.out 3
                        have hfz96_4 := blk_frozen BK208.out 4
                        go_wp2_with (first | (go_at_call 30; (with_reducible refine (impl_within.calls a0_0 1 10 true _ A88.out).mono ?_); rintro e w' ⟨rfl, ⟨nd, rfl⟩⟩; (try first | exact ⟨rfl, _, World.drewN_drewN _ _ _⟩ | exact ⟨rfl, _, Eq.trans (World.drewN_drewN _ _ _) (congrArg (World.drewN _) (Nat.add_assoc _ _ _))⟩)))
                        repeat (go_quiet (first | (go_at_call 30; (with_reducible refine (impl_within.calls a0_0 1 10 true _ A88.out).mono ?_); rintro e w' ⟨rfl, ⟨nd, rfl⟩⟩; (try first | exact ⟨rfl, _, World.drewN_drewN _ _ _⟩ | exact ⟨rfl, _, Eq.trans (World.drewN_drewN _ _ _) (congrArg (World.drewN _) (Nat.add_assoc _ _ _))⟩))); try go_wp2_with (first | (go_at_call 30; (with_reducible refine (impl_within.calls a0_0 1 10 true _ A88.out).mono ?_); rintro e w' ⟨rfl, ⟨nd, rfl⟩⟩; (try first | exact ⟨rfl, _, World.drewN_drewN _ _ _⟩ | exact ⟨rfl, _, Eq.trans (World.drewN_drewN _ _ _) (congrArg (World.drewN _) (Nat.add_assoc _ _ _))⟩))))
                        go_ret
                        exact ⟨ER, (BB1 HB.out GE208.out)⟩
                    · replace c89 := Bool.eq_false_iff.mpr c89
                      subst c89
                      have H1 : (some false) = some r := by rw [if_neg (show ¬ (false = true) by decide)] at H; exact H
                      clear H
                      have H := H1
                      clear H1
                      obtain rfl := Option.some.inj H
                      have hcz97_0 : wc.cell? ⟨gb208, 0, none⟩ = some (.int .i64 a0_0) := (blk_cell BK208.out 0).trans rfl
                      have hcz97_1 : wc.cell? ⟨gb208, 1, none⟩ = some (.string a0_1) := (blk_cell BK208.out 1).trans rfl
                      have hcz97_2 : wc.cell? ⟨gb208, 2, none⟩ = some (.string a0_2) := (blk_cell BK208.out 2).trans rfl
                      have hcz97_3 : wc.cell? ⟨gb208, 3, none⟩ = some (.int .i64 a0_3) := (blk_cell BK208.out 3).trans rfl
                      have hcz97_4 : wc.cell? ⟨gb208, 4, none⟩ = some (.int .i64 a0_4) := (blk_cell BK208.out 4).trans rfl
                      have hfz97_0 := blk_frozen BK208.out 0
                      have hfz97_1 := blk_frozen BK208.out 1
                      have hfz97_2 := blk_frozen BK208.out 2
                      have hfz97_3 := blk_frozen BK208.out 3
                      have hfz97_4 := blk_frozen BK208.out 4
                      go_wp2_with (first | (go_at_call 30; (with_reducible refine (impl_within.calls a0_0 1 10 false _ A88.out).mono ?_); rintro e w' ⟨rfl, ⟨nd, rfl⟩⟩; (try first | exact ⟨rfl, _, World.drewN_drewN _ _ _⟩ | exact ⟨rfl, _, Eq.trans (World.drewN_drewN _ _ _) (congrArg (World.drewN _) (Nat.add_assoc _ _ _))⟩)))
                      repeat (go_quiet (first | (go_at_call 30; (with_reducible refine (impl_within.calls a0_0 1 10 false _ A88.out).mono ?_); rintro e w' ⟨rfl, ⟨nd, rfl⟩⟩; (try first | exact ⟨rfl, _, World.drewN_drewN _ _ _⟩ | exact ⟨rfl, _, Eq.trans (World.drewN_drewN _ _ _) (congrArg (World.drewN _) (Nat.add_assoc _ _ _))⟩))); try go_wp2_with (first | (go_at_call 30; (with_reducible refine (impl_within.calls a0_0 1 10 false _ A88.out).mono ?_); rintro e w' ⟨rfl, ⟨nd, rfl⟩⟩; (try first | exact ⟨rfl, _, World.drewN_drewN _ _ _⟩ | exact ⟨rfl, _, Eq.trans (World.drewN_drewN _ _ _) (congrArg (World.drewN _) (Nat.add_assoc _ _ _))⟩))))
                      go_ret
                      exact ⟨ER, (BB1 HB.out GE208.out)⟩

end Go.Proofs.YtfgnaneajonapaaDoor.Pr
