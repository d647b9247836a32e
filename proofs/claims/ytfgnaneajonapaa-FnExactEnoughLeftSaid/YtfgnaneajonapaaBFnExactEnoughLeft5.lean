/- A part of the proof of the law FnExactEnoughLeft: its texts, one behind the other. -/
import Derived.Shelf.Abstract
import Derived.WalkLawsBesides
import Derived.Test.YtfgnaneajonapaaBFnExactEnoughLeft1
import Derived.Test.YtfgnaneajonapaaBFnExactEnoughLeft2
import Derived.Test.YtfgnaneajonapaaBFnExactEnoughLeft3
import Derived.Test.YtfgnaneajonapaaBFnExactEnoughLeft4
/- Printed out of the translation by this session's pr.py over the kit's print. Lean checks it. -/
namespace Go.Proofs.Ytfgnaneajonapaa.Pr
open Go.RowKit Go.Proofs.YtfgnaneajonapaaW.PrintWords Go.Proofs.YtfgnaneajonapaaW.PrintLast Go.Proofs.YtfgnaneajonapaaW.PrintMore
attribute [local go_sem] max2_int min2_int max_two min_two max_three min_three max_four min_four
set_option linter.unusedVariables false
set_option linter.unusedSimpArgs false

/-! ### spec_EnoughLeft: function 49 -/
mutual
def spec_EnoughLeft.l0 : Nat → Int → Bool → List (S135) → Int → Int → List (S192) → List (S120) → Int → List (S97) → List Int → List ByteArray → List (S168) → List (S135) → Int → Option (Bool)
  | 0, _, _, _, _, _, _, _, _, _, _, _, _, _, _ => none
  | k + 1, x4, x1050000, x1050001, x1050002, x1050003, x1050004, x1050005, x1050006, x1050007, x1050008, x1050009, x1050010, x1051000, x1051001 => if x4 < (x1051000.length : Int) then (if 0 ≤ x4 then ((spec_SchemaOf.f ((rd_T135 x1051000 x4).f4)).bind fun bt1052 => (spec_EnoughLeft.l1 k x4 bt1052.1 0 x1050000 x1050001 x1050002 x1050003 x1050004 x1050005 x1050006 x1050007 x1050008 x1050009 x1050010 x1051000 x1051001)) else (none)) else (some true)
def spec_EnoughLeft.l1 : Nat → Int → Int → Int → Bool → List (S135) → Int → Int → List (S192) → List (S120) → Int → List (S97) → List Int → List ByteArray → List (S168) → List (S135) → Int → Option (Bool)
  | 0, _, _, _, _, _, _, _, _, _, _, _, _, _, _, _, _ => none
  | k + 1, x4, x5, x8, x1050000, x1050001, x1050002, x1050003, x1050004, x1050005, x1050006, x1050007, x1050008, x1050009, x1050010, x1051000, x1051001 => if 0 ≤ x4 then (if x4 < (x1051000.length : Int) then (if x8 < (((rd_T135 x1051000 x4).f7).length : Int) then (if 0 ≤ x8 then ((spec_LeftOf.f k x1050007 ((rd_T135 x1051000 x4).f4) ((rd_T137 ((rd_T135 x1051000 x4).f7) x8).f0)).bind fun t1059 => (if t1059 < x5 then (some false) else (spec_EnoughLeft.l1 k x4 x5 (wrap64 (x8 + 1)) x1050000 x1050001 x1050002 x1050003 x1050004 x1050005 x1050006 x1050007 x1050008 x1050009 x1050010 x1051000 x1051001))) else (none)) else (spec_EnoughLeft.l0 k (wrap64 (x4 + 1)) x1050000 x1050001 x1050002 x1050003 x1050004 x1050005 x1050006 x1050007 x1050008 x1050009 x1050010 x1051000 x1051001)) else (none)) else (none)
end
def spec_EnoughLeft.f (k : Nat) (a0_0 : Bool) (l0_1 : List (S135)) (a0_2 : Int) (a0_3 : Int) (l0_4 : List (S192)) (l0_5 : List (S120)) (a0_6 : Int) (l0_7 : List (S97)) (l0_8 : List Int) (l0_9 : List ByteArray) (l0_10 : List (S168)) : Option (Bool) := spec_EnoughLeft.l0 k 0 a0_0 l0_1 a0_2 a0_3 l0_4 l0_5 a0_6 l0_7 l0_8 l0_9 l0_10 l0_1 a0_2
def spec_EnoughLeft.T9 : Bool × List (List Nat × List Nat) := (true, [([], []), ([0], [0]), ([], []), ([2], [2]), ([], []), ([3, 4], [3, 4]), ([5], [5]), ([6], [6]), ([], []), ([8], [8]), ([], []), ([9, 10], [9, 10]), ([11], [11]), ([12], [12]), ([], []), ([13, 14], [13, 14]), ([15], [15]), ([16], [16]), ([1, 7, 17], [1, 7, 17]), ([], []), ([18, 19], [18, 19])])
def spec_EnoughLeft.B9 : List Nat := [0, 1, 0, 4, 0, 28, 60, 124, 0, 256, 0, 1792, 3840, 7936, 0, 32512, 65280, 130816, 262143, 0, 1048575]
theorem spec_EnoughLeft.tab9 : rtab .any (opsOf Try.f49 9) = spec_EnoughLeft.T9 := by kernel_rfl
theorem spec_EnoughLeft.bits9 : waitsOk spec_EnoughLeft.T9.2 spec_EnoughLeft.B9 = true := by kernel_rfl
set_option maxHeartbeats 8000000 in
set_option maxRecDepth 100000 in
theorem spec_EnoughLeft.calls (k : Nat) (a0_0 : Bool) (A0_1 : Option Addr) (c0_1 : Nat) (l0_1 : List (S135)) (a0_2 : Int) (a0_3 : Int) (A0_4 : Option Addr) (c0_4 : Nat) (l0_4 : List (S192)) (A0_5 : Option Addr) (c0_5 : Nat) (l0_5 : List (S120)) (a0_6 : Int) (A0_7 : Option Addr) (c0_7 : Nat) (l0_7 : List (S97)) (A0_8 : Option Addr) (c0_8 : Nat) (l0_8 : List Int) (A0_9 : Option Addr) (c0_9 : Nat) (l0_9 : List ByteArray) (A0_10 : Option Addr) (c0_10 : Nat) (l0_10 : List (S168)) (r : Bool) (w : World) (hr0_1 : Kd.C k135 w A0_1 l0_1.length l0_1) (hc0_1 : l0_1.length ≤ c0_1) (hr0_4 : Kd.C k192 w A0_4 l0_4.length l0_4) (hc0_4 : l0_4.length ≤ c0_4) (hr0_5 : Kd.C k120 w A0_5 l0_5.length l0_5) (hc0_5 : l0_5.length ≤ c0_5) (hr0_7 : Kd.C k97 w A0_7 l0_7.length l0_7) (hc0_7 : l0_7.length ≤ c0_7) (hr0_8 : Kd.C (Kd.int .i64) w A0_8 l0_8.length l0_8) (hc0_8 : l0_8.length ≤ c0_8) (hr0_9 : Kd.C Kd.string w A0_9 l0_9.length l0_9) (hc0_9 : l0_9.length ≤ c0_9) (hr0_10 : Kd.C k168 w A0_10 l0_10.length l0_10) (hc0_10 : l0_10.length ≤ c0_10) (h : spec_EnoughLeft.f k a0_0 l0_1 a0_2 a0_3 l0_4 l0_5 a0_6 l0_7 l0_8 l0_9 l0_10 = some r) :
    Calls Try.prog 49 #[.agg #[.bool a0_0, .slice A0_1 l0_1.length c0_1, .int .i64 a0_2, .int .i64 a0_3, .slice A0_4 l0_4.length c0_4, .slice A0_5 l0_5.length c0_5, .int .i64 a0_6, .slice A0_7 l0_7.length c0_7, .slice A0_8 l0_8.length c0_8, .slice A0_9 l0_9.length c0_9, .slice A0_10 l0_10.length c0_10]] w fun e w' => e = .returned (.bool r) ∧ Below w.heap.size w w' := by
  have hu77 := Try.underlying77
  have hu40 := Try.underlying40
  have HR0_1 := Aside0.mk hr0_1
  have HC0_1 := Aside0.mk hc0_1
  clear hr0_1 hc0_1
  have HR0_4 := Aside0.mk hr0_4
  have HC0_4 := Aside0.mk hc0_4
  clear hr0_4 hc0_4
  have HR0_5 := Aside0.mk hr0_5
  have HC0_5 := Aside0.mk hc0_5
  clear hr0_5 hc0_5
  have HR0_7 := Aside0.mk hr0_7
  have HC0_7 := Aside0.mk hc0_7
  clear hr0_7 hc0_7
  have HR0_8 := Aside0.mk hr0_8
  have HC0_8 := Aside0.mk hc0_8
  clear hr0_8 hc0_8
  have HR0_9 := Aside0.mk hr0_9
  have HC0_9 := Aside0.mk hc0_9
  clear hr0_9 hc0_9
  have HR0_10 := Aside0.mk hr0_10
  have HC0_10 := Aside0.mk hc0_10
  clear hr0_10 hc0_10
  have HB := Aside0.mk (Below.refl w.heap.size w)
  have H : (spec_EnoughLeft.l0 k 0 a0_0 l0_1 a0_2 a0_3 l0_4 l0_5 a0_6 l0_7 l0_8 l0_9 l0_10 l0_1 a0_2) = some r := h
  clear h
  have H' := Aside0.mk H
  clear H
  go_enter Try.func49, Try.ntmps49
  go_wp2_with (first | ((with_reducible refine gate_dst (N := 1) rfl ?_); refine BX 1 #[.bool a0_0, .slice A0_1 l0_1.length c0_1, .int .i64 a0_2, .int .i64 a0_3, .slice A0_4 l0_4.length c0_4, .slice A0_5 l0_5.length c0_5, .int .i64 a0_6, .slice A0_7 l0_7.length c0_7, .slice A0_8 l0_8.length c0_8, .slice A0_9 l0_9.length c0_9, .slice A0_10 l0_10.length c0_10] 77 ?_; intro gb1049 hg w2 hbox hb; have BK1049 := Aside0.mk (hbox); have GW1049 : Aside0 (w.heap.size ≤ gb1049) := WG hg (BB HB.out); have GE1049 := GW1049; replace HB := Aside0.mk (below_step (BB HB.out) hb); clear hb hbox hg; have hcz3_0 : w2.cell? ⟨gb1049, 0, none⟩ = some (.bool a0_0) := (blk_cell BK1049.out 0).trans rfl; have hcz3_1 : w2.cell? ⟨gb1049, 1, none⟩ = some (.slice A0_1 l0_1.length c0_1) := (blk_cell BK1049.out 1).trans rfl; have hcz3_2 : w2.cell? ⟨gb1049, 2, none⟩ = some (.int .i64 a0_2) := (blk_cell BK1049.out 2).trans rfl; have hcz3_3 : w2.cell? ⟨gb1049, 3, none⟩ = some (.int .i64 a0_3) := (blk_cell BK1049.out 3).trans rfl; have hcz3_4 : w2.cell? ⟨gb1049, 4, none⟩ = some (.slice A0_4 l0_4.length c0_4) := (blk_cell BK1049.out 4).trans rfl; have hcz3_5 : w2.cell? ⟨gb1049, 5, none⟩ = some (.slice A0_5 l0_5.length c0_5) := (blk_cell BK1049.out 5).trans rfl; have hcz3_6 : w2.cell? ⟨gb1049, 6, none⟩ = some (.int .i64 a0_6) := (blk_cell BK1049.out 6).trans rfl; have hcz3_7 : w2.cell? ⟨gb1049, 7, none⟩ = some (.slice A0_7 l0_7.length c0_7) := (blk_cell BK1049.out 7).trans rfl; have hcz3_8 : w2.cell? ⟨gb1049, 8, none⟩ = some (.slice A0_8 l0_8.length c0_8) := (blk_cell BK1049.out 8).trans rfl; have hcz3_9 : w2.cell? ⟨gb1049, 9, none⟩ = some (.slice A0_9 l0_9.length c0_9) := (blk_cell BK1049.out 9).trans rfl; have hcz3_10 : w2.cell? ⟨gb1049, 10, none⟩ = some (.slice A0_10 l0_10.length c0_10) := (blk_cell BK1049.out 10).trans rfl; have hfz3_0 := blk_frozen BK1049.out 0; have hfz3_1 := blk_frozen BK1049.out 1; have hfz3_2 := blk_frozen BK1049.out 2; have hfz3_3 := blk_frozen BK1049.out 3; have hfz3_4 := blk_frozen BK1049.out 4; have hfz3_5 := blk_frozen BK1049.out 5; have hfz3_6 := blk_frozen BK1049.out 6; have hfz3_7 := blk_frozen BK1049.out 7; have hfz3_8 := blk_frozen BK1049.out 8; have hfz3_9 := blk_frozen BK1049.out 9; have hfz3_10 := blk_frozen BK1049.out 10) | ((with_reducible refine gate_dst (N := 3) rfl ?_); refine BX 3 #[.slice none 0 0, .int .i64 0] 40 ?_; intro gb1050 hg w4 hbox hb; have BK1050 := Aside0.mk (hbox); have GW1050 : Aside0 (w.heap.size ≤ gb1050) := WG hg (BB1 HB.out GE1049.out); have GE1050 := GW1050; have NB1049_1050 := NL BK1049.out hg; have NB1050_1049 := NG BK1049.out hg; replace BK1049 := Aside0.mk (KB BK1049.out hb); replace HB := Aside0.mk (below_step (BB1 HB.out GE1049.out) hb); clear hb hbox hg; have hnb5 := NB1050_1049.out; have hnc5 := NB1049_1050.out; have hcz6_0 : w4.cell? ⟨gb1050, 0, none⟩ = some (.slice none 0 0) := (blk_cell BK1050.out 0).trans rfl; have hcz6_1 : w4.cell? ⟨gb1050, 1, none⟩ = some (.int .i64 0) := (blk_cell BK1050.out 1).trans rfl; have hfz6_0 := blk_frozen BK1050.out 0; have hfz6_1 := blk_frozen BK1050.out 1))
  go_loopg [4] k (fun kq v4 w' => ∃ (x4_1 : Int), v4 = .int .i64 x4_1 ∧ Aside0 (spec_EnoughLeft.l0 kq x4_1 a0_0 l0_1 a0_2 a0_3 l0_4 l0_5 a0_6 l0_7 l0_8 l0_9 l0_10 l0_1 a0_2 = some r) ∧ Aside0 (kq ≤ k) ∧ Aside0 (w'.heap[gb1049]? = some (.cells #[.bool a0_0, (.slice A0_1 l0_1.length c0_1), .int .i64 a0_2, .int .i64 a0_3, (.slice A0_4 l0_4.length c0_4), (.slice A0_5 l0_5.length c0_5), .int .i64 a0_6, (.slice A0_7 l0_7.length c0_7), (.slice A0_8 l0_8.length c0_8), (.slice A0_9 l0_9.length c0_9), (.slice A0_10 l0_10.length c0_10)] 77 (0, 0))) ∧ Aside0 (w'.heap[gb1050]? = some (.cells #[(.slice A0_1 l0_1.length c0_1), .int .i64 a0_2] 40 (0, 0))) ∧ Aside0 (Below w.heap.size w w'))
  case atStart => exact ⟨(0), FR, H', ⟨Nat.le_refl _⟩, ⟨by (with_reducible repeat (first | refine blk_drewN ?_ _ | refine blk_drew ?_ | refine blk_alloc ?_ _)); refine blk_far ?_ NB1049_1050.out _; (with_reducible repeat (first | refine blk_drewN ?_ _ | refine blk_drew ?_ | refine blk_alloc ?_ _)); refine blk_far ?_ NB1049_1050.out _; (with_reducible repeat (first | refine blk_drewN ?_ _ | refine blk_drew ?_ | refine blk_alloc ?_ _)); exact BK1049.out⟩, ⟨by (with_reducible repeat (first | refine blk_drewN ?_ _ | refine blk_drew ?_ | refine blk_alloc ?_ _)); refine blk_put (cs := #[.slice A0_1 l0_1.length c0_1, .int .i64 0]) ?_ 1 _ rfl; (with_reducible repeat (first | refine blk_drewN ?_ _ | refine blk_drew ?_ | refine blk_alloc ?_ _)); refine blk_put (cs := #[.slice none 0 0, .int .i64 0]) ?_ 0 _ rfl; (with_reducible repeat (first | refine blk_drewN ?_ _ | refine blk_drew ?_ | refine blk_alloc ?_ _)); exact BK1050.out⟩, ⟨(BB2 HB.out GE1049.out GE1050.out)⟩⟩
  case round =>
    clear H'
    try clear p2
    try clear c4
    try clear c5
    try clear hcz3_0
    try clear hcz3_1
    try clear hcz3_10
    try clear hcz3_2
    try clear hcz3_3
    try clear hcz3_4
    try clear hcz3_5
    try clear hcz3_6
    try clear hcz3_7
    try clear hcz3_8
    try clear hcz3_9
    try clear hcz6_0
    try clear hcz6_1
    try clear hfz3_0
    try clear hfz3_1
    try clear hfz3_10
    try clear hfz3_2
    try clear hfz3_3
    try clear hfz3_4
    try clear hfz3_5
    try clear hfz3_6
    try clear hfz3_7
    try clear hfz3_8
    try clear hfz3_9
    try clear hfz6_0
    try clear hfz6_1
    obtain ⟨x4_1, rfl, HA, HK1, BK1049, BK1050, HB⟩ := hrel
    cases gk with
    | zero => exact absurd HA.out (by simp [spec_EnoughLeft.l0])
    | succ k1 =>
      have H := HA.out
      clear HA
      simp only [spec_EnoughLeft.l0] at H
      by_cases c7 : x4_1 < (l0_1.length : Int)
      · rw [if_pos c7] at H
        have c7b0 : decide (x4_1 < (l0_1.length : Int)) = true := decide_eq_true c7
        clear c7
        by_cases c8 : 0 ≤ x4_1
        · rw [if_pos c8] at H
          have c8b0 : decide (0 ≤ x4_1) = true := decide_eq_true c8
          clear c8
          replace H := Option.bind_eq_some_iff.mp H
          obtain ⟨⟨t1052, t1053, t1054⟩, A90, H⟩ := H
          replace H : (spec_EnoughLeft.l1 k1 x4_1 t1052 0 a0_0 l0_1 a0_2 a0_3 l0_4 l0_5 a0_6 l0_7 l0_8 l0_9 l0_10 l0_1 a0_2) = some r := H
          have A9 := Aside0.mk A90
          clear A90
          have H' := Aside0.mk H
          clear H
          have hnb10 := NB1050_1049.out
          have hnc10 := NB1049_1050.out
          have hcz11_0 : wr.cell? ⟨gb1050, 0, none⟩ = some (.slice A0_1 l0_1.length c0_1) := (blk_cell BK1050.out 0).trans rfl
          have hcz11_1 : wr.cell? ⟨gb1050, 1, none⟩ = some (.int .i64 a0_2) := (blk_cell BK1050.out 1).trans rfl
          have hfz11_0 := blk_frozen BK1050.out 0
          have hfz11_1 := blk_frozen BK1050.out 1
          have p1051 : 0 ≤ (x4_1 : Int) := DT
          have q1051 : x4_1 < (l0_1.length : Int) := DT
          obtain ⟨ad1051, A1051_7, c1051_7, e1051, hx1051_0, hx1051_1, hx1051_2, hx1051_3, hx1051_4, hx1051_5, hx1051_6, hx1051_7, hx1051_8, hl1051_7, hi1051_7⟩ := at_T135 HR0_1.out x4_1 p1051 q1051
          cases e1051
          replace hx1051_0 := (HB.out.cell (World.block_lt_of_cell? w _ hx1051_0)).trans hx1051_0
          replace hx1051_1 := (HB.out.cell (World.block_lt_of_cell? w _ hx1051_1)).trans hx1051_1
          replace hx1051_2 := (HB.out.cell (World.block_lt_of_cell? w _ hx1051_2)).trans hx1051_2
          replace hx1051_3 := (HB.out.cell (World.block_lt_of_cell? w _ hx1051_3)).trans hx1051_3
          replace hx1051_4 := (HB.out.cell (World.block_lt_of_cell? w _ hx1051_4)).trans hx1051_4
          replace hx1051_5 := (HB.out.cell (World.block_lt_of_cell? w _ hx1051_5)).trans hx1051_5
          replace hx1051_6 := (HB.out.cell (World.block_lt_of_cell? w _ hx1051_6)).trans hx1051_6
          replace hx1051_7 := (HB.out.cell (World.block_lt_of_cell? w _ hx1051_7)).trans hx1051_7
          replace hx1051_8 := (HB.out.cell (World.block_lt_of_cell? w _ hx1051_8)).trans hx1051_8
          have HR1051_7 := Aside0.mk hi1051_7
          have HC1051_7 := Aside0.mk hl1051_7
          clear hi1051_7 hl1051_7
          replace p1051 := eq_true p1051
          replace q1051 := eq_true q1051
          go_wp2_with (first | ((with_reducible refine gate_callee (f := 55) rfl ?_); refine GL (some 26) rfl rfl Try.func55 #[.int .i64 ((rd_T135 l0_1 x4_1).f4)] rfl ?_; (with_reducible refine (spec_SchemaOf.calls ((rd_T135 l0_1 x4_1).f4) t1052 t1053 t1054 _ A9.out).mono ?_); rintro e w' ⟨rfl, ⟨nd, rfl⟩⟩; refine ⟨_, rfl, ?_⟩))
          go_loopg [8] k1 (fun kq v8 w' => ∃ (x8_2 : Int), v8 = .int .i64 x8_2 ∧ Aside0 (spec_EnoughLeft.l1 kq x4_1 t1052 x8_2 a0_0 l0_1 a0_2 a0_3 l0_4 l0_5 a0_6 l0_7 l0_8 l0_9 l0_10 l0_1 a0_2 = some r) ∧ Aside0 (kq ≤ k1) ∧ Aside0 (w'.heap[gb1049]? = some (.cells #[.bool a0_0, (.slice (some ad1051) l0_1.length c0_1), .int .i64 a0_2, .int .i64 a0_3, (.slice A0_4 l0_4.length c0_4), (.slice A0_5 l0_5.length c0_5), .int .i64 a0_6, (.slice A0_7 l0_7.length c0_7), (.slice A0_8 l0_8.length c0_8), (.slice A0_9 l0_9.length c0_9), (.slice A0_10 l0_10.length c0_10)] 77 (0, 0))) ∧ Aside0 (w'.heap[gb1050]? = some (.cells #[(.slice (some ad1051) l0_1.length c0_1), .int .i64 a0_2] 40 (0, 0))) ∧ Aside0 (Below w.heap.size w w'))
          case atStart => exact ⟨(0), FR, H', ⟨Nat.le_refl _⟩, ⟨by (with_reducible repeat (first | refine blk_drewN ?_ _ | refine blk_drew ?_ | refine blk_alloc ?_ _)); exact BK1049.out⟩, ⟨by (with_reducible repeat (first | refine blk_drewN ?_ _ | refine blk_drew ?_ | refine blk_alloc ?_ _)); exact BK1050.out⟩, ⟨(BB2 HB.out GE1049.out GE1050.out)⟩⟩
          case round =>
            clear H'
            try clear c1
            try clear p1
            try clear q1
            try clear hx1
            try clear p2
            try clear c4
            try clear c5
            try clear c7
            try clear c7b0
            try clear c8
            try clear c8b0
            try clear c10
            try clear p10
            try clear q10
            try clear hx10
            try clear hcz11_0
            try clear hcz11_1
            try clear hcz3_0
            try clear hcz3_1
            try clear hcz3_10
            try clear hcz3_2
            try clear hcz3_3
            try clear hcz3_4
            try clear hcz3_5
            try clear hcz3_6
            try clear hcz3_7
            try clear hcz3_8
            try clear hcz3_9
            try clear hcz6_0
            try clear hcz6_1
            try clear hfz11_0
            try clear hfz11_1
            try clear hfz3_0
            try clear hfz3_1
            try clear hfz3_10
            try clear hfz3_2
            try clear hfz3_3
            try clear hfz3_4
            try clear hfz3_5
            try clear hfz3_6
            try clear hfz3_7
            try clear hfz3_8
            try clear hfz3_9
            try clear hfz6_0
            try clear hfz6_1
            try clear hx1051_0
            try clear hx1051_1
            try clear hx1051_2
            try clear hx1051_3
            try clear hx1051_4
            try clear hx1051_5
            try clear hx1051_6
            try clear hx1051_7
            try clear hx1051_8
            try clear p1051
            try clear p2
            try clear q1051
            obtain ⟨x8_2, rfl, HA, HK2, BK1049, BK1050, HB⟩ := hrel
            cases gk with
            | zero => exact absurd HA.out (by simp [spec_EnoughLeft.l1])
            | succ k2 =>
              have H := HA.out
              clear HA
              simp only [spec_EnoughLeft.l1] at H
              by_cases c12 : 0 ≤ x4_1
              · rw [if_pos c12] at H
                have c12b0 : decide (0 ≤ x4_1) = true := decide_eq_true c12
                clear c12
                by_cases c13 : x4_1 < (l0_1.length : Int)
                · rw [if_pos c13] at H
                  have c13b0 : decide (x4_1 < (l0_1.length : Int)) = true := decide_eq_true c13
                  clear c13
                  by_cases c14 : x8_2 < (((rd_T135 l0_1 x4_1).f7).length : Int)
                  · rw [if_pos c14] at H
                    have c14b0 : decide (x8_2 < (((rd_T135 l0_1 x4_1).f7).length : Int)) = true := decide_eq_true c14
                    clear c14
                    by_cases c15 : 0 ≤ x8_2
                    · rw [if_pos c15] at H
                      have c15b0 : decide (0 ≤ x8_2) = true := decide_eq_true c15
                      clear c15
                      replace H := Option.bind_eq_some_iff.mp H
                      obtain ⟨t1059, A160, H⟩ := H
                      replace H : (if t1059 < t1052 then (some false) else (spec_EnoughLeft.l1 k2 x4_1 t1052 (wrap64 (x8_2 + 1)) a0_0 l0_1 a0_2 a0_3 l0_4 l0_5 a0_6 l0_7 l0_8 l0_9 l0_10 l0_1 a0_2)) = some r := H
                      have A16 := Aside0.mk A160
                      clear A160
                      by_cases c17 : t1059 < t1052
                      · rw [if_pos c17] at H
                        have c17b0 : decide (t1059 < t1052) = true := decide_eq_true c17
                        clear c17
                        obtain rfl := Option.some.inj H
                        have hnb18 := NB1050_1049.out
                        have hnc18 := NB1049_1050.out
                        have hcz19_0 : wr.cell? ⟨gb1050, 0, none⟩ = some (.slice (some ad1051) l0_1.length c0_1) := (blk_cell BK1050.out 0).trans rfl
                        have hcz19_1 : wr.cell? ⟨gb1050, 1, none⟩ = some (.int .i64 a0_2) := (blk_cell BK1050.out 1).trans rfl
                        have hfz19_0 := blk_frozen BK1050.out 0
                        have hfz19_1 := blk_frozen BK1050.out 1
                        have p1055 : 0 ≤ (x4_1 : Int) := DT
                        have q1055 : x4_1 < (l0_1.length : Int) := DT
                        obtain ⟨ad1055, A1055_7, c1055_7, e1055, hx1055_0, hx1055_1, hx1055_2, hx1055_3, hx1055_4, hx1055_5, hx1055_6, hx1055_7, hx1055_8, hl1055_7, hi1055_7⟩ := at_T135 HR0_1.out x4_1 p1055 q1055
                        obtain rfl : ad1051 = ad1055 := (by injection e1055)
                        replace hx1055_0 := (HB.out.cell (World.block_lt_of_cell? w _ hx1055_0)).trans hx1055_0
                        replace hx1055_1 := (HB.out.cell (World.block_lt_of_cell? w _ hx1055_1)).trans hx1055_1
                        replace hx1055_2 := (HB.out.cell (World.block_lt_of_cell? w _ hx1055_2)).trans hx1055_2
                        replace hx1055_3 := (HB.out.cell (World.block_lt_of_cell? w _ hx1055_3)).trans hx1055_3
                        replace hx1055_4 := (HB.out.cell (World.block_lt_of_cell? w _ hx1055_4)).trans hx1055_4
                        replace hx1055_5 := (HB.out.cell (World.block_lt_of_cell? w _ hx1055_5)).trans hx1055_5
                        replace hx1055_6 := (HB.out.cell (World.block_lt_of_cell? w _ hx1055_6)).trans hx1055_6
                        replace hx1055_7 := (HB.out.cell (World.block_lt_of_cell? w _ hx1055_7)).trans hx1055_7
                        replace hx1055_8 := (HB.out.cell (World.block_lt_of_cell? w _ hx1055_8)).trans hx1055_8
                        have HR1055_7 := Aside0.mk hi1055_7
                        have HC1055_7 := Aside0.mk hl1055_7
                        clear hi1055_7 hl1055_7
                        replace p1055 := eq_true p1055
                        replace q1055 := eq_true q1055
                        try go_wp2
                        have n0_ := Aside0.mk (blk_drew BK1049.out)
                        have n1_ := Aside0.mk (blk_drew BK1050.out)
                        have n2_ := Aside0.mk (below_drew1 HB.out)
                        clear BK1049
                        clear BK1050
                        clear HB
                        have BK1049 := n0_
                        have BK1050 := n1_
                        have HB := n2_
                        clear n0_ n1_ n2_
                        have p1056 : 0 ≤ (x4_1 : Int) := DT
                        have q1056 : x4_1 < (l0_1.length : Int) := DT
                        obtain ⟨ad1056, A1056_7, c1056_7, e1056, hx1056_0, hx1056_1, hx1056_2, hx1056_3, hx1056_4, hx1056_5, hx1056_6, hx1056_7, hx1056_8, hl1056_7, hi1056_7⟩ := at_T135 HR0_1.out x4_1 p1056 q1056
                        have hw1056_8 := hx1056_8
                        have hw1056_7 := hx1056_7
                        have hw1056_6 := hx1056_6
                        have hw1056_5 := hx1056_5
                        have hw1056_4 := hx1056_4
                        have hw1056_3 := hx1056_3
                        have hw1056_2 := hx1056_2
                        have hw1056_1 := hx1056_1
                        have hw1056_0 := hx1056_0
                        obtain rfl : ad1051 = ad1056 := (by injection e1056)
                        replace hx1056_0 := (HB.out.cell (World.block_lt_of_cell? w _ hx1056_0)).trans hx1056_0
                        replace hx1056_1 := (HB.out.cell (World.block_lt_of_cell? w _ hx1056_1)).trans hx1056_1
                        replace hx1056_2 := (HB.out.cell (World.block_lt_of_cell? w _ hx1056_2)).trans hx1056_2
                        replace hx1056_3 := (HB.out.cell (World.block_lt_of_cell? w _ hx1056_3)).trans hx1056_3
                        replace hx1056_4 := (HB.out.cell (World.block_lt_of_cell? w _ hx1056_4)).trans hx1056_4
                        replace hx1056_5 := (HB.out.cell (World.block_lt_of_cell? w _ hx1056_5)).trans hx1056_5
                        replace hx1056_6 := (HB.out.cell (World.block_lt_of_cell? w _ hx1056_6)).trans hx1056_6
                        replace hx1056_7 := (HB.out.cell (World.block_lt_of_cell? w _ hx1056_7)).trans hx1056_7
                        replace hx1056_8 := (HB.out.cell (World.block_lt_of_cell? w _ hx1056_8)).trans hx1056_8
                        have HR1056_7 := Aside0.mk hi1056_7
                        have HC1056_7 := Aside0.mk hl1056_7
                        clear hi1056_7 hl1056_7
                        replace p1056 := eq_true p1056
                        replace q1056 := eq_true q1056
                        have p1057 : 0 ≤ (x4_1 : Int) := DT
                        have q1057 : x4_1 < (l0_1.length : Int) := DT
                        obtain ⟨ad1057, A1057_7, c1057_7, e1057, hx1057_0, hx1057_1, hx1057_2, hx1057_3, hx1057_4, hx1057_5, hx1057_6, hx1057_7, hx1057_8, hl1057_7, hi1057_7⟩ := at_T135 HR0_1.out x4_1 p1057 q1057
                        have hw1057_8 := hx1057_8
                        have hw1057_7 := hx1057_7
                        have hw1057_6 := hx1057_6
                        have hw1057_5 := hx1057_5
                        have hw1057_4 := hx1057_4
                        have hw1057_3 := hx1057_3
                        have hw1057_2 := hx1057_2
                        have hw1057_1 := hx1057_1
                        have hw1057_0 := hx1057_0
                        obtain rfl : ad1051 = ad1057 := (by injection e1057)
                        replace hx1057_0 := (HB.out.cell (World.block_lt_of_cell? w _ hx1057_0)).trans hx1057_0
                        replace hx1057_1 := (HB.out.cell (World.block_lt_of_cell? w _ hx1057_1)).trans hx1057_1
                        replace hx1057_2 := (HB.out.cell (World.block_lt_of_cell? w _ hx1057_2)).trans hx1057_2
                        replace hx1057_3 := (HB.out.cell (World.block_lt_of_cell? w _ hx1057_3)).trans hx1057_3
                        replace hx1057_4 := (HB.out.cell (World.block_lt_of_cell? w _ hx1057_4)).trans hx1057_4
                        replace hx1057_5 := (HB.out.cell (World.block_lt_of_cell? w _ hx1057_5)).trans hx1057_5
                        replace hx1057_6 := (HB.out.cell (World.block_lt_of_cell? w _ hx1057_6)).trans hx1057_6
                        replace hx1057_7 := (HB.out.cell (World.block_lt_of_cell? w _ hx1057_7)).trans hx1057_7
                        replace hx1057_8 := (HB.out.cell (World.block_lt_of_cell? w _ hx1057_8)).trans hx1057_8
                        have HR1057_7 := Aside0.mk hi1057_7
                        have HC1057_7 := Aside0.mk hl1057_7
                        clear hi1057_7 hl1057_7
                        replace p1057 := eq_true p1057
                        replace q1057 := eq_true q1057
                        have ea_ := Option.some.inj (hx1056_7.symm.trans hx1057_7)
                        injection ea_ with ea_ en_ ec_
                        subst ea_
                        subst ec_
                        clear en_
                        have p1058 : 0 ≤ (x8_2 : Int) := DT
                        have q1058 : x8_2 < (((rd_T135 l0_1 x4_1).f7).length : Int) := DT
                        obtain ⟨ad1058, e1058, hx1058_0, hx1058_1⟩ := at_T137 HR1057_7.out x8_2 p1058 q1058
                        have hw1058_1 := hx1058_1
                        have hw1058_0 := hx1058_0
                        cases e1058
                        replace hx1058_0 := (HB.out.cell (World.block_lt_of_cell? w _ hx1058_0)).trans hx1058_0
                        replace hx1058_1 := (HB.out.cell (World.block_lt_of_cell? w _ hx1058_1)).trans hx1058_1
                        replace p1058 := eq_true p1058
                        replace q1058 := eq_true q1058
                        refine start_ (n := 21) (S := fun w' => w'.cell? ⟨gb1049, 0, none⟩ = some (.bool a0_0) ∧ w'.cell? ⟨gb1049, 1, none⟩ = some (.slice (some ad1051) l0_1.length c0_1) ∧ w'.cell? ⟨gb1049, 2, none⟩ = some (.int .i64 a0_2) ∧ w'.cell? ⟨gb1049, 3, none⟩ = some (.int .i64 a0_3) ∧ w'.cell? ⟨gb1049, 4, none⟩ = some (.slice A0_4 l0_4.length c0_4) ∧ w'.cell? ⟨gb1049, 5, none⟩ = some (.slice A0_5 l0_5.length c0_5) ∧ w'.cell? ⟨gb1049, 6, none⟩ = some (.int .i64 a0_6) ∧ w'.cell? ⟨gb1049, 7, none⟩ = some (.slice A0_7 l0_7.length c0_7) ∧ w'.cell? ⟨gb1049, 8, none⟩ = some (.slice A0_8 l0_8.length c0_8) ∧ w'.cell? ⟨gb1049, 9, none⟩ = some (.slice A0_9 l0_9.length c0_9) ∧ w'.cell? ⟨gb1049, 10, none⟩ = some (.slice A0_10 l0_10.length c0_10) ∧ w'.cell? ⟨gb1050, 0, none⟩ = some (.slice (some ad1051) l0_1.length c0_1) ∧ w'.cell? ⟨gb1050, 1, none⟩ = some (.int .i64 a0_2) ∧ w'.cell? (ad1051.add ((x4_1).toNat * 9)) = some (.int .i64 ((rd_T135 l0_1 x4_1).f0)) ∧ w'.cell? ⟨(ad1051.add ((x4_1).toNat * 9)).block, (ad1051.add ((x4_1).toNat * 9)).off + 1, none⟩ = some (.int .i64 ((rd_T135 l0_1 x4_1).f1)) ∧ w'.cell? ⟨(ad1051.add ((x4_1).toNat * 9)).block, (ad1051.add ((x4_1).toNat * 9)).off + 2, none⟩ = some (.string ((rd_T135 l0_1 x4_1).f2)) ∧ w'.cell? ⟨(ad1051.add ((x4_1).toNat * 9)).block, (ad1051.add ((x4_1).toNat * 9)).off + 3, none⟩ = some (.bool ((rd_T135 l0_1 x4_1).f3)) ∧ w'.cell? ⟨(ad1051.add ((x4_1).toNat * 9)).block, (ad1051.add ((x4_1).toNat * 9)).off + 4, none⟩ = some (.int .i64 ((rd_T135 l0_1 x4_1).f4)) ∧ w'.cell? ⟨(ad1051.add ((x4_1).toNat * 9)).block, (ad1051.add ((x4_1).toNat * 9)).off + 5, none⟩ = some (.int .i64 ((rd_T135 l0_1 x4_1).f5)) ∧ w'.cell? ⟨(ad1051.add ((x4_1).toNat * 9)).block, (ad1051.add ((x4_1).toNat * 9)).off + 6, none⟩ = some (.int .i64 ((rd_T135 l0_1 x4_1).f6)) ∧ w'.cell? ⟨(ad1051.add ((x4_1).toNat * 9)).block, (ad1051.add ((x4_1).toNat * 9)).off + 7, none⟩ = some (.slice (some ad1058) ((rd_T135 l0_1 x4_1).f7).length c1056_7) ∧ w'.cell? ⟨(ad1051.add ((x4_1).toNat * 9)).block, (ad1051.add ((x4_1).toNat * 9)).off + 8, none⟩ = some (.int .i64 ((rd_T135 l0_1 x4_1).f8)) ∧ w'.cell? (ad1051.add ((x4_1).toNat * 9)) = some (.int .i64 ((rd_T135 l0_1 x4_1).f0)) ∧ w'.cell? ⟨(ad1051.add ((x4_1).toNat * 9)).block, (ad1051.add ((x4_1).toNat * 9)).off + 1, none⟩ = some (.int .i64 ((rd_T135 l0_1 x4_1).f1)) ∧ w'.cell? ⟨(ad1051.add ((x4_1).toNat * 9)).block, (ad1051.add ((x4_1).toNat * 9)).off + 2, none⟩ = some (.string ((rd_T135 l0_1 x4_1).f2)) ∧ w'.cell? ⟨(ad1051.add ((x4_1).toNat * 9)).block, (ad1051.add ((x4_1).toNat * 9)).off + 3, none⟩ = some (.bool ((rd_T135 l0_1 x4_1).f3)) ∧ w'.cell? ⟨(ad1051.add ((x4_1).toNat * 9)).block, (ad1051.add ((x4_1).toNat * 9)).off + 4, none⟩ = some (.int .i64 ((rd_T135 l0_1 x4_1).f4)) ∧ w'.cell? ⟨(ad1051.add ((x4_1).toNat * 9)).block, (ad1051.add ((x4_1).toNat * 9)).off + 5, none⟩ = some (.int .i64 ((rd_T135 l0_1 x4_1).f5)) ∧ w'.cell? ⟨(ad1051.add ((x4_1).toNat * 9)).block, (ad1051.add ((x4_1).toNat * 9)).off + 6, none⟩ = some (.int .i64 ((rd_T135 l0_1 x4_1).f6)) ∧ w'.cell? ⟨(ad1051.add ((x4_1).toNat * 9)).block, (ad1051.add ((x4_1).toNat * 9)).off + 7, none⟩ = some (.slice (some ad1058) ((rd_T135 l0_1 x4_1).f7).length c1056_7) ∧ w'.cell? ⟨(ad1051.add ((x4_1).toNat * 9)).block, (ad1051.add ((x4_1).toNat * 9)).off + 8, none⟩ = some (.int .i64 ((rd_T135 l0_1 x4_1).f8)) ∧ w'.cell? (ad1058.add ((x8_2).toNat * 2)) = some (.int .i64 ((rd_T137 ((rd_T135 l0_1 x4_1).f7) x8_2).f0)) ∧ w'.cell? ⟨(ad1058.add ((x8_2).toNat * 2)).block, (ad1058.add ((x8_2).toNat * 2)).off + 1, none⟩ = some (.int .i64 ((rd_T137 ((rd_T135 l0_1 x4_1).f7) x8_2).f1))) (ds := []) #[false, false, false, false, false, false, false, false, false, false, false, false, false, false, false, false, false, false, false, false, false] (by kernel_rfl) rfl rfl ⟨(blk_cell BK1049.out 0).trans rfl, (blk_cell BK1049.out 1).trans rfl, (blk_cell BK1049.out 2).trans rfl, (blk_cell BK1049.out 3).trans rfl, (blk_cell BK1049.out 4).trans rfl, (blk_cell BK1049.out 5).trans rfl, (blk_cell BK1049.out 6).trans rfl, (blk_cell BK1049.out 7).trans rfl, (blk_cell BK1049.out 8).trans rfl, (blk_cell BK1049.out 9).trans rfl, (blk_cell BK1049.out 10).trans rfl, (blk_cell BK1050.out 0).trans rfl, (blk_cell BK1050.out 1).trans rfl, ((HB.out.cell (World.block_lt_of_cell? w _ hw1056_0)).trans hw1056_0), ((HB.out.cell (World.block_lt_of_cell? w _ hw1056_1)).trans hw1056_1), ((HB.out.cell (World.block_lt_of_cell? w _ hw1056_2)).trans hw1056_2), ((HB.out.cell (World.block_lt_of_cell? w _ hw1056_3)).trans hw1056_3), ((HB.out.cell (World.block_lt_of_cell? w _ hw1056_4)).trans hw1056_4), ((HB.out.cell (World.block_lt_of_cell? w _ hw1056_5)).trans hw1056_5), ((HB.out.cell (World.block_lt_of_cell? w _ hw1056_6)).trans hw1056_6), ((HB.out.cell (World.block_lt_of_cell? w _ hw1056_7)).trans hw1056_7), ((HB.out.cell (World.block_lt_of_cell? w _ hw1056_8)).trans hw1056_8), ((HB.out.cell (World.block_lt_of_cell? w _ hw1057_0)).trans hw1057_0), ((HB.out.cell (World.block_lt_of_cell? w _ hw1057_1)).trans hw1057_1), ((HB.out.cell (World.block_lt_of_cell? w _ hw1057_2)).trans hw1057_2), ((HB.out.cell (World.block_lt_of_cell? w _ hw1057_3)).trans hw1057_3), ((HB.out.cell (World.block_lt_of_cell? w _ hw1057_4)).trans hw1057_4), ((HB.out.cell (World.block_lt_of_cell? w _ hw1057_5)).trans hw1057_5), ((HB.out.cell (World.block_lt_of_cell? w _ hw1057_6)).trans hw1057_6), ((HB.out.cell (World.block_lt_of_cell? w _ hw1057_7)).trans hw1057_7), ((HB.out.cell (World.block_lt_of_cell? w _ hw1057_8)).trans hw1057_8), ((HB.out.cell (World.block_lt_of_cell? w _ hw1058_0)).trans hw1058_0), ((HB.out.cell (World.block_lt_of_cell? w _ hw1058_1)).trans hw1058_1)⟩ (fun hHeld => ?_); refine with_tabW spec_EnoughLeft.tab9 spec_EnoughLeft.bits9 (fun HT_ HW_ => ?_)
                        generalize wr.drew = w20 at BK1049 BK1050 HB HR1056_7 HR1057_7 hx1056_0 hx1056_1 hx1056_2 hx1056_3 hx1056_4 hx1056_5 hx1056_6 hx1056_7 hx1056_8 hx1057_0 hx1057_1 hx1057_2 hx1057_3 hx1057_4 hx1057_5 hx1057_6 hx1057_7 hx1057_8 hx1058_0 hx1058_1 hHeld ⊢
                        refine pure_ (i := 0) (N := some 41) (v := ?_) (a' := ?_) #[true, false, false, false, false, false, false, false, false, false, false, false, false, false, false, false, false, false, false, false, false] rfl rfl (any_of HT_.out (by kernel_rfl)) (fun _ _ _ h => h) (Or.inl ⟨by rfl, ?_⟩) ?_ ?_
                        rotate_left
                        · intro w'
                          go_simp
                          with_reducible rfl
                        rotate_left
                        · simp only [Act.put, List.setIfInBounds_toArray, List.set_cons_zero, List.set_cons_succ, i64_w, i32_w]
                          rfl
                        refine pure_ (i := 2) (N := some 43) (v := ?_) (a' := ?_) #[true, false, true, false, false, false, false, false, false, false, false, false, false, false, false, false, false, false, false, false, false] rfl rfl (any_of HT_.out (by kernel_rfl)) (fun _ _ _ h => h) (Or.inl ⟨by rfl, ?_⟩) ?_ ?_
                        rotate_left
                        · intro w'
                          go_simp
                          with_reducible rfl
                        rotate_left
                        · simp only [Act.put, List.setIfInBounds_toArray, List.set_cons_zero, List.set_cons_succ, i64_w, i32_w]
                          rfl
                        refine pure_ (i := 4) (N := some 45) (v := ?_) (a' := ?_) #[true, false, true, false, true, false, false, false, false, false, false, false, false, false, false, false, false, false, false, false, false] rfl rfl (any_of HT_.out (by kernel_rfl)) (fun _ _ _ h => h) (Or.inl ⟨by rfl, ?_⟩) ?_ ?_
                        rotate_left
                        · intro w'
                          go_simp
                          with_reducible rfl
                        rotate_left
                        · simp only [Act.put, List.setIfInBounds_toArray, List.set_cons_zero, List.set_cons_succ, i64_w, i32_w]
                          rfl
                        refine pure_ (i := 8) (N := some 49) (v := ?_) (a' := ?_) #[true, false, true, false, true, false, false, false, true, false, false, false, false, false, false, false, false, false, false, false, false] rfl rfl (any_of HT_.out (by kernel_rfl)) (fun _ _ _ h => h) (Or.inl ⟨by rfl, ?_⟩) ?_ ?_
                        rotate_left
                        · intro w'
                          go_simp
                          with_reducible rfl
                        rotate_left
                        · simp only [Act.put, List.setIfInBounds_toArray, List.set_cons_zero, List.set_cons_succ, i64_w, i32_w]
                          rfl
                        refine pure_ (i := 10) (N := some 51) (v := ?_) (a' := ?_) #[true, false, true, false, true, false, false, false, true, false, true, false, false, false, false, false, false, false, false, false, false] rfl rfl (any_of HT_.out (by kernel_rfl)) (fun _ _ _ h => h) (Or.inl ⟨by rfl, ?_⟩) ?_ ?_
                        rotate_left
                        · intro w'
                          go_simp
                          with_reducible rfl
                        rotate_left
                        · simp only [Act.put, List.setIfInBounds_toArray, List.set_cons_zero, List.set_cons_succ, i64_w, i32_w]
                          rfl
                        refine pure_ (i := 14) (N := some 55) (v := ?_) (a' := ?_) #[true, false, true, false, true, false, false, false, true, false, true, false, false, false, true, false, false, false, false, false, false] rfl rfl (any_of HT_.out (by kernel_rfl)) (fun _ _ _ h => h) (Or.inl ⟨by rfl, ?_⟩) ?_ ?_
                        rotate_left
                        · intro w'
                          go_simp
                          with_reducible rfl
                        rotate_left
                        · simp only [Act.put, List.setIfInBounds_toArray, List.set_cons_zero, List.set_cons_succ, i64_w, i32_w]
                          rfl
                        refine pure_ (i := 19) (N := some 60) (v := ?_) (a' := ?_) #[true, false, true, false, true, false, false, false, true, false, true, false, false, false, true, false, false, false, false, true, false] rfl rfl (any_of HT_.out (by kernel_rfl)) (fun _ _ _ h => h) (Or.inl ⟨by rfl, ?_⟩) ?_ ?_
                        rotate_left
                        · intro w'
                          go_simp
                          with_reducible rfl
                        rotate_left
                        · simp only [Act.put, List.setIfInBounds_toArray, List.set_cons_zero, List.set_cons_succ, i64_w, i32_w]
                          rfl
                        refine take_ (i := 1) (N := some 42) (v := ?_) (a' := ?_) #[true, true, true, false, true, false, false, false, true, false, true, false, false, false, true, false, false, false, false, true, false] rfl rfl (take_ofW HT_.out HW_.out (by kernel_rfl)) (fun _ _ _ h => h) (Or.inl ⟨by rfl, ?_⟩) hHeld ?_ ?_
                        rotate_left
                        · rintro w' ⟨s0, s1, s2, s3, s4, s5, s6, s7, s8, s9, s10, s11, s12, s13, s14, s15, s16, s17, s18, s19, s20, s21, s22, s23, s24, s25, s26, s27, s28, s29, s30, s31, s32⟩
                          go_simp
                          with_reducible rfl
                        rotate_left
                        · simp only [Act.put, List.setIfInBounds_toArray, List.set_cons_zero, List.set_cons_succ, i64_w, i32_w]
                          rfl
                        refine take_ (i := 3) (N := some 44) (v := ?_) (a' := ?_) #[true, true, true, true, true, false, false, false, true, false, true, false, false, false, true, false, false, false, false, true, false] rfl rfl (take_ofW HT_.out HW_.out (by kernel_rfl)) (fun _ _ _ h => h) (Or.inl ⟨by rfl, ?_⟩) hHeld ?_ ?_
                        rotate_left
                        · rintro w' ⟨s0, s1, s2, s3, s4, s5, s6, s7, s8, s9, s10, s11, s12, s13, s14, s15, s16, s17, s18, s19, s20, s21, s22, s23, s24, s25, s26, s27, s28, s29, s30, s31, s32⟩
                          go_simp
                          with_reducible rfl
                        rotate_left
                        · simp only [Act.put, List.setIfInBounds_toArray, List.set_cons_zero, List.set_cons_succ, i64_w, i32_w]
                          rfl
                        refine pure_ (i := 5) (N := some 46) (v := ?_) (a' := ?_) #[true, true, true, true, true, true, false, false, true, false, true, false, false, false, true, false, false, false, false, true, false] rfl rfl (any_of HT_.out (by kernel_rfl)) (fun _ _ _ h => h) (Or.inl ⟨by rfl, ?_⟩) ?_ ?_
                        rotate_left
                        · intro w'
                          go_simp
                          with_reducible rfl
                        rotate_left
                        · simp only [Act.put, List.setIfInBounds_toArray, List.set_cons_zero, List.set_cons_succ, i64_w, i32_w]
                          rfl
                        refine pure_ (i := 6) (N := some 47) (v := ?_) (a' := ?_) #[true, true, true, true, true, true, true, false, true, false, true, false, false, false, true, false, false, false, false, true, false] rfl rfl (any_of HT_.out (by kernel_rfl)) (fun _ _ _ h => h) (Or.inl ⟨by rfl, ?_⟩) ?_ ?_
                        rotate_left
                        · intro w'
                          go_simp
                          with_reducible rfl
                        rotate_left
                        · simp only [Act.put, List.setIfInBounds_toArray, List.set_cons_zero, List.set_cons_succ, i64_w, i32_w]
                          rfl
                        refine take_ (i := 7) (N := some 48) (v := ?_) (a' := ?_) #[true, true, true, true, true, true, true, true, true, false, true, false, false, false, true, false, false, false, false, true, false] rfl rfl (take_ofW HT_.out HW_.out (by kernel_rfl)) (fun _ _ _ h => h) (Or.inl ⟨by rfl, ?_⟩) hHeld ?_ ?_
                        rotate_left
                        · rintro w' ⟨s0, s1, s2, s3, s4, s5, s6, s7, s8, s9, s10, s11, s12, s13, s14, s15, s16, s17, s18, s19, s20, s21, s22, s23, s24, s25, s26, s27, s28, s29, s30, s31, s32⟩
                          go_simp
                          with_reducible rfl
                        rotate_left
                        · simp only [Act.put, List.setIfInBounds_toArray, List.set_cons_zero, List.set_cons_succ, i64_w, i32_w]
                          rfl
                        refine take_ (i := 9) (N := some 50) (v := ?_) (a' := ?_) #[true, true, true, true, true, true, true, true, true, true, true, false, false, false, true, false, false, false, false, true, false] rfl rfl (take_ofW HT_.out HW_.out (by kernel_rfl)) (fun _ _ _ h => h) (Or.inl ⟨by rfl, ?_⟩) hHeld ?_ ?_
                        rotate_left
                        · rintro w' ⟨s0, s1, s2, s3, s4, s5, s6, s7, s8, s9, s10, s11, s12, s13, s14, s15, s16, s17, s18, s19, s20, s21, s22, s23, s24, s25, s26, s27, s28, s29, s30, s31, s32⟩
                          go_simp
                          with_reducible rfl
                        rotate_left
                        · simp only [Act.put, List.setIfInBounds_toArray, List.set_cons_zero, List.set_cons_succ, i64_w, i32_w]
                          rfl
                        refine pure_ (i := 11) (N := some 52) (v := ?_) (a' := ?_) #[true, true, true, true, true, true, true, true, true, true, true, true, false, false, true, false, false, false, false, true, false] rfl rfl (any_of HT_.out (by kernel_rfl)) (fun _ _ _ h => h) (Or.inl ⟨by rfl, ?_⟩) ?_ ?_
                        rotate_left
                        · intro w'
                          go_simp
                          with_reducible rfl
                        rotate_left
                        · simp only [Act.put, List.setIfInBounds_toArray, List.set_cons_zero, List.set_cons_succ, i64_w, i32_w]
                          rfl
                        refine pure_ (i := 12) (N := some 53) (v := ?_) (a' := ?_) #[true, true, true, true, true, true, true, true, true, true, true, true, true, false, true, false, false, false, false, true, false] rfl rfl (any_of HT_.out (by kernel_rfl)) (fun _ _ _ h => h) (Or.inl ⟨by rfl, ?_⟩) ?_ ?_
                        rotate_left
                        · intro w'
                          go_simp
                          with_reducible rfl
                        rotate_left
                        · simp only [Act.put, List.setIfInBounds_toArray, List.set_cons_zero, List.set_cons_succ, i64_w, i32_w]
                          rfl
                        refine take_ (i := 13) (N := some 54) (v := ?_) (a' := ?_) #[true, true, true, true, true, true, true, true, true, true, true, true, true, true, true, false, false, false, false, true, false] rfl rfl (take_ofW HT_.out HW_.out (by kernel_rfl)) (fun _ _ _ h => h) (Or.inl ⟨by rfl, ?_⟩) hHeld ?_ ?_
                        rotate_left
                        · rintro w' ⟨s0, s1, s2, s3, s4, s5, s6, s7, s8, s9, s10, s11, s12, s13, s14, s15, s16, s17, s18, s19, s20, s21, s22, s23, s24, s25, s26, s27, s28, s29, s30, s31, s32⟩
                          go_simp
                          with_reducible rfl
                        rotate_left
                        · simp only [Act.put, List.setIfInBounds_toArray, List.set_cons_zero, List.set_cons_succ, i64_w, i32_w]
                          rfl
                        refine pure_ (i := 15) (N := some 56) (v := ?_) (a' := ?_) #[true, true, true, true, true, true, true, true, true, true, true, true, true, true, true, true, false, false, false, true, false] rfl rfl (any_of HT_.out (by kernel_rfl)) (fun _ _ _ h => h) (Or.inl ⟨by rfl, ?_⟩) ?_ ?_
                        rotate_left
                        · intro w'
                          go_simp
                          with_reducible rfl
                        rotate_left
                        · simp only [Act.put, List.setIfInBounds_toArray, List.set_cons_zero, List.set_cons_succ, i64_w, i32_w]
                          rfl
                        refine pure_ (i := 16) (N := some 57) (v := ?_) (a' := ?_) #[true, true, true, true, true, true, true, true, true, true, true, true, true, true, true, true, true, false, false, true, false] rfl rfl (any_of HT_.out (by kernel_rfl)) (fun _ _ _ h => h) (Or.inl ⟨by rfl, ?_⟩) ?_ ?_
                        rotate_left
                        · intro w'
                          go_simp
                          with_reducible rfl
                        rotate_left
                        · simp only [Act.put, List.setIfInBounds_toArray, List.set_cons_zero, List.set_cons_succ, i64_w, i32_w]
                          rfl
                        refine take_ (i := 17) (N := some 58) (v := ?_) (a' := ?_) #[true, true, true, true, true, true, true, true, true, true, true, true, true, true, true, true, true, true, false, true, false] rfl rfl (take_ofW HT_.out HW_.out (by kernel_rfl)) (fun _ _ _ h => h) (Or.inl ⟨by rfl, ?_⟩) hHeld ?_ ?_
                        rotate_left
                        · rintro w' ⟨s0, s1, s2, s3, s4, s5, s6, s7, s8, s9, s10, s11, s12, s13, s14, s15, s16, s17, s18, s19, s20, s21, s22, s23, s24, s25, s26, s27, s28, s29, s30, s31, s32⟩
                          go_simp
                          with_reducible rfl
                        rotate_left
                        · simp only [Act.put, List.setIfInBounds_toArray, List.set_cons_zero, List.set_cons_succ, i64_w, i32_w]
                          rfl
                        refine one_ (i := 18) (N := some 59) #[true, true, true, true, true, true, true, true, true, true, true, true, true, true, true, true, true, true, true, true, false] rfl rfl (one_of HT_.out (by kernel_rfl)) (by decide) (fun K hK => ?_)
                        refine goes_ Try.func12 (by kernel_rfl) rfl #[.slice A0_7 l0_7.length c0_7, .int .i64 ((rd_T135 l0_1 x4_1).f4), .int .i64 ((rd_T137 ((rd_T135 l0_1 x4_1).f7) x8_2).f0)] (by rfl) rfl rfl (by (try simp only [List.map_toArray, List.map_cons, List.map_nil]); first | done | rfl | (simp only [List.length_drop, List.length_take]; rfl)) ?_
                        with_reducible refine (spec_LeftOf.calls k2 _ _ l0_7 ((rd_T135 l0_1 x4_1).f4) ((rd_T137 ((rd_T135 l0_1 x4_1).f7) x8_2).f0) t1059 _ ?side1 ?side2 A16.out).mono ?_
                        (case side1 => exact CC (Kd.C_below HR0_7.out HB.out))
                        (case side2 => exact HC0_7.out)
                        rintro e w21 ⟨rfl, hb⟩
                        refine ⟨_, rfl, ?_⟩
                        have n0_ := Aside0.mk (KB BK1049.out hb)
                        have n1_ := Aside0.mk (KB BK1050.out hb)
                        have n2_ := Aside0.mk (below_step (BB2 HB.out GE1049.out GE1050.out) hb)
                        clear BK1049
                        clear BK1050
                        clear HB
                        have BK1049 := n0_
                        have BK1050 := n1_
                        have HB := n2_
                        clear n0_ n1_ n2_
                        (try clear hb)
                        (try clear hb2)
                        (try clear hk)
                        (try clear hi)
                        refine hK.out _ _ ⟨(blk_cell BK1049.out 0).trans rfl, (blk_cell BK1049.out 1).trans rfl, (blk_cell BK1049.out 2).trans rfl, (blk_cell BK1049.out 3).trans rfl, (blk_cell BK1049.out 4).trans rfl, (blk_cell BK1049.out 5).trans rfl, (blk_cell BK1049.out 6).trans rfl, (blk_cell BK1049.out 7).trans rfl, (blk_cell BK1049.out 8).trans rfl, (blk_cell BK1049.out 9).trans rfl, (blk_cell BK1049.out 10).trans rfl, (blk_cell BK1050.out 0).trans rfl, (blk_cell BK1050.out 1).trans rfl, ((HB.out.cell (World.block_lt_of_cell? w _ hw1056_0)).trans hw1056_0), ((HB.out.cell (World.block_lt_of_cell? w _ hw1056_1)).trans hw1056_1), ((HB.out.cell (World.block_lt_of_cell? w _ hw1056_2)).trans hw1056_2), ((HB.out.cell (World.block_lt_of_cell? w _ hw1056_3)).trans hw1056_3), ((HB.out.cell (World.block_lt_of_cell? w _ hw1056_4)).trans hw1056_4), ((HB.out.cell (World.block_lt_of_cell? w _ hw1056_5)).trans hw1056_5), ((HB.out.cell (World.block_lt_of_cell? w _ hw1056_6)).trans hw1056_6), ((HB.out.cell (World.block_lt_of_cell? w _ hw1056_7)).trans hw1056_7), ((HB.out.cell (World.block_lt_of_cell? w _ hw1056_8)).trans hw1056_8), ((HB.out.cell (World.block_lt_of_cell? w _ hw1057_0)).trans hw1057_0), ((HB.out.cell (World.block_lt_of_cell? w _ hw1057_1)).trans hw1057_1), ((HB.out.cell (World.block_lt_of_cell? w _ hw1057_2)).trans hw1057_2), ((HB.out.cell (World.block_lt_of_cell? w _ hw1057_3)).trans hw1057_3), ((HB.out.cell (World.block_lt_of_cell? w _ hw1057_4)).trans hw1057_4), ((HB.out.cell (World.block_lt_of_cell? w _ hw1057_5)).trans hw1057_5), ((HB.out.cell (World.block_lt_of_cell? w _ hw1057_6)).trans hw1057_6), ((HB.out.cell (World.block_lt_of_cell? w _ hw1057_7)).trans hw1057_7), ((HB.out.cell (World.block_lt_of_cell? w _ hw1057_8)).trans hw1057_8), ((HB.out.cell (World.block_lt_of_cell? w _ hw1058_0)).trans hw1058_0), ((HB.out.cell (World.block_lt_of_cell? w _ hw1058_1)).trans hw1058_1)⟩ (fun hHeld => ?_)
                        clear hK K
                        refine norm_ (a' := ?_) ?_ ?_
                        rotate_left
                        · show Act.put _ (some 59) _ = _
                          simp only [Act.put, List.setIfInBounds_toArray, List.set_cons_zero, List.set_cons_succ, i64_w, i32_w]
                          rfl
                        refine pure_ (i := 20) (N := some 61) (v := ?_) (a' := ?_) #[true, true, true, true, true, true, true, true, true, true, true, true, true, true, true, true, true, true, true, true, true] rfl rfl (any_of HT_.out (by kernel_rfl)) (fun _ _ _ h => h) (Or.inl ⟨by rfl, ?_⟩) ?_ ?_
                        rotate_left
                        · intro w'
                          go_simp
                          with_reducible rfl
                        rotate_left
                        · simp only [Act.put, List.setIfInBounds_toArray, List.set_cons_zero, List.set_cons_succ, i64_w, i32_w]
                          rfl
                        refine done_ (done_of HT_.out (by kernel_rfl)) ?_
                        try go_wp2
                        go_ret
                        exact ⟨ER, (BB2 HB.out GE1049.out GE1050.out)⟩
                      · rw [if_neg c17] at H
                        have c17b0 : decide (t1059 < t1052) = false := decide_eq_false c17
                        clear c17
                        have H' := Aside0.mk H
                        clear H
                        have hnb22 := NB1050_1049.out
                        have hnc22 := NB1049_1050.out
                        have hcz23_0 : wr.cell? ⟨gb1050, 0, none⟩ = some (.slice (some ad1051) l0_1.length c0_1) := (blk_cell BK1050.out 0).trans rfl
                        have hcz23_1 : wr.cell? ⟨gb1050, 1, none⟩ = some (.int .i64 a0_2) := (blk_cell BK1050.out 1).trans rfl
                        have hfz23_0 := blk_frozen BK1050.out 0
                        have hfz23_1 := blk_frozen BK1050.out 1
                        have p1055 : 0 ≤ (x4_1 : Int) := DT
                        have q1055 : x4_1 < (l0_1.length : Int) := DT
                        obtain ⟨ad1055, A1055_7, c1055_7, e1055, hx1055_0, hx1055_1, hx1055_2, hx1055_3, hx1055_4, hx1055_5, hx1055_6, hx1055_7, hx1055_8, hl1055_7, hi1055_7⟩ := at_T135 HR0_1.out x4_1 p1055 q1055
                        obtain rfl : ad1051 = ad1055 := (by injection e1055)
                        replace hx1055_0 := (HB.out.cell (World.block_lt_of_cell? w _ hx1055_0)).trans hx1055_0
                        replace hx1055_1 := (HB.out.cell (World.block_lt_of_cell? w _ hx1055_1)).trans hx1055_1
                        replace hx1055_2 := (HB.out.cell (World.block_lt_of_cell? w _ hx1055_2)).trans hx1055_2
                        replace hx1055_3 := (HB.out.cell (World.block_lt_of_cell? w _ hx1055_3)).trans hx1055_3
                        replace hx1055_4 := (HB.out.cell (World.block_lt_of_cell? w _ hx1055_4)).trans hx1055_4
                        replace hx1055_5 := (HB.out.cell (World.block_lt_of_cell? w _ hx1055_5)).trans hx1055_5
                        replace hx1055_6 := (HB.out.cell (World.block_lt_of_cell? w _ hx1055_6)).trans hx1055_6
                        replace hx1055_7 := (HB.out.cell (World.block_lt_of_cell? w _ hx1055_7)).trans hx1055_7
                        replace hx1055_8 := (HB.out.cell (World.block_lt_of_cell? w _ hx1055_8)).trans hx1055_8
                        have HR1055_7 := Aside0.mk hi1055_7
                        have HC1055_7 := Aside0.mk hl1055_7
                        clear hi1055_7 hl1055_7
                        replace p1055 := eq_true p1055
                        replace q1055 := eq_true q1055
                        try go_wp2
                        have n0_ := Aside0.mk (blk_drew BK1049.out)
                        have n1_ := Aside0.mk (blk_drew BK1050.out)
                        have n2_ := Aside0.mk (below_drew1 HB.out)
                        clear BK1049
                        clear BK1050
                        clear HB
                        have BK1049 := n0_
                        have BK1050 := n1_
                        have HB := n2_
                        clear n0_ n1_ n2_
                        have p1056 : 0 ≤ (x4_1 : Int) := DT
                        have q1056 : x4_1 < (l0_1.length : Int) := DT
                        obtain ⟨ad1056, A1056_7, c1056_7, e1056, hx1056_0, hx1056_1, hx1056_2, hx1056_3, hx1056_4, hx1056_5, hx1056_6, hx1056_7, hx1056_8, hl1056_7, hi1056_7⟩ := at_T135 HR0_1.out x4_1 p1056 q1056
                        have hw1056_8 := hx1056_8
                        have hw1056_7 := hx1056_7
                        have hw1056_6 := hx1056_6
                        have hw1056_5 := hx1056_5
                        have hw1056_4 := hx1056_4
                        have hw1056_3 := hx1056_3
                        have hw1056_2 := hx1056_2
                        have hw1056_1 := hx1056_1
                        have hw1056_0 := hx1056_0
                        obtain rfl : ad1051 = ad1056 := (by injection e1056)
                        replace hx1056_0 := (HB.out.cell (World.block_lt_of_cell? w _ hx1056_0)).trans hx1056_0
                        replace hx1056_1 := (HB.out.cell (World.block_lt_of_cell? w _ hx1056_1)).trans hx1056_1
                        replace hx1056_2 := (HB.out.cell (World.block_lt_of_cell? w _ hx1056_2)).trans hx1056_2
                        replace hx1056_3 := (HB.out.cell (World.block_lt_of_cell? w _ hx1056_3)).trans hx1056_3
                        replace hx1056_4 := (HB.out.cell (World.block_lt_of_cell? w _ hx1056_4)).trans hx1056_4
                        replace hx1056_5 := (HB.out.cell (World.block_lt_of_cell? w _ hx1056_5)).trans hx1056_5
                        replace hx1056_6 := (HB.out.cell (World.block_lt_of_cell? w _ hx1056_6)).trans hx1056_6
                        replace hx1056_7 := (HB.out.cell (World.block_lt_of_cell? w _ hx1056_7)).trans hx1056_7
                        replace hx1056_8 := (HB.out.cell (World.block_lt_of_cell? w _ hx1056_8)).trans hx1056_8
                        have HR1056_7 := Aside0.mk hi1056_7
                        have HC1056_7 := Aside0.mk hl1056_7
                        clear hi1056_7 hl1056_7
                        replace p1056 := eq_true p1056
                        replace q1056 := eq_true q1056
                        have p1057 : 0 ≤ (x4_1 : Int) := DT
                        have q1057 : x4_1 < (l0_1.length : Int) := DT
                        obtain ⟨ad1057, A1057_7, c1057_7, e1057, hx1057_0, hx1057_1, hx1057_2, hx1057_3, hx1057_4, hx1057_5, hx1057_6, hx1057_7, hx1057_8, hl1057_7, hi1057_7⟩ := at_T135 HR0_1.out x4_1 p1057 q1057
                        have hw1057_8 := hx1057_8
                        have hw1057_7 := hx1057_7
                        have hw1057_6 := hx1057_6
                        have hw1057_5 := hx1057_5
                        have hw1057_4 := hx1057_4
                        have hw1057_3 := hx1057_3
                        have hw1057_2 := hx1057_2
                        have hw1057_1 := hx1057_1
                        have hw1057_0 := hx1057_0
                        obtain rfl : ad1051 = ad1057 := (by injection e1057)
                        replace hx1057_0 := (HB.out.cell (World.block_lt_of_cell? w _ hx1057_0)).trans hx1057_0
                        replace hx1057_1 := (HB.out.cell (World.block_lt_of_cell? w _ hx1057_1)).trans hx1057_1
                        replace hx1057_2 := (HB.out.cell (World.block_lt_of_cell? w _ hx1057_2)).trans hx1057_2
                        replace hx1057_3 := (HB.out.cell (World.block_lt_of_cell? w _ hx1057_3)).trans hx1057_3
                        replace hx1057_4 := (HB.out.cell (World.block_lt_of_cell? w _ hx1057_4)).trans hx1057_4
                        replace hx1057_5 := (HB.out.cell (World.block_lt_of_cell? w _ hx1057_5)).trans hx1057_5
                        replace hx1057_6 := (HB.out.cell (World.block_lt_of_cell? w _ hx1057_6)).trans hx1057_6
                        replace hx1057_7 := (HB.out.cell (World.block_lt_of_cell? w _ hx1057_7)).trans hx1057_7
                        replace hx1057_8 := (HB.out.cell (World.block_lt_of_cell? w _ hx1057_8)).trans hx1057_8
                        have HR1057_7 := Aside0.mk hi1057_7
                        have HC1057_7 := Aside0.mk hl1057_7
                        clear hi1057_7 hl1057_7
                        replace p1057 := eq_true p1057
                        replace q1057 := eq_true q1057
                        have ea_ := Option.some.inj (hx1056_7.symm.trans hx1057_7)
                        injection ea_ with ea_ en_ ec_
                        subst ea_
                        subst ec_
                        clear en_
                        have p1058 : 0 ≤ (x8_2 : Int) := DT
                        have q1058 : x8_2 < (((rd_T135 l0_1 x4_1).f7).length : Int) := DT
                        obtain ⟨ad1058, e1058, hx1058_0, hx1058_1⟩ := at_T137 HR1057_7.out x8_2 p1058 q1058
                        have hw1058_1 := hx1058_1
                        have hw1058_0 := hx1058_0
                        cases e1058
                        replace hx1058_0 := (HB.out.cell (World.block_lt_of_cell? w _ hx1058_0)).trans hx1058_0
                        replace hx1058_1 := (HB.out.cell (World.block_lt_of_cell? w _ hx1058_1)).trans hx1058_1
                        replace p1058 := eq_true p1058
                        replace q1058 := eq_true q1058
                        refine start_ (n := 21) (S := fun w' => w'.cell? ⟨gb1049, 0, none⟩ = some (.bool a0_0) ∧ w'.cell? ⟨gb1049, 1, none⟩ = some (.slice (some ad1051) l0_1.length c0_1) ∧ w'.cell? ⟨gb1049, 2, none⟩ = some (.int .i64 a0_2) ∧ w'.cell? ⟨gb1049, 3, none⟩ = some (.int .i64 a0_3) ∧ w'.cell? ⟨gb1049, 4, none⟩ = some (.slice A0_4 l0_4.length c0_4) ∧ w'.cell? ⟨gb1049, 5, none⟩ = some (.slice A0_5 l0_5.length c0_5) ∧ w'.cell? ⟨gb1049, 6, none⟩ = some (.int .i64 a0_6) ∧ w'.cell? ⟨gb1049, 7, none⟩ = some (.slice A0_7 l0_7.length c0_7) ∧ w'.cell? ⟨gb1049, 8, none⟩ = some (.slice A0_8 l0_8.length c0_8) ∧ w'.cell? ⟨gb1049, 9, none⟩ = some (.slice A0_9 l0_9.length c0_9) ∧ w'.cell? ⟨gb1049, 10, none⟩ = some (.slice A0_10 l0_10.length c0_10) ∧ w'.cell? ⟨gb1050, 0, none⟩ = some (.slice (some ad1051) l0_1.length c0_1) ∧ w'.cell? ⟨gb1050, 1, none⟩ = some (.int .i64 a0_2) ∧ w'.cell? (ad1051.add ((x4_1).toNat * 9)) = some (.int .i64 ((rd_T135 l0_1 x4_1).f0)) ∧ w'.cell? ⟨(ad1051.add ((x4_1).toNat * 9)).block, (ad1051.add ((x4_1).toNat * 9)).off + 1, none⟩ = some (.int .i64 ((rd_T135 l0_1 x4_1).f1)) ∧ w'.cell? ⟨(ad1051.add ((x4_1).toNat * 9)).block, (ad1051.add ((x4_1).toNat * 9)).off + 2, none⟩ = some (.string ((rd_T135 l0_1 x4_1).f2)) ∧ w'.cell? ⟨(ad1051.add ((x4_1).toNat * 9)).block, (ad1051.add ((x4_1).toNat * 9)).off + 3, none⟩ = some (.bool ((rd_T135 l0_1 x4_1).f3)) ∧ w'.cell? ⟨(ad1051.add ((x4_1).toNat * 9)).block, (ad1051.add ((x4_1).toNat * 9)).off + 4, none⟩ = some (.int .i64 ((rd_T135 l0_1 x4_1).f4)) ∧ w'.cell? ⟨(ad1051.add ((x4_1).toNat * 9)).block, (ad1051.add ((x4_1).toNat * 9)).off + 5, none⟩ = some (.int .i64 ((rd_T135 l0_1 x4_1).f5)) ∧ w'.cell? ⟨(ad1051.add ((x4_1).toNat * 9)).block, (ad1051.add ((x4_1).toNat * 9)).off + 6, none⟩ = some (.int .i64 ((rd_T135 l0_1 x4_1).f6)) ∧ w'.cell? ⟨(ad1051.add ((x4_1).toNat * 9)).block, (ad1051.add ((x4_1).toNat * 9)).off + 7, none⟩ = some (.slice (some ad1058) ((rd_T135 l0_1 x4_1).f7).length c1056_7) ∧ w'.cell? ⟨(ad1051.add ((x4_1).toNat * 9)).block, (ad1051.add ((x4_1).toNat * 9)).off + 8, none⟩ = some (.int .i64 ((rd_T135 l0_1 x4_1).f8)) ∧ w'.cell? (ad1051.add ((x4_1).toNat * 9)) = some (.int .i64 ((rd_T135 l0_1 x4_1).f0)) ∧ w'.cell? ⟨(ad1051.add ((x4_1).toNat * 9)).block, (ad1051.add ((x4_1).toNat * 9)).off + 1, none⟩ = some (.int .i64 ((rd_T135 l0_1 x4_1).f1)) ∧ w'.cell? ⟨(ad1051.add ((x4_1).toNat * 9)).block, (ad1051.add ((x4_1).toNat * 9)).off + 2, none⟩ = some (.string ((rd_T135 l0_1 x4_1).f2)) ∧ w'.cell? ⟨(ad1051.add ((x4_1).toNat * 9)).block, (ad1051.add ((x4_1).toNat * 9)).off + 3, none⟩ = some (.bool ((rd_T135 l0_1 x4_1).f3)) ∧ w'.cell? ⟨(ad1051.add ((x4_1).toNat * 9)).block, (ad1051.add ((x4_1).toNat * 9)).off + 4, none⟩ = some (.int .i64 ((rd_T135 l0_1 x4_1).f4)) ∧ w'.cell? ⟨(ad1051.add ((x4_1).toNat * 9)).block, (ad1051.add ((x4_1).toNat * 9)).off + 5, none⟩ = some (.int .i64 ((rd_T135 l0_1 x4_1).f5)) ∧ w'.cell? ⟨(ad1051.add ((x4_1).toNat * 9)).block, (ad1051.add ((x4_1).toNat * 9)).off + 6, none⟩ = some (.int .i64 ((rd_T135 l0_1 x4_1).f6)) ∧ w'.cell? ⟨(ad1051.add ((x4_1).toNat * 9)).block, (ad1051.add ((x4_1).toNat * 9)).off + 7, none⟩ = some (.slice (some ad1058) ((rd_T135 l0_1 x4_1).f7).length c1056_7) ∧ w'.cell? ⟨(ad1051.add ((x4_1).toNat * 9)).block, (ad1051.add ((x4_1).toNat * 9)).off + 8, none⟩ = some (.int .i64 ((rd_T135 l0_1 x4_1).f8)) ∧ w'.cell? (ad1058.add ((x8_2).toNat * 2)) = some (.int .i64 ((rd_T137 ((rd_T135 l0_1 x4_1).f7) x8_2).f0)) ∧ w'.cell? ⟨(ad1058.add ((x8_2).toNat * 2)).block, (ad1058.add ((x8_2).toNat * 2)).off + 1, none⟩ = some (.int .i64 ((rd_T137 ((rd_T135 l0_1 x4_1).f7) x8_2).f1))) (ds := []) #[false, false, false, false, false, false, false, false, false, false, false, false, false, false, false, false, false, false, false, false, false] (by kernel_rfl) rfl rfl ⟨(blk_cell BK1049.out 0).trans rfl, (blk_cell BK1049.out 1).trans rfl, (blk_cell BK1049.out 2).trans rfl, (blk_cell BK1049.out 3).trans rfl, (blk_cell BK1049.out 4).trans rfl, (blk_cell BK1049.out 5).trans rfl, (blk_cell BK1049.out 6).trans rfl, (blk_cell BK1049.out 7).trans rfl, (blk_cell BK1049.out 8).trans rfl, (blk_cell BK1049.out 9).trans rfl, (blk_cell BK1049.out 10).trans rfl, (blk_cell BK1050.out 0).trans rfl, (blk_cell BK1050.out 1).trans rfl, ((HB.out.cell (World.block_lt_of_cell? w _ hw1056_0)).trans hw1056_0), ((HB.out.cell (World.block_lt_of_cell? w _ hw1056_1)).trans hw1056_1), ((HB.out.cell (World.block_lt_of_cell? w _ hw1056_2)).trans hw1056_2), ((HB.out.cell (World.block_lt_of_cell? w _ hw1056_3)).trans hw1056_3), ((HB.out.cell (World.block_lt_of_cell? w _ hw1056_4)).trans hw1056_4), ((HB.out.cell (World.block_lt_of_cell? w _ hw1056_5)).trans hw1056_5), ((HB.out.cell (World.block_lt_of_cell? w _ hw1056_6)).trans hw1056_6), ((HB.out.cell (World.block_lt_of_cell? w _ hw1056_7)).trans hw1056_7), ((HB.out.cell (World.block_lt_of_cell? w _ hw1056_8)).trans hw1056_8), ((HB.out.cell (World.block_lt_of_cell? w _ hw1057_0)).trans hw1057_0), ((HB.out.cell (World.block_lt_of_cell? w _ hw1057_1)).trans hw1057_1), ((HB.out.cell (World.block_lt_of_cell? w _ hw1057_2)).trans hw1057_2), ((HB.out.cell (World.block_lt_of_cell? w _ hw1057_3)).trans hw1057_3), ((HB.out.cell (World.block_lt_of_cell? w _ hw1057_4)).trans hw1057_4), ((HB.out.cell (World.block_lt_of_cell? w _ hw1057_5)).trans hw1057_5), ((HB.out.cell (World.block_lt_of_cell? w _ hw1057_6)).trans hw1057_6), ((HB.out.cell (World.block_lt_of_cell? w _ hw1057_7)).trans hw1057_7), ((HB.out.cell (World.block_lt_of_cell? w _ hw1057_8)).trans hw1057_8), ((HB.out.cell (World.block_lt_of_cell? w _ hw1058_0)).trans hw1058_0), ((HB.out.cell (World.block_lt_of_cell? w _ hw1058_1)).trans hw1058_1)⟩ (fun hHeld => ?_); refine with_tabW spec_EnoughLeft.tab9 spec_EnoughLeft.bits9 (fun HT_ HW_ => ?_)
                        generalize wr.drew = w24 at BK1049 BK1050 HB HR1056_7 HR1057_7 hx1056_0 hx1056_1 hx1056_2 hx1056_3 hx1056_4 hx1056_5 hx1056_6 hx1056_7 hx1056_8 hx1057_0 hx1057_1 hx1057_2 hx1057_3 hx1057_4 hx1057_5 hx1057_6 hx1057_7 hx1057_8 hx1058_0 hx1058_1 hHeld ⊢
                        refine pure_ (i := 0) (N := some 41) (v := ?_) (a' := ?_) #[true, false, false, false, false, false, false, false, false, false, false, false, false, false, false, false, false, false, false, false, false] rfl rfl (any_of HT_.out (by kernel_rfl)) (fun _ _ _ h => h) (Or.inl ⟨by rfl, ?_⟩) ?_ ?_
                        rotate_left
                        · intro w'
                          go_simp
                          with_reducible rfl
                        rotate_left
                        · simp only [Act.put, List.setIfInBounds_toArray, List.set_cons_zero, List.set_cons_succ, i64_w, i32_w]
                          rfl
                        refine pure_ (i := 2) (N := some 43) (v := ?_) (a' := ?_) #[true, false, true, false, false, false, false, false, false, false, false, false, false, false, false, false, false, false, false, false, false] rfl rfl (any_of HT_.out (by kernel_rfl)) (fun _ _ _ h => h) (Or.inl ⟨by rfl, ?_⟩) ?_ ?_
                        rotate_left
                        · intro w'
                          go_simp
                          with_reducible rfl
                        rotate_left
                        · simp only [Act.put, List.setIfInBounds_toArray, List.set_cons_zero, List.set_cons_succ, i64_w, i32_w]
                          rfl
                        refine pure_ (i := 4) (N := some 45) (v := ?_) (a' := ?_) #[true, false, true, false, true, false, false, false, false, false, false, false, false, false, false, false, false, false, false, false, false] rfl rfl (any_of HT_.out (by kernel_rfl)) (fun _ _ _ h => h) (Or.inl ⟨by rfl, ?_⟩) ?_ ?_
                        rotate_left
                        · intro w'
                          go_simp
                          with_reducible rfl
                        rotate_left
                        · simp only [Act.put, List.setIfInBounds_toArray, List.set_cons_zero, List.set_cons_succ, i64_w, i32_w]
                          rfl
                        refine pure_ (i := 8) (N := some 49) (v := ?_) (a' := ?_) #[true, false, true, false, true, false, false, false, true, false, false, false, false, false, false, false, false, false, false, false, false] rfl rfl (any_of HT_.out (by kernel_rfl)) (fun _ _ _ h => h) (Or.inl ⟨by rfl, ?_⟩) ?_ ?_
                        rotate_left
                        · intro w'
                          go_simp
                          with_reducible rfl
                        rotate_left
                        · simp only [Act.put, List.setIfInBounds_toArray, List.set_cons_zero, List.set_cons_succ, i64_w, i32_w]
                          rfl
                        refine pure_ (i := 10) (N := some 51) (v := ?_) (a' := ?_) #[true, false, true, false, true, false, false, false, true, false, true, false, false, false, false, false, false, false, false, false, false] rfl rfl (any_of HT_.out (by kernel_rfl)) (fun _ _ _ h => h) (Or.inl ⟨by rfl, ?_⟩) ?_ ?_
                        rotate_left
                        · intro w'
                          go_simp
                          with_reducible rfl
                        rotate_left
                        · simp only [Act.put, List.setIfInBounds_toArray, List.set_cons_zero, List.set_cons_succ, i64_w, i32_w]
                          rfl
                        refine pure_ (i := 14) (N := some 55) (v := ?_) (a' := ?_) #[true, false, true, false, true, false, false, false, true, false, true, false, false, false, true, false, false, false, false, false, false] rfl rfl (any_of HT_.out (by kernel_rfl)) (fun _ _ _ h => h) (Or.inl ⟨by rfl, ?_⟩) ?_ ?_
                        rotate_left
                        · intro w'
                          go_simp
                          with_reducible rfl
                        rotate_left
                        · simp only [Act.put, List.setIfInBounds_toArray, List.set_cons_zero, List.set_cons_succ, i64_w, i32_w]
                          rfl
                        refine pure_ (i := 19) (N := some 60) (v := ?_) (a' := ?_) #[true, false, true, false, true, false, false, false, true, false, true, false, false, false, true, false, false, false, false, true, false] rfl rfl (any_of HT_.out (by kernel_rfl)) (fun _ _ _ h => h) (Or.inl ⟨by rfl, ?_⟩) ?_ ?_
                        rotate_left
                        · intro w'
                          go_simp
                          with_reducible rfl
                        rotate_left
                        · simp only [Act.put, List.setIfInBounds_toArray, List.set_cons_zero, List.set_cons_succ, i64_w, i32_w]
                          rfl
                        refine take_ (i := 1) (N := some 42) (v := ?_) (a' := ?_) #[true, true, true, false, true, false, false, false, true, false, true, false, false, false, true, false, false, false, false, true, false] rfl rfl (take_ofW HT_.out HW_.out (by kernel_rfl)) (fun _ _ _ h => h) (Or.inl ⟨by rfl, ?_⟩) hHeld ?_ ?_
                        rotate_left
                        · rintro w' ⟨s0, s1, s2, s3, s4, s5, s6, s7, s8, s9, s10, s11, s12, s13, s14, s15, s16, s17, s18, s19, s20, s21, s22, s23, s24, s25, s26, s27, s28, s29, s30, s31, s32⟩
                          go_simp
                          with_reducible rfl
                        rotate_left
                        · simp only [Act.put, List.setIfInBounds_toArray, List.set_cons_zero, List.set_cons_succ, i64_w, i32_w]
                          rfl
                        refine take_ (i := 3) (N := some 44) (v := ?_) (a' := ?_) #[true, true, true, true, true, false, false, false, true, false, true, false, false, false, true, false, false, false, false, true, false] rfl rfl (take_ofW HT_.out HW_.out (by kernel_rfl)) (fun _ _ _ h => h) (Or.inl ⟨by rfl, ?_⟩) hHeld ?_ ?_
                        rotate_left
                        · rintro w' ⟨s0, s1, s2, s3, s4, s5, s6, s7, s8, s9, s10, s11, s12, s13, s14, s15, s16, s17, s18, s19, s20, s21, s22, s23, s24, s25, s26, s27, s28, s29, s30, s31, s32⟩
                          go_simp
                          with_reducible rfl
                        rotate_left
                        · simp only [Act.put, List.setIfInBounds_toArray, List.set_cons_zero, List.set_cons_succ, i64_w, i32_w]
                          rfl
                        refine pure_ (i := 5) (N := some 46) (v := ?_) (a' := ?_) #[true, true, true, true, true, true, false, false, true, false, true, false, false, false, true, false, false, false, false, true, false] rfl rfl (any_of HT_.out (by kernel_rfl)) (fun _ _ _ h => h) (Or.inl ⟨by rfl, ?_⟩) ?_ ?_
                        rotate_left
                        · intro w'
                          go_simp
                          with_reducible rfl
                        rotate_left
                        · simp only [Act.put, List.setIfInBounds_toArray, List.set_cons_zero, List.set_cons_succ, i64_w, i32_w]
                          rfl
                        refine pure_ (i := 6) (N := some 47) (v := ?_) (a' := ?_) #[true, true, true, true, true, true, true, false, true, false, true, false, false, false, true, false, false, false, false, true, false] rfl rfl (any_of HT_.out (by kernel_rfl)) (fun _ _ _ h => h) (Or.inl ⟨by rfl, ?_⟩) ?_ ?_
                        rotate_left
                        · intro w'
                          go_simp
                          with_reducible rfl
                        rotate_left
                        · simp only [Act.put, List.setIfInBounds_toArray, List.set_cons_zero, List.set_cons_succ, i64_w, i32_w]
                          rfl
                        refine take_ (i := 7) (N := some 48) (v := ?_) (a' := ?_) #[true, true, true, true, true, true, true, true, true, false, true, false, false, false, true, false, false, false, false, true, false] rfl rfl (take_ofW HT_.out HW_.out (by kernel_rfl)) (fun _ _ _ h => h) (Or.inl ⟨by rfl, ?_⟩) hHeld ?_ ?_
                        rotate_left
                        · rintro w' ⟨s0, s1, s2, s3, s4, s5, s6, s7, s8, s9, s10, s11, s12, s13, s14, s15, s16, s17, s18, s19, s20, s21, s22, s23, s24, s25, s26, s27, s28, s29, s30, s31, s32⟩
                          go_simp
                          with_reducible rfl
                        rotate_left
                        · simp only [Act.put, List.setIfInBounds_toArray, List.set_cons_zero, List.set_cons_succ, i64_w, i32_w]
                          rfl
                        refine take_ (i := 9) (N := some 50) (v := ?_) (a' := ?_) #[true, true, true, true, true, true, true, true, true, true, true, false, false, false, true, false, false, false, false, true, false] rfl rfl (take_ofW HT_.out HW_.out (by kernel_rfl)) (fun _ _ _ h => h) (Or.inl ⟨by rfl, ?_⟩) hHeld ?_ ?_
                        rotate_left
                        · rintro w' ⟨s0, s1, s2, s3, s4, s5, s6, s7, s8, s9, s10, s11, s12, s13, s14, s15, s16, s17, s18, s19, s20, s21, s22, s23, s24, s25, s26, s27, s28, s29, s30, s31, s32⟩
                          go_simp
                          with_reducible rfl
                        rotate_left
                        · simp only [Act.put, List.setIfInBounds_toArray, List.set_cons_zero, List.set_cons_succ, i64_w, i32_w]
                          rfl
                        refine pure_ (i := 11) (N := some 52) (v := ?_) (a' := ?_) #[true, true, true, true, true, true, true, true, true, true, true, true, false, false, true, false, false, false, false, true, false] rfl rfl (any_of HT_.out (by kernel_rfl)) (fun _ _ _ h => h) (Or.inl ⟨by rfl, ?_⟩) ?_ ?_
                        rotate_left
                        · intro w'
                          go_simp
                          with_reducible rfl
                        rotate_left
                        · simp only [Act.put, List.setIfInBounds_toArray, List.set_cons_zero, List.set_cons_succ, i64_w, i32_w]
                          rfl
                        refine pure_ (i := 12) (N := some 53) (v := ?_) (a' := ?_) #[true, true, true, true, true, true, true, true, true, true, true, true, true, false, true, false, false, false, false, true, false] rfl rfl (any_of HT_.out (by kernel_rfl)) (fun _ _ _ h => h) (Or.inl ⟨by rfl, ?_⟩) ?_ ?_
                        rotate_left
                        · intro w'
                          go_simp
                          with_reducible rfl
                        rotate_left
                        · simp only [Act.put, List.setIfInBounds_toArray, List.set_cons_zero, List.set_cons_succ, i64_w, i32_w]
                          rfl
                        refine take_ (i := 13) (N := some 54) (v := ?_) (a' := ?_) #[true, true, true, true, true, true, true, true, true, true, true, true, true, true, true, false, false, false, false, true, false] rfl rfl (take_ofW HT_.out HW_.out (by kernel_rfl)) (fun _ _ _ h => h) (Or.inl ⟨by rfl, ?_⟩) hHeld ?_ ?_
                        rotate_left
                        · rintro w' ⟨s0, s1, s2, s3, s4, s5, s6, s7, s8, s9, s10, s11, s12, s13, s14, s15, s16, s17, s18, s19, s20, s21, s22, s23, s24, s25, s26, s27, s28, s29, s30, s31, s32⟩
                          go_simp
                          with_reducible rfl
                        rotate_left
                        · simp only [Act.put, List.setIfInBounds_toArray, List.set_cons_zero, List.set_cons_succ, i64_w, i32_w]
                          rfl
                        refine pure_ (i := 15) (N := some 56) (v := ?_) (a' := ?_) #[true, true, true, true, true, true, true, true, true, true, true, true, true, true, true, true, false, false, false, true, false] rfl rfl (any_of HT_.out (by kernel_rfl)) (fun _ _ _ h => h) (Or.inl ⟨by rfl, ?_⟩) ?_ ?_
                        rotate_left
                        · intro w'
                          go_simp
                          with_reducible rfl
                        rotate_left
                        · simp only [Act.put, List.setIfInBounds_toArray, List.set_cons_zero, List.set_cons_succ, i64_w, i32_w]
                          rfl
                        refine pure_ (i := 16) (N := some 57) (v := ?_) (a' := ?_) #[true, true, true, true, true, true, true, true, true, true, true, true, true, true, true, true, true, false, false, true, false] rfl rfl (any_of HT_.out (by kernel_rfl)) (fun _ _ _ h => h) (Or.inl ⟨by rfl, ?_⟩) ?_ ?_
                        rotate_left
                        · intro w'
                          go_simp
                          with_reducible rfl
                        rotate_left
                        · simp only [Act.put, List.setIfInBounds_toArray, List.set_cons_zero, List.set_cons_succ, i64_w, i32_w]
                          rfl
                        refine take_ (i := 17) (N := some 58) (v := ?_) (a' := ?_) #[true, true, true, true, true, true, true, true, true, true, true, true, true, true, true, true, true, true, false, true, false] rfl rfl (take_ofW HT_.out HW_.out (by kernel_rfl)) (fun _ _ _ h => h) (Or.inl ⟨by rfl, ?_⟩) hHeld ?_ ?_
                        rotate_left
                        · rintro w' ⟨s0, s1, s2, s3, s4, s5, s6, s7, s8, s9, s10, s11, s12, s13, s14, s15, s16, s17, s18, s19, s20, s21, s22, s23, s24, s25, s26, s27, s28, s29, s30, s31, s32⟩
                          go_simp
                          with_reducible rfl
                        rotate_left
                        · simp only [Act.put, List.setIfInBounds_toArray, List.set_cons_zero, List.set_cons_succ, i64_w, i32_w]
                          rfl
                        refine one_ (i := 18) (N := some 59) #[true, true, true, true, true, true, true, true, true, true, true, true, true, true, true, true, true, true, true, true, false] rfl rfl (one_of HT_.out (by kernel_rfl)) (by decide) (fun K hK => ?_)
                        refine goes_ Try.func12 (by kernel_rfl) rfl #[.slice A0_7 l0_7.length c0_7, .int .i64 ((rd_T135 l0_1 x4_1).f4), .int .i64 ((rd_T137 ((rd_T135 l0_1 x4_1).f7) x8_2).f0)] (by rfl) rfl rfl (by (try simp only [List.map_toArray, List.map_cons, List.map_nil]); first | done | rfl | (simp only [List.length_drop, List.length_take]; rfl)) ?_
                        with_reducible refine (spec_LeftOf.calls k2 _ _ l0_7 ((rd_T135 l0_1 x4_1).f4) ((rd_T137 ((rd_T135 l0_1 x4_1).f7) x8_2).f0) t1059 _ ?side1 ?side2 A16.out).mono ?_
                        (case side1 => exact CC (Kd.C_below HR0_7.out HB.out))
                        (case side2 => exact HC0_7.out)
                        rintro e w25 ⟨rfl, hb⟩
                        refine ⟨_, rfl, ?_⟩
                        have n0_ := Aside0.mk (KB BK1049.out hb)
                        have n1_ := Aside0.mk (KB BK1050.out hb)
                        have n2_ := Aside0.mk (below_step (BB2 HB.out GE1049.out GE1050.out) hb)
                        clear BK1049
                        clear BK1050
                        clear HB
                        have BK1049 := n0_
                        have BK1050 := n1_
                        have HB := n2_
                        clear n0_ n1_ n2_
                        (try clear hb)
                        (try clear hb2)
                        (try clear hk)
                        (try clear hi)
                        refine hK.out _ _ ⟨(blk_cell BK1049.out 0).trans rfl, (blk_cell BK1049.out 1).trans rfl, (blk_cell BK1049.out 2).trans rfl, (blk_cell BK1049.out 3).trans rfl, (blk_cell BK1049.out 4).trans rfl, (blk_cell BK1049.out 5).trans rfl, (blk_cell BK1049.out 6).trans rfl, (blk_cell BK1049.out 7).trans rfl, (blk_cell BK1049.out 8).trans rfl, (blk_cell BK1049.out 9).trans rfl, (blk_cell BK1049.out 10).trans rfl, (blk_cell BK1050.out 0).trans rfl, (blk_cell BK1050.out 1).trans rfl, ((HB.out.cell (World.block_lt_of_cell? w _ hw1056_0)).trans hw1056_0), ((HB.out.cell (World.block_lt_of_cell? w _ hw1056_1)).trans hw1056_1), ((HB.out.cell (World.block_lt_of_cell? w _ hw1056_2)).trans hw1056_2), ((HB.out.cell (World.block_lt_of_cell? w _ hw1056_3)).trans hw1056_3), ((HB.out.cell (World.block_lt_of_cell? w _ hw1056_4)).trans hw1056_4), ((HB.out.cell (World.block_lt_of_cell? w _ hw1056_5)).trans hw1056_5), ((HB.out.cell (World.block_lt_of_cell? w _ hw1056_6)).trans hw1056_6), ((HB.out.cell (World.block_lt_of_cell? w _ hw1056_7)).trans hw1056_7), ((HB.out.cell (World.block_lt_of_cell? w _ hw1056_8)).trans hw1056_8), ((HB.out.cell (World.block_lt_of_cell? w _ hw1057_0)).trans hw1057_0), ((HB.out.cell (World.block_lt_of_cell? w _ hw1057_1)).trans hw1057_1), ((HB.out.cell (World.block_lt_of_cell? w _ hw1057_2)).trans hw1057_2), ((HB.out.cell (World.block_lt_of_cell? w _ hw1057_3)).trans hw1057_3), ((HB.out.cell (World.block_lt_of_cell? w _ hw1057_4)).trans hw1057_4), ((HB.out.cell (World.block_lt_of_cell? w _ hw1057_5)).trans hw1057_5), ((HB.out.cell (World.block_lt_of_cell? w _ hw1057_6)).trans hw1057_6), ((HB.out.cell (World.block_lt_of_cell? w _ hw1057_7)).trans hw1057_7), ((HB.out.cell (World.block_lt_of_cell? w _ hw1057_8)).trans hw1057_8), ((HB.out.cell (World.block_lt_of_cell? w _ hw1058_0)).trans hw1058_0), ((HB.out.cell (World.block_lt_of_cell? w _ hw1058_1)).trans hw1058_1)⟩ (fun hHeld => ?_)
                        clear hK K
                        refine norm_ (a' := ?_) ?_ ?_
                        rotate_left
                        · show Act.put _ (some 59) _ = _
                          simp only [Act.put, List.setIfInBounds_toArray, List.set_cons_zero, List.set_cons_succ, i64_w, i32_w]
                          rfl
                        refine pure_ (i := 20) (N := some 61) (v := ?_) (a' := ?_) #[true, true, true, true, true, true, true, true, true, true, true, true, true, true, true, true, true, true, true, true, true] rfl rfl (any_of HT_.out (by kernel_rfl)) (fun _ _ _ h => h) (Or.inl ⟨by rfl, ?_⟩) ?_ ?_
                        rotate_left
                        · intro w'
                          go_simp
                          with_reducible rfl
                        rotate_left
                        · simp only [Act.put, List.setIfInBounds_toArray, List.set_cons_zero, List.set_cons_succ, i64_w, i32_w]
                          rfl
                        refine done_ (done_of HT_.out (by kernel_rfl)) ?_
                        try go_wp2
                        go_roundg k2
                        case measure => have := HK1.out; have := HK2.out; omega
                        case rel => exact ⟨(wrap64 (x8_2 + 1)), FR, H', ⟨by have := HK1.out; have := HK2.out; omega⟩, ⟨by (with_reducible repeat (first | refine blk_drewN ?_ _ | refine blk_drew ?_ | refine blk_alloc ?_ _)); exact BK1049.out⟩, ⟨by (with_reducible repeat (first | refine blk_drewN ?_ _ | refine blk_drew ?_ | refine blk_alloc ?_ _)); exact BK1050.out⟩, ⟨(BB2 HB.out GE1049.out GE1050.out)⟩⟩
                    · rw [if_neg c15] at H
                      exact absurd H (by simp)
                  · rw [if_neg c14] at H
                    have c14b0 : decide (x8_2 < (((rd_T135 l0_1 x4_1).f7).length : Int)) = false := decide_eq_false c14
                    clear c14
                    have H' := Aside0.mk H
                    clear H
                    have hnb26 := NB1050_1049.out
                    have hnc26 := NB1049_1050.out
                    have hcz27_0 : wr.cell? ⟨gb1050, 0, none⟩ = some (.slice (some ad1051) l0_1.length c0_1) := (blk_cell BK1050.out 0).trans rfl
                    have hcz27_1 : wr.cell? ⟨gb1050, 1, none⟩ = some (.int .i64 a0_2) := (blk_cell BK1050.out 1).trans rfl
                    have hfz27_0 := blk_frozen BK1050.out 0
                    have hfz27_1 := blk_frozen BK1050.out 1
                    have p1055 : 0 ≤ (x4_1 : Int) := DT
                    have q1055 : x4_1 < (l0_1.length : Int) := DT
                    obtain ⟨ad1055, A1055_7, c1055_7, e1055, hx1055_0, hx1055_1, hx1055_2, hx1055_3, hx1055_4, hx1055_5, hx1055_6, hx1055_7, hx1055_8, hl1055_7, hi1055_7⟩ := at_T135 HR0_1.out x4_1 p1055 q1055
                    obtain rfl : ad1051 = ad1055 := (by injection e1055)
                    replace hx1055_0 := (HB.out.cell (World.block_lt_of_cell? w _ hx1055_0)).trans hx1055_0
                    replace hx1055_1 := (HB.out.cell (World.block_lt_of_cell? w _ hx1055_1)).trans hx1055_1
                    replace hx1055_2 := (HB.out.cell (World.block_lt_of_cell? w _ hx1055_2)).trans hx1055_2
                    replace hx1055_3 := (HB.out.cell (World.block_lt_of_cell? w _ hx1055_3)).trans hx1055_3
                    replace hx1055_4 := (HB.out.cell (World.block_lt_of_cell? w _ hx1055_4)).trans hx1055_4
                    replace hx1055_5 := (HB.out.cell (World.block_lt_of_cell? w _ hx1055_5)).trans hx1055_5
                    replace hx1055_6 := (HB.out.cell (World.block_lt_of_cell? w _ hx1055_6)).trans hx1055_6
                    replace hx1055_7 := (HB.out.cell (World.block_lt_of_cell? w _ hx1055_7)).trans hx1055_7
                    replace hx1055_8 := (HB.out.cell (World.block_lt_of_cell? w _ hx1055_8)).trans hx1055_8
                    have HR1055_7 := Aside0.mk hi1055_7
                    have HC1055_7 := Aside0.mk hl1055_7
                    clear hi1055_7 hl1055_7
                    replace p1055 := eq_true p1055
                    replace q1055 := eq_true q1055
                    go_wp2
                    go_roundg k2
                    case measure => have := HK1.out; have := HK2.out; omega
                    case rel => exact ⟨(wrap64 (x4_1 + 1)), FR, H', ⟨by have := HK1.out; have := HK2.out; omega⟩, ⟨by (with_reducible repeat (first | refine blk_drewN ?_ _ | refine blk_drew ?_ | refine blk_alloc ?_ _)); exact BK1049.out⟩, ⟨by (with_reducible repeat (first | refine blk_drewN ?_ _ | refine blk_drew ?_ | refine blk_alloc ?_ _)); exact BK1050.out⟩, ⟨(BB2 HB.out GE1049.out GE1050.out)⟩⟩
                · rw [if_neg c13] at H
                  exact absurd H (by simp)
              · rw [if_neg c12] at H
                exact absurd H (by simp)
        · rw [if_neg c8] at H
          exact absurd H (by simp)
      · rw [if_neg c7] at H
        have c7b0 : decide (x4_1 < (l0_1.length : Int)) = false := decide_eq_false c7
        clear c7
        obtain rfl := Option.some.inj H
        have hnb28 := NB1050_1049.out
        have hnc28 := NB1049_1050.out
        have hcz29_0 : wr.cell? ⟨gb1050, 0, none⟩ = some (.slice A0_1 l0_1.length c0_1) := (blk_cell BK1050.out 0).trans rfl
        have hcz29_1 : wr.cell? ⟨gb1050, 1, none⟩ = some (.int .i64 a0_2) := (blk_cell BK1050.out 1).trans rfl
        have hfz29_0 := blk_frozen BK1050.out 0
        have hfz29_1 := blk_frozen BK1050.out 1
        go_wp2
        go_ret
        exact ⟨ER, (BB2 HB.out GE1049.out GE1050.out)⟩

end Go.Proofs.Ytfgnaneajonapaa.Pr

/- Printed out of the translation by this session's pr.py over the kit's print. Lean checks it. -/
namespace Go.Proofs.Ytfgnaneajonapaa.Pr
open Go.RowKit Go.Proofs.YtfgnaneajonapaaW.PrintWords Go.Proofs.YtfgnaneajonapaaW.PrintLast Go.Proofs.YtfgnaneajonapaaW.PrintMore
attribute [local go_sem] max2_int min2_int max_two min_two max_three min_three max_four min_four
set_option linter.unusedVariables false
set_option linter.unusedSimpArgs false

/-! ### impl_SchemaOf: function 57 -/
def impl_SchemaOf.f (a0 : Int) : Option (Int × Int × Bool) := if a0 = 1 then (some (2, 1, true)) else (if a0 = 2 then (some (3, 2, true)) else (if a0 = 3 then (some (4, 2, true)) else (some (0, 0, false))))
set_option maxHeartbeats 8000000 in
set_option maxRecDepth 100000 in
theorem impl_SchemaOf.calls (a0 : Int) (r1 : Int) (r2 : Int) (r3 : Bool) (w : World) (h : impl_SchemaOf.f a0 = some (r1, r2, r3)) :
    Calls Try.prog 57 #[.int .i64 a0] w fun e w' => e = .returned (.tuple #[.int .i64 r1, .int .i64 r2, .bool r3]) ∧ Drawn0 w w' := by
  have H : (if a0 = 1 then (some (2, 1, true)) else (if a0 = 2 then (some (3, 2, true)) else (if a0 = 3 then (some (4, 2, true)) else (some (0, 0, false))))) = some (r1, r2, r3) := h
  clear h
  by_cases c2 : a0 = 1
  · rw [if_pos c2] at H
    have c2b0 : (a0 == 1) = true := beq_iff_eq.mpr c2
    have c2b1 : (a0 != 1) = false := bne_eq_false_iff_eq.mpr c2
    clear c2
    simp only [Option.some.injEq, Prod.mk.injEq] at H
    obtain ⟨rfl, rfl, rfl⟩ := H
    go_enter Try.func57, Try.ntmps57
    go_wp2
    go_ret3
    exact ⟨FR, by repeat (first | exact Drawn0.refl _ | apply Drawn0.step)⟩
  · rw [if_neg c2] at H
    have c2b0 : (a0 == 1) = false := beq_eq_false_iff_ne.mpr c2
    have c2b1 : (a0 != 1) = true := bne_iff_ne.mpr c2
    by_cases c3 : a0 = 2
    · rw [if_pos c3] at H
      have c3b0 : (a0 == 2) = true := beq_iff_eq.mpr c3
      have c3b1 : (a0 != 2) = false := bne_eq_false_iff_eq.mpr c3
      clear c3
      simp only [Option.some.injEq, Prod.mk.injEq] at H
      obtain ⟨rfl, rfl, rfl⟩ := H
      go_enter Try.func57, Try.ntmps57
      go_wp2
      go_ret3
      exact ⟨FR, by repeat (first | exact Drawn0.refl _ | apply Drawn0.step)⟩
    · rw [if_neg c3] at H
      have c3b0 : (a0 == 2) = false := beq_eq_false_iff_ne.mpr c3
      have c3b1 : (a0 != 2) = true := bne_iff_ne.mpr c3
      by_cases c4 : a0 = 3
      · rw [if_pos c4] at H
        have c4b0 : (a0 == 3) = true := beq_iff_eq.mpr c4
        have c4b1 : (a0 != 3) = false := bne_eq_false_iff_eq.mpr c4
        clear c4
        simp only [Option.some.injEq, Prod.mk.injEq] at H
        obtain ⟨rfl, rfl, rfl⟩ := H
        go_enter Try.func57, Try.ntmps57
        go_wp2
        go_ret3
        exact ⟨FR, by repeat (first | exact Drawn0.refl _ | apply Drawn0.step)⟩
      · rw [if_neg c4] at H
        have c4b0 : (a0 == 3) = false := beq_eq_false_iff_ne.mpr c4
        have c4b1 : (a0 != 3) = true := bne_iff_ne.mpr c4
        simp only [Option.some.injEq, Prod.mk.injEq] at H
        obtain ⟨rfl, rfl, rfl⟩ := H
        go_enter Try.func57, Try.ntmps57
        go_wp2
        go_ret3
        exact ⟨FR, by repeat (first | exact Drawn0.refl _ | apply Drawn0.step)⟩

end Go.Proofs.Ytfgnaneajonapaa.Pr

namespace Go.Proofs.Ytfgnaneajonapaa.Pr
open Go.RowKit Go.Proofs.YtfgnaneajonapaaW.PrintWords Go.Proofs.YtfgnaneajonapaaW.PrintLast Go.Proofs.YtfgnaneajonapaaW.PrintMore
set_option linter.unusedVariables false
set_option linter.unusedSimpArgs false
/-- The place of the first element that meets p, from place j on; -1 without one. -/
def idxF {α : Type} (p : α → Bool) : List α → Nat → Int
  | [], _ => -1
  | x :: s, j => if p x = true then (j : Int) else idxF p s (j + 1)
theorem idxF_drop_hit {α : Type} (p : α → Bool) (xs : List α) (d : α) (j : Nat) (h : j < xs.length) (hp : p (xs.getD j d) = true) : idxF p (xs.drop j) j = (j : Int) := by
  rw [List.drop_eq_getElem_cons h, idxF, if_pos]
  simpa [List.getD, List.getElem?_eq_getElem h] using hp
theorem idxF_drop_miss {α : Type} (p : α → Bool) (xs : List α) (d : α) (j : Nat) (h : j < xs.length) (hp : p (xs.getD j d) = false) : idxF p (xs.drop j) j = idxF p (xs.drop (j + 1)) (j + 1) := by
  rw [List.drop_eq_getElem_cons h, idxF, if_neg]
  simpa [List.getD, List.getElem?_eq_getElem h] using hp
set_option maxHeartbeats 2000000 in
set_option maxRecDepth 100000 in
theorem ixUnit (g : Nat) (lb : Array Value) (eg : ∀ args w, (callFunc g args).run Try.prog w = .ok (.enter g args) w) (p : S146 → Bool) (A : Option Addr) (c : Nat) (xs : List S146) (w : World)
    (hp : ∀ (W : World) (x : S146), Below w.heap.size w W → Calls Try.prog g (#[.agg #[.int .i64 x.f0, .int .i64 x.f1, .string x.f2, .int .i64 x.f3]] ++ lb) W fun e w' => e = .returned (.bool (p x)) ∧ Below w.heap.size w w')
    (hr : Kd.C k146 w A xs.length xs) :
    Calls Try.prog 149 #[.slice A xs.length c, .func (.func g) #[] lb] w fun e w' => e = .returned (.int .i64 (idxF p xs 0)) ∧ Below w.heap.size w w' := by
  have hu146 := Try.underlying146
  have HR := Aside0.mk hr
  have HL := Aside0.mk hr.2.1
  have HP := Aside0.mk hp
  have HD : xs.drop 0 = xs := rfl
  have HG := Aside0.mk (show idxF p (xs.drop 0) 0 = idxF p xs 0 from rfl)
  clear hr hp HD
  generalize hre : idxF p xs 0 = res at HG
  clear hre
  go_enter Try.func149, Try.ntmps149
  go_wp2
  go_loopg [5, 8] xs.length (fun gg _ s8 wr => ∃ kk : Nat, kk ≤ xs.length ∧ xs.length - kk ≤ gg ∧ s8 = .int .i64 kk ∧ Aside0 (Below w.heap.size w wr) ∧ Aside0 (idxF p (xs.drop kk) kk = res))
  case atStart => exact ⟨0, Nat.zero_le _, by omega, rfl, ⟨Below.refl _ w⟩, HG⟩
  case round =>
    obtain ⟨kk, hkk, hg, rfl, BW, A1⟩ := hrel
    have hlen := HL.out
    by_cases hlt : kk < xs.length
    · have hltz : (kk : Int) < (xs.length : Int) := by omega
      obtain ⟨ad, e1, hx0, hx1, hx2, hx3⟩ := at_T146 HR.out (kk : Int) (by omega) hltz
      have hcall := HP.out wr (rd_T146 xs (kk : Int)) BW.out
      have hy : rd_T146 xs (kk : Int) = xs.getD kk z146 := rfl
      have hmiss := Aside0.mk (idxF_drop_miss p xs z146 kk hlt)
      have hhit := Aside0.mk (idxF_drop_hit p xs z146 kk hlt)
      replace hx0 := (BW.out.cell (World.block_lt_of_cell? w _ hx0)).trans hx0
      replace hx1 := (BW.out.cell (World.block_lt_of_cell? w _ hx1)).trans hx1
      replace hx2 := (BW.out.cell (World.block_lt_of_cell? w _ hx2)).trans hx2
      replace hx3 := (BW.out.cell (World.block_lt_of_cell? w _ hx3)).trans hx3
      simp only [Int.toNat_natCast] at hx0 hx1 hx2 hx3
      rw [← hy] at hmiss hhit
      clear hy
      generalize rd_T146 xs (kk : Int) = y at hx0 hx1 hx2 hx3 hcall hmiss hhit
      subst e1
      cases hq : p y with
      | true =>
        rw [hq] at hcall
        have A2 := Aside0.mk (((hhit.out hq).symm.trans A1.out).symm)
        clear hq hmiss hhit A1
        go_wp2_with (go_at_fn g; refine hcall.mono ?_; rintro e w' ⟨rfl, hb'⟩)
        go_ret
        exact ⟨by rw [A2.out]; try rfl, hb'⟩
      | false =>
        rw [hq] at hcall
        have A2 := Aside0.mk ((hmiss.out hq).symm.trans A1.out)
        clear hq hmiss hhit A1
        go_wp2_with (go_at_fn g; refine hcall.mono ?_; rintro e w' ⟨rfl, hb'⟩)
        go_roundg (xs.length - (kk + 1))
        case measure => omega
        case rel => exact ⟨kk + 1, by omega, by omega, by go_num, ⟨hb'⟩, A2⟩
    · have hltz : ¬ (kk : Int) < (xs.length : Int) := by omega
      have hd1 : decide ((kk : Int) < (xs.length : Int)) = false := decide_eq_false hltz
      have hd2 : decide (kk < xs.length) = false := decide_eq_false hlt
      have A2 := Aside0.mk (show res = -1 by rw [← A1.out, List.drop_eq_nil_of_le (by omega)]; rfl)
      clear A1
      go_wp2
      go_ret
      exact ⟨by rw [A2.out]; try rfl, BW.out⟩
end Go.Proofs.Ytfgnaneajonapaa.Pr

namespace Go.Proofs.Ytfgnaneajonapaa.Pr
open Go.RowKit Go.Proofs.YtfgnaneajonapaaW.PrintWords Go.Proofs.YtfgnaneajonapaaW.PrintLast Go.Proofs.YtfgnaneajonapaaW.PrintMore
set_option linter.unusedVariables false
set_option linter.unusedSimpArgs false
def isAt (a1 a2 : Int) (u : S146) : Bool := if u.f0 = a1 then decide (u.f1 = a2) else false
theorem isAt_t {a1 a2 : Int} {u : S146} (h : u.f0 = a1) : isAt a1 a2 u = (u.f1 == a2) := by
  unfold isAt
  rw [if_pos h]
  by_cases c : u.f1 = a2 <;> simp [c]
theorem isAt_f {a1 a2 : Int} {u : S146} (h : ¬ u.f0 = a1) : isAt a1 a2 u = false := by
  unfold isAt
  rw [if_neg h]
set_option maxHeartbeats 2000000 in
set_option maxRecDepth 100000 in
theorem cl_unitAt (x : S146) (a1 a2 : Int) (B1 B2 : Nat) (w : World) (h1 : w.cell? ⟨B1, 0, none⟩ = some (.int .i64 a1)) (h2 : w.cell? ⟨B2, 0, none⟩ = some (.int .i64 a2)) (l1 : B1 < w.heap.size) (l2 : B2 < w.heap.size) :
    Calls Try.prog 150 #[.agg #[.int .i64 x.f0, .int .i64 x.f1, .string x.f2, .int .i64 x.f3], .pointer (some ⟨B1, 0, none⟩), .pointer (some ⟨B2, 0, none⟩)] w fun e w' => e = .returned (.bool (isAt a1 a2 x)) ∧ Below w.heap.size w w' := by
  by_cases c : x.f0 = a1
  · rw [isAt_t c]
    have hd : (x.f0 == a1) = true := beq_iff_eq.mpr c
    clear c
    generalize hq : (x.f1 == a2) = q
    go_enter Try.func150, Try.ntmps150
    go_wp2
    go_ret
    exact ⟨rfl, (Below.refl _ _).alloc (Nat.le_refl _) _⟩
  · rw [isAt_f c]
    have hd : (x.f0 == a1) = false := beq_eq_false_iff_ne.mpr c
    clear c
    go_enter Try.func150, Try.ntmps150
    go_wp2
    go_ret
    exact ⟨rfl, (Below.refl _ _).alloc (Nat.le_refl _) _⟩
def impl_unitAt.f (a0_0 : Int) (a0_1 : Bool) (l0_2 : List (S146)) (a1 : Int) (a2 : Int) : Option Int := some (idxF (isAt a1 a2) l0_2 0)
set_option maxHeartbeats 2000000 in
set_option maxRecDepth 100000 in
theorem impl_unitAt.calls (a0_0 : Int) (a0_1 : Bool) (A0_2 : Option Addr) (c0_2 : Nat) (l0_2 : List (S146)) (a1 : Int) (a2 : Int) (r : Int) (w : World) (hr0_2 : Kd.C k146 w A0_2 l0_2.length l0_2) (hc0_2 : l0_2.length ≤ c0_2) (h : impl_unitAt.f a0_0 a0_1 l0_2 a1 a2 = some r) :
    Calls Try.prog 106 #[.agg #[.int .i64 a0_0, .bool a0_1, .slice A0_2 l0_2.length c0_2], .int .i64 a1, .int .i64 a2] w fun e w' => e = .returned (.int .i64 r) ∧ Below w.heap.size w w' := by
  obtain rfl := Option.some.inj h
  clear h
  have hu97 := Try.underlying97
  have HR := Aside0.mk hr0_2
  clear hr0_2
  go_enter Try.func106, Try.ntmps106
  go_wp2_with fail
  refine (ixUnit 150 _ (enters_of Try.func150 (by kernel_rfl) rfl) (isAt a1 a2) A0_2 c0_2 l0_2 _ ?hp ?hr).mono ?_
  case hp =>
    intro W x hb
    exact (cl_unitAt x a1 a2 _ _ W ((hb.cell (p := ⟨_, 0, none⟩) (by simp)).trans (by go_simp)) ((hb.cell (p := ⟨_, 0, none⟩) (by simp)).trans (by go_simp)) (by have := hb.size; simp at this; omega) (by have := hb.size; simp at this; omega)).mono fun e w' ⟨he, hb2⟩ => ⟨he, hb.trans (hb2.mono hb.size)⟩
  case hr => exact Kd.C_alloc (Kd.C_alloc (Kd.C_alloc HR.out _) _) _
  rintro e w' ⟨rfl, hb⟩
  go_wp2
  go_ret
  exact ⟨rfl, ((((Below.refl _ _).alloc (Nat.le_refl _) _).alloc (by simp) _).alloc (by simp; omega) _).trans (hb.mono (by simp; omega))⟩
end Go.Proofs.Ytfgnaneajonapaa.Pr

/- Printed out of the translation by this session's pr.py over the kit's print. Lean checks it. -/
namespace Go.Proofs.Ytfgnaneajonapaa.Pr
open Go.RowKit Go.Proofs.YtfgnaneajonapaaW.PrintWords Go.Proofs.YtfgnaneajonapaaW.PrintLast Go.Proofs.YtfgnaneajonapaaW.PrintMore
attribute [local go_sem] max2_int min2_int max_two min_two max_three min_three max_four min_four
set_option linter.unusedVariables false
set_option linter.unusedSimpArgs false

/-! ### impl_SumMore: function 179 -/
mutual
def impl_SumMore.l0 : Nat → Int → ByteArray → Int → Option (Int)
  | 0, _, _, _ => none
  | k + 1, x0, x1, x5 => if x5 < (x1.size : Int) then (if 0 ≤ x5 then (impl_SumMore.l1 k (Go.bits .xor .u32 x0 ((bt x1 x5) % 4294967296)) x1 x5 0) else (none)) else (some x0)
def impl_SumMore.l1 : Nat → Int → ByteArray → Int → Int → Option (Int)
  | 0, _, _, _, _ => none
  | k + 1, x0, x1, x5, x6 => if x6 < 8 then (if (Int.tmod x0 2) = 1 then (impl_SumMore.l1 k (Go.bits .xor .u32 ((Int.tdiv x0 2) % 4294967296) 3558460437) x1 x5 (wrap64 (x6 + 1))) else (impl_SumMore.l1 k ((Int.tdiv x0 2) % 4294967296) x1 x5 (wrap64 (x6 + 1)))) else (impl_SumMore.l0 k x0 x1 (wrap64 (x5 + 1)))
end
def impl_SumMore.f (k : Nat) (a0 : Int) (a1 : ByteArray) : Option (Int) := impl_SumMore.l0 k a0 a1 0
set_option maxHeartbeats 8000000 in
set_option maxRecDepth 100000 in
theorem impl_SumMore.calls (k : Nat) (a0 : Int) (a1 : ByteArray) (r : Int) (w : World) (h : impl_SumMore.f k a0 a1 = some r) :
    Calls Try.prog 179 #[.int .u32 a0, .string a1] w fun e w' => e = .returned (.int .u32 r) ∧ Drawn0 w w' := by
  have H : (impl_SumMore.l0 k a0 a1 0) = some r := h
  clear h
  have H' := Aside0.mk H
  clear H
  go_enter Try.func179, Try.ntmps179
  go_wp2
  go_loopg [0, 5] k (fun kq v0 v5 w' => ∃ (x0_1 : Int) (x5_1 : Int), v0 = .int .u32 x0_1 ∧ v5 = .int .i64 x5_1 ∧ Aside0 (impl_SumMore.l0 kq x0_1 a1 x5_1 = some r) ∧ Aside0 (kq ≤ k) ∧ Drawn0 w w')
  case atStart => exact ⟨(a0), (0), FR, FR, H', ⟨Nat.le_refl _⟩, by repeat (first | exact Drawn0.refl _ | apply Drawn0.step)⟩
  case round =>
    clear H'
    try clear c1
    try clear p2
    obtain ⟨x0_1, x5_1, rfl, rfl, HA, HK1, ⟨m1, rfl⟩⟩ := hrel
    cases gk with
    | zero => exact absurd HA.out (by simp [impl_SumMore.l0])
    | succ k1 =>
      have H := HA.out
      clear HA
      simp only [impl_SumMore.l0] at H
      by_cases c3 : x5_1 < (a1.size : Int)
      · rw [if_pos c3] at H
        have c3b0 : decide (x5_1 < (a1.size : Int)) = true := decide_eq_true c3
        clear c3
        by_cases c4 : 0 ≤ x5_1
        · rw [if_pos c4] at H
          have c4b0 : decide (0 ≤ x5_1) = true := decide_eq_true c4
          clear c4
          have H' := Aside0.mk H
          clear H
          have p5 : 0 ≤ (x5_1 : Int) := DT
          have q5 : x5_1 < (a1.size : Int) := DT
          have hx5 := bt_at a1 x5_1
          replace p5 := eq_true p5
          replace q5 := eq_true q5
          go_wp2
          go_loopg [0, 6] k1 (fun kq v0 v6 w' => ∃ (x0_2 : Int) (x6_2 : Int), v0 = .int .u32 x0_2 ∧ v6 = .int .i64 x6_2 ∧ Aside0 (impl_SumMore.l1 kq x0_2 a1 x5_1 x6_2 = some r) ∧ Aside0 (kq ≤ k1) ∧ Drawn0 w w')
          case atStart => exact ⟨(Go.bits .xor .u32 x0_1 ((bt a1 x5_1) % 4294967296)), (0), FR, FR, H', ⟨Nat.le_refl _⟩, by repeat (first | exact Drawn0.refl _ | apply Drawn0.step)⟩
          case round =>
            clear H'
            try clear c1
            try clear p2
            try clear c3
            try clear c3b0
            try clear c4
            try clear c4b0
            try clear p5
            try clear q5
            try clear hx5
            try clear p2
            try clear p5
            try clear q5
            obtain ⟨x0_2, x6_2, rfl, rfl, HA, HK2, ⟨m2, rfl⟩⟩ := hrel
            cases gk with
            | zero => exact absurd HA.out (by simp [impl_SumMore.l1])
            | succ k2 =>
              have H := HA.out
              clear HA
              simp only [impl_SumMore.l1] at H
              by_cases c6 : x6_2 < 8
              · rw [if_pos c6] at H
                have c6b0 : decide (x6_2 < 8) = true := decide_eq_true c6
                clear c6
                by_cases c7 : (Int.tmod x0_2 2) = 1
                · rw [if_pos c7] at H
                  have c7b0 : ((Int.tmod x0_2 2) == 1) = true := beq_iff_eq.mpr c7
                  have c7b1 : ((Int.tmod x0_2 2) != 1) = false := bne_eq_false_iff_eq.mpr c7
                  clear c7
                  have H' := Aside0.mk H
                  clear H
                  go_wp2
                  go_roundg k2
                  case measure => have := HK1.out; have := HK2.out; omega
                  case rel => exact ⟨(Go.bits .xor .u32 ((Int.tdiv x0_2 2) % 4294967296) 3558460437), (wrap64 (x6_2 + 1)), FR, FR, H', ⟨by have := HK1.out; have := HK2.out; omega⟩, by repeat (first | exact Drawn0.refl _ | apply Drawn0.step)⟩
                · rw [if_neg c7] at H
                  have c7b0 : ((Int.tmod x0_2 2) == 1) = false := beq_eq_false_iff_ne.mpr c7
                  have c7b1 : ((Int.tmod x0_2 2) != 1) = true := bne_iff_ne.mpr c7
                  have H' := Aside0.mk H
                  clear H
                  go_wp2
                  go_roundg k2
                  case measure => have := HK1.out; have := HK2.out; omega
                  case rel => exact ⟨((Int.tdiv x0_2 2) % 4294967296), (wrap64 (x6_2 + 1)), FR, FR, H', ⟨by have := HK1.out; have := HK2.out; omega⟩, by repeat (first | exact Drawn0.refl _ | apply Drawn0.step)⟩
              · rw [if_neg c6] at H
                have c6b0 : decide (x6_2 < 8) = false := decide_eq_false c6
                clear c6
                have H' := Aside0.mk H
                clear H
                go_wp2
                go_roundg k2
                case measure => have := HK1.out; have := HK2.out; omega
                case rel => exact ⟨(x0_2), (wrap64 (x5_1 + 1)), FR, FR, H', ⟨by have := HK1.out; have := HK2.out; omega⟩, by repeat (first | exact Drawn0.refl _ | apply Drawn0.step)⟩
        · rw [if_neg c4] at H
          exact absurd H (by simp)
      · rw [if_neg c3] at H
        have c3b0 : decide (x5_1 < (a1.size : Int)) = false := decide_eq_false c3
        clear c3
        obtain rfl := Option.some.inj H
        go_wp2
        go_ret
        exact ⟨FR, by repeat (first | exact Drawn0.refl _ | apply Drawn0.step)⟩

end Go.Proofs.Ytfgnaneajonapaa.Pr

/- Printed out of the translation by this session's pr.py over the kit's print. Lean checks it. -/
namespace Go.Proofs.Ytfgnaneajonapaa.Pr
open Go.RowKit Go.Proofs.YtfgnaneajonapaaW.PrintWords Go.Proofs.YtfgnaneajonapaaW.PrintLast Go.Proofs.YtfgnaneajonapaaW.PrintMore
attribute [local go_sem] max2_int min2_int max_two min_two max_three min_three max_four min_four
set_option linter.unusedVariables false
set_option linter.unusedSimpArgs false

/-! ### impl_SumOf: function 151 -/
def impl_SumOf.f (k : Nat) (a0 : ByteArray) : Option (Int) := (impl_SumMore.f k 4294967295 a0).bind fun t169 => (some t169)
set_option maxHeartbeats 8000000 in
set_option maxRecDepth 100000 in
theorem impl_SumOf.calls (k : Nat) (a0 : ByteArray) (r : Int) (w : World) (h : impl_SumOf.f k a0 = some r) :
    Calls Try.prog 151 #[.string a0] w fun e w' => e = .returned (.int .u32 r) ∧ Drawn0 w w' := by
  have H : ((impl_SumMore.f k 4294967295 a0).bind fun t169 => (some t169)) = some r := h
  clear h
  replace H := Option.bind_eq_some_iff.mp H
  obtain ⟨t169, A20, H⟩ := H
  replace H : (some t169) = some r := H
  have A2 := Aside0.mk A20
  clear A20
  obtain rfl := Option.some.inj H
  go_enter Try.func151, Try.ntmps151
  go_wp2_with (first | ((with_reducible refine gate_callee (f := 179) rfl ?_); refine GL (some 4) rfl rfl Try.func179 #[.int .u32 4294967295, .string a0] rfl ?_; (with_reducible refine (impl_SumMore.calls k 4294967295 a0 t169 _ A2.out).mono ?_); rintro e w' ⟨rfl, ⟨nd, rfl⟩⟩; refine ⟨_, rfl, ?_⟩))
  go_ret
  exact ⟨FR, by repeat (first | exact Drawn0.refl _ | apply Drawn0.step)⟩

end Go.Proofs.Ytfgnaneajonapaa.Pr

/- Printed out of the translation by this session's pr.py over the kit's print. Lean checks it. -/
namespace Go.Proofs.Ytfgnaneajonapaa.Pr
open Go.RowKit Go.Proofs.YtfgnaneajonapaaW.PrintWords Go.Proofs.YtfgnaneajonapaaW.PrintLast Go.Proofs.YtfgnaneajonapaaW.PrintMore
attribute [local go_sem] max2_int min2_int max_two min_two max_three min_three max_four min_four
set_option linter.unusedVariables false
set_option linter.unusedSimpArgs false

/-! ### impl_SumText: function 107 -/
def impl_SumText.f (k : Nat) (a0 : ByteArray) : Option (Int) := (impl_SumOf.f k a0).bind fun t170 => (some (wrap64 (t170)))
set_option maxHeartbeats 8000000 in
set_option maxRecDepth 100000 in
theorem impl_SumText.calls (k : Nat) (a0 : ByteArray) (r : Int) (w : World) (h : impl_SumText.f k a0 = some r) :
    Calls Try.prog 107 #[.string a0] w fun e w' => e = .returned (.int .i64 r) ∧ Drawn0 w w' := by
  have H : ((impl_SumOf.f k a0).bind fun t170 => (some (wrap64 (t170)))) = some r := h
  clear h
  replace H := Option.bind_eq_some_iff.mp H
  obtain ⟨t170, A20, H⟩ := H
  replace H : (some (wrap64 (t170))) = some r := H
  have A2 := Aside0.mk A20
  clear A20
  obtain rfl := Option.some.inj H
  go_enter Try.func107, Try.ntmps107
  go_wp2_with (first | ((with_reducible refine gate_callee (f := 151) rfl ?_); refine GL (some 4) rfl rfl Try.func151 #[.string a0] rfl ?_; (with_reducible refine (impl_SumOf.calls k a0 t170 _ A2.out).mono ?_); rintro e w' ⟨rfl, ⟨nd, rfl⟩⟩; refine ⟨_, rfl, ?_⟩))
  go_ret
  exact ⟨FR, by repeat (first | exact Drawn0.refl _ | apply Drawn0.step)⟩

end Go.Proofs.Ytfgnaneajonapaa.Pr

/- Printed out of the translation by this session's pr.py over the kit's print. Lean checks it. -/
namespace Go.Proofs.Ytfgnaneajonapaa.Pr
open Go.RowKit Go.Proofs.YtfgnaneajonapaaW.PrintWords Go.Proofs.YtfgnaneajonapaaW.PrintLast Go.Proofs.YtfgnaneajonapaaW.PrintMore
attribute [local go_sem] max2_int min2_int max_two min_two max_three min_three max_four min_four
set_option linter.unusedVariables false
set_option linter.unusedSimpArgs false

/-! ### impl_GetUnit: function 58 -/
def impl_GetUnit.f (k : Nat) (a0_0 : Int) (a0_1 : Bool) (l0_2 : List (S146)) (a1 : Int) (a2 : Int) : Option (ByteArray × Bool) := (impl_unitAt.f a0_0 a0_1 l0_2 a1 a2).bind fun t172 => (if a0_1 = true then (if t172 < 0 then (some ((⟨#[]⟩ : ByteArray), false)) else (if 0 ≤ t172 then (if t172 < (l0_2.length : Int) then ((impl_SumText.f k ((rd_T146 l0_2 t172).f2)).bind fun t175 => (if ((rd_T146 l0_2 t172).f3) = t175 then (some ((rd_T146 l0_2 t172).f2, true)) else (some ((⟨#[]⟩ : ByteArray), false)))) else (none)) else (none))) else (some ((⟨#[]⟩ : ByteArray), false)))
set_option maxHeartbeats 8000000 in
set_option maxRecDepth 100000 in
theorem impl_GetUnit.calls (k : Nat) (a0_0 : Int) (a0_1 : Bool) (A0_2 : Option Addr) (c0_2 : Nat) (l0_2 : List (S146)) (a1 : Int) (a2 : Int) (r1 : ByteArray) (r2 : Bool) (w : World) (hr0_2 : Kd.C k146 w A0_2 l0_2.length l0_2) (hc0_2 : l0_2.length ≤ c0_2) (h : impl_GetUnit.f k a0_0 a0_1 l0_2 a1 a2 = some (r1, r2)) :
    Calls Try.prog 58 #[.agg #[.int .i64 a0_0, .bool a0_1, .slice A0_2 l0_2.length c0_2], .int .i64 a1, .int .i64 a2] w fun e w' => e = .returned (.tuple #[.string r1, .bool r2]) ∧ Below w.heap.size w w' := by
  have hu97 := Try.underlying97
  have HR0_2 := Aside0.mk hr0_2
  have HC0_2 := Aside0.mk hc0_2
  clear hr0_2 hc0_2
  have HB := Aside0.mk (Below.refl w.heap.size w)
  have H : ((impl_unitAt.f a0_0 a0_1 l0_2 a1 a2).bind fun t172 => (if a0_1 = true then (if t172 < 0 then (some ((⟨#[]⟩ : ByteArray), false)) else (if 0 ≤ t172 then (if t172 < (l0_2.length : Int) then ((impl_SumText.f k ((rd_T146 l0_2 t172).f2)).bind fun t175 => (if ((rd_T146 l0_2 t172).f3) = t175 then (some ((rd_T146 l0_2 t172).f2, true)) else (some ((⟨#[]⟩ : ByteArray), false)))) else (none)) else (none))) else (some ((⟨#[]⟩ : ByteArray), false)))) = some (r1, r2) := h
  clear h
  replace H := Option.bind_eq_some_iff.mp H
  obtain ⟨t172, A40, H⟩ := H
  replace H : (if a0_1 = true then (if t172 < 0 then (some ((⟨#[]⟩ : ByteArray), false)) else (if 0 ≤ t172 then (if t172 < (l0_2.length : Int) then ((impl_SumText.f k ((rd_T146 l0_2 t172).f2)).bind fun t175 => (if ((rd_T146 l0_2 t172).f3) = t175 then (some ((rd_T146 l0_2 t172).f2, true)) else (some ((⟨#[]⟩ : ByteArray), false)))) else (none)) else (none))) else (some ((⟨#[]⟩ : ByteArray), false))) = some (r1, r2) := H
  have A4 := Aside0.mk A40
  clear A40
  by_cases c5 : a0_1 = true
  · subst c5
    have H1 : (if t172 < 0 then (some ((⟨#[]⟩ : ByteArray), false)) else (if 0 ≤ t172 then (if t172 < (l0_2.length : Int) then ((impl_SumText.f k ((rd_T146 l0_2 t172).f2)).bind fun t175 => (if ((rd_T146 l0_2 t172).f3) = t175 then (some ((rd_T146 l0_2 t172).f2, true)) else (some ((⟨#[]⟩ : ByteArray), false)))) else (none)) else (none))) = some (r1, r2) := by rw [if_pos rfl] at H; exact H
    clear H
    have H := H1
    clear H1
    by_cases c6 : t172 < 0
    · rw [if_pos c6] at H
      have c6b0 : decide (t172 < 0) = true := decide_eq_true c6
      clear c6
      simp only [Option.some.injEq, Prod.mk.injEq] at H
      obtain ⟨rfl, rfl⟩ := H
      go_enter Try.func58, Try.ntmps58
      go_wp2_with (first | ((with_reducible refine gate_dst (N := 3) rfl ?_); refine BX 3 #[.int .i64 a0_0, .bool true, .slice A0_2 l0_2.length c0_2] 97 ?_; intro gb171 hg w7 hbox hb; have BK171 := Aside0.mk (hbox); have GW171 : Aside0 (w.heap.size ≤ gb171) := WG hg (BB HB.out); have GE171 := GW171; replace HB := Aside0.mk (below_step (BB HB.out) hb); clear hb hbox hg; have hcz8 := blk_cell BK171.out; have hfz8 := blk_frozen BK171.out) | (go_at_call 106; (with_reducible refine (impl_unitAt.calls a0_0 true _ _ l0_2 a1 a2 t172 _ ?side1 ?side2 A4.out).mono ?_); (case side1 => exact CC (Kd.C_below HR0_2.out HB.out)); (case side2 => exact HC0_2.out); rintro e w9 ⟨rfl, hb⟩; replace BK171 := Aside0.mk (KB BK171.out hb); replace HB := Aside0.mk (below_step (BB1 HB.out GE171.out) hb); (try clear hb); (try clear hb2); (try clear hk); (try clear hi); have hcz10 := blk_cell BK171.out; have hfz10 := blk_frozen BK171.out))
      repeat (go_quiet (first | ((with_reducible refine gate_dst (N := 3) rfl ?_); refine BX 3 #[.int .i64 a0_0, .bool true, .slice A0_2 l0_2.length c0_2] 97 ?_; intro gb171 hg w7 hbox hb; have BK171 := Aside0.mk (hbox); have GW171 : Aside0 (w.heap.size ≤ gb171) := WG hg (BB HB.out); have GE171 := GW171; replace HB := Aside0.mk (below_step (BB HB.out) hb); clear hb hbox hg; have hcz8 := blk_cell BK171.out; have hfz8 := blk_frozen BK171.out) | (go_at_call 106; (with_reducible refine (impl_unitAt.calls a0_0 true _ _ l0_2 a1 a2 t172 _ ?side1 ?side2 A4.out).mono ?_); (case side1 => exact CC (Kd.C_below HR0_2.out HB.out)); (case side2 => exact HC0_2.out); rintro e w9 ⟨rfl, hb⟩; replace BK171 := Aside0.mk (KB BK171.out hb); replace HB := Aside0.mk (below_step (BB1 HB.out GE171.out) hb); (try clear hb); (try clear hb2); (try clear hk); (try clear hi); have hcz10 := blk_cell BK171.out; have hfz10 := blk_frozen BK171.out)); try go_wp2_with (first | ((with_reducible refine gate_dst (N := 3) rfl ?_); refine BX 3 #[.int .i64 a0_0, .bool true, .slice A0_2 l0_2.length c0_2] 97 ?_; intro gb171 hg w7 hbox hb; have BK171 := Aside0.mk (hbox); have GW171 : Aside0 (w.heap.size ≤ gb171) := WG hg (BB HB.out); have GE171 := GW171; replace HB := Aside0.mk (below_step (BB HB.out) hb); clear hb hbox hg; have hcz8 := blk_cell BK171.out; have hfz8 := blk_frozen BK171.out) | (go_at_call 106; (with_reducible refine (impl_unitAt.calls a0_0 true _ _ l0_2 a1 a2 t172 _ ?side1 ?side2 A4.out).mono ?_); (case side1 => exact CC (Kd.C_below HR0_2.out HB.out)); (case side2 => exact HC0_2.out); rintro e w9 ⟨rfl, hb⟩; replace BK171 := Aside0.mk (KB BK171.out hb); replace HB := Aside0.mk (below_step (BB1 HB.out GE171.out) hb); (try clear hb); (try clear hb2); (try clear hk); (try clear hi); have hcz10 := blk_cell BK171.out; have hfz10 := blk_frozen BK171.out)))
      go_ret2
      exact ⟨ER, (BB1 HB.out GE171.out)⟩
    · rw [if_neg c6] at H
      have c6b0 : decide (t172 < 0) = false := decide_eq_false c6
      clear c6
      by_cases c11 : 0 ≤ t172
      · rw [if_pos c11] at H
        have c11b0 : decide (0 ≤ t172) = true := decide_eq_true c11
        clear c11
        by_cases c12 : t172 < (l0_2.length : Int)
        · rw [if_pos c12] at H
          have c12b0 : decide (t172 < (l0_2.length : Int)) = true := decide_eq_true c12
          clear c12
          replace H := Option.bind_eq_some_iff.mp H
          obtain ⟨t175, A130, H⟩ := H
          replace H : (if ((rd_T146 l0_2 t172).f3) = t175 then (some ((rd_T146 l0_2 t172).f2, true)) else (some ((⟨#[]⟩ : ByteArray), false))) = some (r1, r2) := H
          have A13 := Aside0.mk A130
          clear A130
          by_cases c14 : ((rd_T146 l0_2 t172).f3) = t175
          · rw [if_pos c14] at H
            have c14b0 : (((rd_T146 l0_2 t172).f3) == t175) = true := beq_iff_eq.mpr c14
            have c14b1 : (((rd_T146 l0_2 t172).f3) != t175) = false := bne_eq_false_iff_eq.mpr c14
            clear c14
            simp only [Option.some.injEq, Prod.mk.injEq] at H
            obtain ⟨rfl, rfl⟩ := H
            go_enter Try.func58, Try.ntmps58
            go_wp2_with (first | ((with_reducible refine gate_dst (N := 3) rfl ?_); refine BX 3 #[.int .i64 a0_0, .bool true, .slice A0_2 l0_2.length c0_2] 97 ?_; intro gb171 hg w15 hbox hb; have BK171 := Aside0.mk (hbox); have GW171 : Aside0 (w.heap.size ≤ gb171) := WG hg (BB HB.out); have GE171 := GW171; replace HB := Aside0.mk (below_step (BB HB.out) hb); clear hb hbox hg; have hcz16 := blk_cell BK171.out; have hfz16 := blk_frozen BK171.out) | (go_at_call 106; (with_reducible refine (impl_unitAt.calls a0_0 true _ _ l0_2 a1 a2 t172 _ ?side1 ?side2 A4.out).mono ?_); (case side1 => exact CC (Kd.C_below HR0_2.out HB.out)); (case side2 => exact HC0_2.out); rintro e w17 ⟨rfl, hb⟩; replace BK171 := Aside0.mk (KB BK171.out hb); replace HB := Aside0.mk (below_step (BB1 HB.out GE171.out) hb); (try clear hb); (try clear hb2); (try clear hk); (try clear hi); have hcz18 := blk_cell BK171.out; have hfz18 := blk_frozen BK171.out; have p173 : 0 ≤ (t172 : Int) := DT; have q173 : t172 < (l0_2.length : Int) := DT; obtain ⟨ad173, e173, hx173_0, hx173_1, hx173_2, hx173_3⟩ := at_T146 HR0_2.out t172 p173 q173; cases e173; replace hx173_0 := (HB.out.cell (World.block_lt_of_cell? w _ hx173_0)).trans hx173_0; replace hx173_1 := (HB.out.cell (World.block_lt_of_cell? w _ hx173_1)).trans hx173_1; replace hx173_2 := (HB.out.cell (World.block_lt_of_cell? w _ hx173_2)).trans hx173_2; replace hx173_3 := (HB.out.cell (World.block_lt_of_cell? w _ hx173_3)).trans hx173_3; replace p173 := eq_true p173; replace q173 := eq_true q173; have p174 : 0 ≤ (t172 : Int) := DT; have q174 : t172 < (l0_2.length : Int) := DT; obtain ⟨ad174, e174, hx174_0, hx174_1, hx174_2, hx174_3⟩ := at_T146 HR0_2.out t172 p174 q174; obtain rfl : ad173 = ad174 := (by injection e174); replace hx174_0 := (HB.out.cell (World.block_lt_of_cell? w _ hx174_0)).trans hx174_0; replace hx174_1 := (HB.out.cell (World.block_lt_of_cell? w _ hx174_1)).trans hx174_1; replace hx174_2 := (HB.out.cell (World.block_lt_of_cell? w _ hx174_2)).trans hx174_2; replace hx174_3 := (HB.out.cell (World.block_lt_of_cell? w _ hx174_3)).trans hx174_3; replace p174 := eq_true p174; replace q174 := eq_true q174) | (go_at_call 107; (with_reducible refine (impl_SumText.calls k ((rd_T146 l0_2 t172).f2) t175 _ A13.out).mono ?_); rintro e w' ⟨rfl, ⟨nd, rfl⟩⟩; (try first | exact ⟨rfl, _, World.drewN_drewN _ _ _⟩ | exact ⟨rfl, _, Eq.trans (World.drewN_drewN _ _ _) (congrArg (World.drewN _) (Nat.add_assoc _ _ _))⟩); have p176 : 0 ≤ (t172 : Int) := DT; have q176 : t172 < (l0_2.length : Int) := DT; obtain ⟨ad176, e176, hx176_0, hx176_1, hx176_2, hx176_3⟩ := at_T146 HR0_2.out t172 p176 q176; obtain rfl : ad173 = ad176 := (by injection e176); replace hx176_0 := (HB.out.cell (World.block_lt_of_cell? w _ hx176_0)).trans hx176_0; replace hx176_1 := (HB.out.cell (World.block_lt_of_cell? w _ hx176_1)).trans hx176_1; replace hx176_2 := (HB.out.cell (World.block_lt_of_cell? w _ hx176_2)).trans hx176_2; replace hx176_3 := (HB.out.cell (World.block_lt_of_cell? w _ hx176_3)).trans hx176_3; replace p176 := eq_true p176; replace q176 := eq_true q176))
            repeat (go_quiet (first | ((with_reducible refine gate_dst (N := 3) rfl ?_); refine BX 3 #[.int .i64 a0_0, .bool true, .slice A0_2 l0_2.length c0_2] 97 ?_; intro gb171 hg w15 hbox hb; have BK171 := Aside0.mk (hbox); have GW171 : Aside0 (w.heap.size ≤ gb171) := WG hg (BB HB.out); have GE171 := GW171; replace HB := Aside0.mk (below_step (BB HB.out) hb); clear hb hbox hg; have hcz16 := blk_cell BK171.out; have hfz16 := blk_frozen BK171.out) | (go_at_call 106; (with_reducible refine (impl_unitAt.calls a0_0 true _ _ l0_2 a1 a2 t172 _ ?side1 ?side2 A4.out).mono ?_); (case side1 => exact CC (Kd.C_below HR0_2.out HB.out)); (case side2 => exact HC0_2.out); rintro e w17 ⟨rfl, hb⟩; replace BK171 := Aside0.mk (KB BK171.out hb); replace HB := Aside0.mk (below_step (BB1 HB.out GE171.out) hb); (try clear hb); (try clear hb2); (try clear hk); (try clear hi); have hcz18 := blk_cell BK171.out; have hfz18 := blk_frozen BK171.out; have p173 : 0 ≤ (t172 : Int) := DT; have q173 : t172 < (l0_2.length : Int) := DT; obtain ⟨ad173, e173, hx173_0, hx173_1, hx173_2, hx173_3⟩ := at_T146 HR0_2.out t172 p173 q173; cases e173; replace hx173_0 := (HB.out.cell (World.block_lt_of_cell? w _ hx173_0)).trans hx173_0; replace hx173_1 := (HB.out.cell (World.block_lt_of_cell? w _ hx173_1)).trans hx173_1; replace hx173_2 := (HB.out.cell (World.block_lt_of_cell? w _ hx173_2)).trans hx173_2; replace hx173_3 := (HB.out.cell (World.block_lt_of_cell? w _ hx173_3)).trans hx173_3; replace p173 := eq_true p173; replace q173 := eq_true q173; have p174 : 0 ≤ (t172 : Int) := DT; have q174 : t172 < (l0_2.length : Int) := DT; obtain ⟨ad174, e174, hx174_0, hx174_1, hx174_2, hx174_3⟩ := at_T146 HR0_2.out t172 p174 q174; obtain rfl : ad173 = ad174 := (by injection e174); replace hx174_0 := (HB.out.cell (World.block_lt_of_cell? w _ hx174_0)).trans hx174_0; replace hx174_1 := (HB.out.cell (World.block_lt_of_cell? w _ hx174_1)).trans hx174_1; replace hx174_2 := (HB.out.cell (World.block_lt_of_cell? w _ hx174_2)).trans hx174_2; replace hx174_3 := (HB.out.cell (World.block_lt_of_cell? w _ hx174_3)).trans hx174_3; replace p174 := eq_true p174; replace q174 := eq_true q174) | (go_at_call 107; (with_reducible refine (impl_SumText.calls k ((rd_T146 l0_2 t172).f2) t175 _ A13.out).mono ?_); rintro e w' ⟨rfl, ⟨nd, rfl⟩⟩; (try first | exact ⟨rfl, _, World.drewN_drewN _ _ _⟩ | exact ⟨rfl, _, Eq.trans (World.drewN_drewN _ _ _) (congrArg (World.drewN _) (Nat.add_assoc _ _ _))⟩); have p176 : 0 ≤ (t172 : Int) := DT; have q176 : t172 < (l0_2.length : Int) := DT; obtain ⟨ad176, e176, hx176_0, hx176_1, hx176_2, hx176_3⟩ := at_T146 HR0_2.out t172 p176 q176; obtain rfl : ad173 = ad176 := (by injection e176); replace hx176_0 := (HB.out.cell (World.block_lt_of_cell? w _ hx176_0)).trans hx176_0; replace hx176_1 := (HB.out.cell (World.block_lt_of_cell? w _ hx176_1)).trans hx176_1; replace hx176_2 := (HB.out.cell (World.block_lt_of_cell? w _ hx176_2)).trans hx176_2; replace hx176_3 := (HB.out.cell (World.block_lt_of_cell? w _ hx176_3)).trans hx176_3; replace p176 := eq_true p176; replace q176 := eq_true q176)); try go_wp2_with (first | ((with_reducible refine gate_dst (N := 3) rfl ?_); refine BX 3 #[.int .i64 a0_0, .bool true, .slice A0_2 l0_2.length c0_2] 97 ?_; intro gb171 hg w15 hbox hb; have BK171 := Aside0.mk (hbox); have GW171 : Aside0 (w.heap.size ≤ gb171) := WG hg (BB HB.out); have GE171 := GW171; replace HB := Aside0.mk (below_step (BB HB.out) hb); clear hb hbox hg; have hcz16 := blk_cell BK171.out; have hfz16 := blk_frozen BK171.out) | (go_at_call 106; (with_reducible refine (impl_unitAt.calls a0_0 true _ _ l0_2 a1 a2 t172 _ ?side1 ?side2 A4.out).mono ?_); (case side1 => exact CC (Kd.C_below HR0_2.out HB.out)); (case side2 => exact HC0_2.out); rintro e w17 ⟨rfl, hb⟩; replace BK171 := Aside0.mk (KB BK171.out hb); replace HB := Aside0.mk (below_step (BB1 HB.out GE171.out) hb); (try clear hb); (try clear hb2); (try clear hk); (try clear hi); have hcz18 := blk_cell BK171.out; have hfz18 := blk_frozen BK171.out; have p173 : 0 ≤ (t172 : Int) := DT; have q173 : t172 < (l0_2.length : Int) := DT; obtain ⟨ad173, e173, hx173_0, hx173_1, hx173_2, hx173_3⟩ := at_T146 HR0_2.out t172 p173 q173; cases e173; replace hx173_0 := (HB.out.cell (World.block_lt_of_cell? w _ hx173_0)).trans hx173_0; replace hx173_1 := (HB.out.cell (World.block_lt_of_cell? w _ hx173_1)).trans hx173_1; replace hx173_2 := (HB.out.cell (World.block_lt_of_cell? w _ hx173_2)).trans hx173_2; replace hx173_3 := (HB.out.cell (World.block_lt_of_cell? w _ hx173_3)).trans hx173_3; replace p173 := eq_true p173; replace q173 := eq_true q173; have p174 : 0 ≤ (t172 : Int) := DT; have q174 : t172 < (l0_2.length : Int) := DT; obtain ⟨ad174, e174, hx174_0, hx174_1, hx174_2, hx174_3⟩ := at_T146 HR0_2.out t172 p174 q174; obtain rfl : ad173 = ad174 := (by injection e174); replace hx174_0 := (HB.out.cell (World.block_lt_of_cell? w _ hx174_0)).trans hx174_0; replace hx174_1 := (HB.out.cell (World.block_lt_of_cell? w _ hx174_1)).trans hx174_1; replace hx174_2 := (HB.out.cell (World.block_lt_of_cell? w _ hx174_2)).trans hx174_2; replace hx174_3 := (HB.out.cell (World.block_lt_of_cell? w _ hx174_3)).trans hx174_3; replace p174 := eq_true p174; replace q174 := eq_true q174) | (go_at_call 107; (with_reducible refine (impl_SumText.calls k ((rd_T146 l0_2 t172).f2) t175 _ A13.out).mono ?_); rintro e w' ⟨rfl, ⟨nd, rfl⟩⟩; (try first | exact ⟨rfl, _, World.drewN_drewN _ _ _⟩ | exact ⟨rfl, _, Eq.trans (World.drewN_drewN _ _ _) (congrArg (World.drewN _) (Nat.add_assoc _ _ _))⟩); have p176 : 0 ≤ (t172 : Int) := DT; have q176 : t172 < (l0_2.length : Int) := DT; obtain ⟨ad176, e176, hx176_0, hx176_1, hx176_2, hx176_3⟩ := at_T146 HR0_2.out t172 p176 q176; obtain rfl : ad173 = ad176 := (by injection e176); replace hx176_0 := (HB.out.cell (World.block_lt_of_cell? w _ hx176_0)).trans hx176_0; replace hx176_1 := (HB.out.cell (World.block_lt_of_cell? w _ hx176_1)).trans hx176_1; replace hx176_2 := (HB.out.cell (World.block_lt_of_cell? w _ hx176_2)).trans hx176_2; replace hx176_3 := (HB.out.cell (World.block_lt_of_cell? w _ hx176_3)).trans hx176_3; replace p176 := eq_true p176; replace q176 := eq_true q176)))
            go_ret2
            exact ⟨ER, (BB1 HB.out GE171.out)⟩
          · rw [if_neg c14] at H
            have c14b0 : (((rd_T146 l0_2 t172).f3) == t175) = false := beq_eq_false_iff_ne.mpr c14
            have c14b1 : (((rd_T146 l0_2 t172).f3) != t175) = true := bne_iff_ne.mpr c14
            simp only [Option.some.injEq, Prod.mk.injEq] at H
            obtain ⟨rfl, rfl⟩ := H
            go_enter Try.func58, Try.ntmps58
            go_wp2_with (first | ((with_reducible refine gate_dst (N := 3) rfl ?_); refine BX 3 #[.int .i64 a0_0, .bool true, .slice A0_2 l0_2.length c0_2] 97 ?_; intro gb171 hg w19 hbox hb; have BK171 := Aside0.mk (hbox); have GW171 : Aside0 (w.heap.size ≤ gb171) := WG hg (BB HB.out); have GE171 := GW171; replace HB := Aside0.mk (below_step (BB HB.out) hb); clear hb hbox hg; have hcz20 := blk_cell BK171.out; have hfz20 := blk_frozen BK171.out) | (go_at_call 106; (with_reducible refine (impl_unitAt.calls a0_0 true _ _ l0_2 a1 a2 t172 _ ?side1 ?side2 A4.out).mono ?_); (case side1 => exact CC (Kd.C_below HR0_2.out HB.out)); (case side2 => exact HC0_2.out); rintro e w21 ⟨rfl, hb⟩; replace BK171 := Aside0.mk (KB BK171.out hb); replace HB := Aside0.mk (below_step (BB1 HB.out GE171.out) hb); (try clear hb); (try clear hb2); (try clear hk); (try clear hi); have hcz22 := blk_cell BK171.out; have hfz22 := blk_frozen BK171.out; have p173 : 0 ≤ (t172 : Int) := DT; have q173 : t172 < (l0_2.length : Int) := DT; obtain ⟨ad173, e173, hx173_0, hx173_1, hx173_2, hx173_3⟩ := at_T146 HR0_2.out t172 p173 q173; cases e173; replace hx173_0 := (HB.out.cell (World.block_lt_of_cell? w _ hx173_0)).trans hx173_0; replace hx173_1 := (HB.out.cell (World.block_lt_of_cell? w _ hx173_1)).trans hx173_1; replace hx173_2 := (HB.out.cell (World.block_lt_of_cell? w _ hx173_2)).trans hx173_2; replace hx173_3 := (HB.out.cell (World.block_lt_of_cell? w _ hx173_3)).trans hx173_3; replace p173 := eq_true p173; replace q173 := eq_true q173; have p174 : 0 ≤ (t172 : Int) := DT; have q174 : t172 < (l0_2.length : Int) := DT; obtain ⟨ad174, e174, hx174_0, hx174_1, hx174_2, hx174_3⟩ := at_T146 HR0_2.out t172 p174 q174; obtain rfl : ad173 = ad174 := (by injection e174); replace hx174_0 := (HB.out.cell (World.block_lt_of_cell? w _ hx174_0)).trans hx174_0; replace hx174_1 := (HB.out.cell (World.block_lt_of_cell? w _ hx174_1)).trans hx174_1; replace hx174_2 := (HB.out.cell (World.block_lt_of_cell? w _ hx174_2)).trans hx174_2; replace hx174_3 := (HB.out.cell (World.block_lt_of_cell? w _ hx174_3)).trans hx174_3; replace p174 := eq_true p174; replace q174 := eq_true q174) | (go_at_call 107; (with_reducible refine (impl_SumText.calls k ((rd_T146 l0_2 t172).f2) t175 _ A13.out).mono ?_); rintro e w' ⟨rfl, ⟨nd, rfl⟩⟩; (try first | exact ⟨rfl, _, World.drewN_drewN _ _ _⟩ | exact ⟨rfl, _, Eq.trans (World.drewN_drewN _ _ _) (congrArg (World.drewN _) (Nat.add_assoc _ _ _))⟩)))
            repeat (go_quiet (first | ((with_reducible refine gate_dst (N := 3) rfl ?_); refine BX 3 #[.int .i64 a0_0, .bool true, .slice A0_2 l0_2.length c0_2] 97 ?_; intro gb171 hg w19 hbox hb; have BK171 := Aside0.mk (hbox); have GW171 : Aside0 (w.heap.size ≤ gb171) := WG hg (BB HB.out); have GE171 := GW171; replace HB := Aside0.mk (below_step (BB HB.out) hb); clear hb hbox hg; have hcz20 := blk_cell BK171.out; have hfz20 := blk_frozen BK171.out) | (go_at_call 106; (with_reducible refine (impl_unitAt.calls a0_0 true _ _ l0_2 a1 a2 t172 _ ?side1 ?side2 A4.out).mono ?_); (case side1 => exact CC (Kd.C_below HR0_2.out HB.out)); (case side2 => exact HC0_2.out); rintro e w21 ⟨rfl, hb⟩; replace BK171 := Aside0.mk (KB BK171.out hb); replace HB := Aside0.mk (below_step (BB1 HB.out GE171.out) hb); (try clear hb); (try clear hb2); (try clear hk); (try clear hi); have hcz22 := blk_cell BK171.out; have hfz22 := blk_frozen BK171.out; have p173 : 0 ≤ (t172 : Int) := DT; have q173 : t172 < (l0_2.length : Int) := DT; obtain ⟨ad173, e173, hx173_0, hx173_1, hx173_2, hx173_3⟩ := at_T146 HR0_2.out t172 p173 q173; cases e173; replace hx173_0 := (HB.out.cell (World.block_lt_of_cell? w _ hx173_0)).trans hx173_0; replace hx173_1 := (HB.out.cell (World.block_lt_of_cell? w _ hx173_1)).trans hx173_1; replace hx173_2 := (HB.out.cell (World.block_lt_of_cell? w _ hx173_2)).trans hx173_2; replace hx173_3 := (HB.out.cell (World.block_lt_of_cell? w _ hx173_3)).trans hx173_3; replace p173 := eq_true p173; replace q173 := eq_true q173; have p174 : 0 ≤ (t172 : Int) := DT; have q174 : t172 < (l0_2.length : Int) := DT; obtain ⟨ad174, e174, hx174_0, hx174_1, hx174_2, hx174_3⟩ := at_T146 HR0_2.out t172 p174 q174; obtain rfl : ad173 = ad174 := (by injection e174); replace hx174_0 := (HB.out.cell (World.block_lt_of_cell? w _ hx174_0)).trans hx174_0; replace hx174_1 := (HB.out.cell (World.block_lt_of_cell? w _ hx174_1)).trans hx174_1; replace hx174_2 := (HB.out.cell (World.block_lt_of_cell? w _ hx174_2)).trans hx174_2; replace hx174_3 := (HB.out.cell (World.block_lt_of_cell? w _ hx174_3)).trans hx174_3; replace p174 := eq_true p174; replace q174 := eq_true q174) | (go_at_call 107; (with_reducible refine (impl_SumText.calls k ((rd_T146 l0_2 t172).f2) t175 _ A13.out).mono ?_); rintro e w' ⟨rfl, ⟨nd, rfl⟩⟩; (try first | exact ⟨rfl, _, World.drewN_drewN _ _ _⟩ | exact ⟨rfl, _, Eq.trans (World.drewN_drewN _ _ _) (congrArg (World.drewN _) (Nat.add_assoc _ _ _))⟩))); try go_wp2_with (first | ((with_reducible refine gate_dst (N := 3) rfl ?_); refine BX 3 #[.int .i64 a0_0, .bool true, .slice A0_2 l0_2.length c0_2] 97 ?_; intro gb171 hg w19 hbox hb; have BK171 := Aside0.mk (hbox); have GW171 : Aside0 (w.heap.size ≤ gb171) := WG hg (BB HB.out); have GE171 := GW171; replace HB := Aside0.mk (below_step (BB HB.out) hb); clear hb hbox hg; have hcz20 := blk_cell BK171.out; have hfz20 := blk_frozen BK171.out) | (go_at_call 106; (with_reducible refine (impl_unitAt.calls a0_0 true _ _ l0_2 a1 a2 t172 _ ?side1 ?side2 A4.out).mono ?_); (case side1 => exact CC (Kd.C_below HR0_2.out HB.out)); (case side2 => exact HC0_2.out); rintro e w21 ⟨rfl, hb⟩; replace BK171 := Aside0.mk (KB BK171.out hb); replace HB := Aside0.mk (below_step (BB1 HB.out GE171.out) hb); (try clear hb); (try clear hb2); (try clear hk); (try clear hi); have hcz22 := blk_cell BK171.out; have hfz22 := blk_frozen BK171.out; have p173 : 0 ≤ (t172 : Int) := DT; have q173 : t172 < (l0_2.length : Int) := DT; obtain ⟨ad173, e173, hx173_0, hx173_1, hx173_2, hx173_3⟩ := at_T146 HR0_2.out t172 p173 q173; cases e173; replace hx173_0 := (HB.out.cell (World.block_lt_of_cell? w _ hx173_0)).trans hx173_0; replace hx173_1 := (HB.out.cell (World.block_lt_of_cell? w _ hx173_1)).trans hx173_1; replace hx173_2 := (HB.out.cell (World.block_lt_of_cell? w _ hx173_2)).trans hx173_2; replace hx173_3 := (HB.out.cell (World.block_lt_of_cell? w _ hx173_3)).trans hx173_3; replace p173 := eq_true p173; replace q173 := eq_true q173; have p174 : 0 ≤ (t172 : Int) := DT; have q174 : t172 < (l0_2.length : Int) := DT; obtain ⟨ad174, e174, hx174_0, hx174_1, hx174_2, hx174_3⟩ := at_T146 HR0_2.out t172 p174 q174; obtain rfl : ad173 = ad174 := (by injection e174); replace hx174_0 := (HB.out.cell (World.block_lt_of_cell? w _ hx174_0)).trans hx174_0; replace hx174_1 := (HB.out.cell (World.block_lt_of_cell? w _ hx174_1)).trans hx174_1; replace hx174_2 := (HB.out.cell (World.block_lt_of_cell? w _ hx174_2)).trans hx174_2; replace hx174_3 := (HB.out.cell (World.block_lt_of_cell? w _ hx174_3)).trans hx174_3; replace p174 := eq_true p174; replace q174 := eq_true q174) | (go_at_call 107; (with_reducible refine (impl_SumText.calls k ((rd_T146 l0_2 t172).f2) t175 _ A13.out).mono ?_); rintro e w' ⟨rfl, ⟨nd, rfl⟩⟩; (try first | exact ⟨rfl, _, World.drewN_drewN _ _ _⟩ | exact ⟨rfl, _, Eq.trans (World.drewN_drewN _ _ _) (congrArg (World.drewN _) (Nat.add_assoc _ _ _))⟩))))
            go_ret2
            exact ⟨ER, (BB1 HB.out GE171.out)⟩
        · rw [if_neg c12] at H
          exact absurd H (by simp)
      · rw [if_neg c11] at H
        exact absurd H (by simp)
  · replace c5 := Bool.eq_false_iff.mpr c5
    subst c5
    have H1 : (some ((⟨#[]⟩ : ByteArray), false)) = some (r1, r2) := by rw [if_neg (show ¬ (false = true) by decide)] at H; exact H
    clear H
    have H := H1
    clear H1
    simp only [Option.some.injEq, Prod.mk.injEq] at H
    obtain ⟨rfl, rfl⟩ := H
    go_enter Try.func58, Try.ntmps58
    go_wp2_with (first | ((with_reducible refine gate_dst (N := 3) rfl ?_); refine BX 3 #[.int .i64 a0_0, .bool false, .slice A0_2 l0_2.length c0_2] 97 ?_; intro gb171 hg w23 hbox hb; have BK171 := Aside0.mk (hbox); have GW171 : Aside0 (w.heap.size ≤ gb171) := WG hg (BB HB.out); have GE171 := GW171; replace HB := Aside0.mk (below_step (BB HB.out) hb); clear hb hbox hg; have hcz24 := blk_cell BK171.out; have hfz24 := blk_frozen BK171.out) | (go_at_call 106; (with_reducible refine (impl_unitAt.calls a0_0 false _ _ l0_2 a1 a2 t172 _ ?side1 ?side2 A4.out).mono ?_); (case side1 => exact CC (Kd.C_below HR0_2.out HB.out)); (case side2 => exact HC0_2.out); rintro e w25 ⟨rfl, hb⟩; replace BK171 := Aside0.mk (KB BK171.out hb); replace HB := Aside0.mk (below_step (BB1 HB.out GE171.out) hb); (try clear hb); (try clear hb2); (try clear hk); (try clear hi); have hcz26 := blk_cell BK171.out; have hfz26 := blk_frozen BK171.out))
    repeat (go_quiet (first | ((with_reducible refine gate_dst (N := 3) rfl ?_); refine BX 3 #[.int .i64 a0_0, .bool false, .slice A0_2 l0_2.length c0_2] 97 ?_; intro gb171 hg w23 hbox hb; have BK171 := Aside0.mk (hbox); have GW171 : Aside0 (w.heap.size ≤ gb171) := WG hg (BB HB.out); have GE171 := GW171; replace HB := Aside0.mk (below_step (BB HB.out) hb); clear hb hbox hg; have hcz24 := blk_cell BK171.out; have hfz24 := blk_frozen BK171.out) | (go_at_call 106; (with_reducible refine (impl_unitAt.calls a0_0 false _ _ l0_2 a1 a2 t172 _ ?side1 ?side2 A4.out).mono ?_); (case side1 => exact CC (Kd.C_below HR0_2.out HB.out)); (case side2 => exact HC0_2.out); rintro e w25 ⟨rfl, hb⟩; replace BK171 := Aside0.mk (KB BK171.out hb); replace HB := Aside0.mk (below_step (BB1 HB.out GE171.out) hb); (try clear hb); (try clear hb2); (try clear hk); (try clear hi); have hcz26 := blk_cell BK171.out; have hfz26 := blk_frozen BK171.out)); try go_wp2_with (first | ((with_reducible refine gate_dst (N := 3) rfl ?_); refine BX 3 #[.int .i64 a0_0, .bool false, .slice A0_2 l0_2.length c0_2] 97 ?_; intro gb171 hg w23 hbox hb; have BK171 := Aside0.mk (hbox); have GW171 : Aside0 (w.heap.size ≤ gb171) := WG hg (BB HB.out); have GE171 := GW171; replace HB := Aside0.mk (below_step (BB HB.out) hb); clear hb hbox hg; have hcz24 := blk_cell BK171.out; have hfz24 := blk_frozen BK171.out) | (go_at_call 106; (with_reducible refine (impl_unitAt.calls a0_0 false _ _ l0_2 a1 a2 t172 _ ?side1 ?side2 A4.out).mono ?_); (case side1 => exact CC (Kd.C_below HR0_2.out HB.out)); (case side2 => exact HC0_2.out); rintro e w25 ⟨rfl, hb⟩; replace BK171 := Aside0.mk (KB BK171.out hb); replace HB := Aside0.mk (below_step (BB1 HB.out GE171.out) hb); (try clear hb); (try clear hb2); (try clear hk); (try clear hi); have hcz26 := blk_cell BK171.out; have hfz26 := blk_frozen BK171.out)))
    go_ret2
    exact ⟨ER, (BB1 HB.out GE171.out)⟩

end Go.Proofs.Ytfgnaneajonapaa.Pr

/- Printed out of the translation by this session's pr.py over the kit's print. Lean checks it. -/
namespace Go.Proofs.Ytfgnaneajonapaa.Pr
open Go.RowKit Go.Proofs.YtfgnaneajonapaaW.PrintWords Go.Proofs.YtfgnaneajonapaaW.PrintLast Go.Proofs.YtfgnaneajonapaaW.PrintMore
attribute [local go_sem] max2_int min2_int max_two min_two max_three min_three max_four min_four
set_option linter.unusedVariables false
set_option linter.unusedSimpArgs false

/-! ### impl_UnitsOf: function 17 -/
mutual
def impl_UnitsOf.l0 : Nat → List (S97) → Int → Int → Int → List ByteArray → List Bool → Int → Option (List ByteArray × List Bool)
  | 0, _, _, _, _, _, _, _ => none
  | k + 1, x0, x2, x8, x9, x11, x12, x13 => if x13 < (wrap64 (x8 + x9)) then (impl_UnitsOf.l1 k x0 x2 x8 x9 x11 x12 x13 (⟨#[]⟩ : ByteArray) false x0 (x0.length : Int) 0) else (some (x11, x12))
def impl_UnitsOf.l1 : Nat → List (S97) → Int → Int → Int → List ByteArray → List Bool → Int → ByteArray → Bool → List (S97) → Int → Int → Option (List ByteArray × List Bool)
  | 0, _, _, _, _, _, _, _, _, _, _, _, _ => none
  | k + 1, x0, x2, x8, x9, x11, x12, x13, x14, x15, x31, x32, x33 => if x33 < x32 then (if 0 ≤ x33 then (if x33 < (x31.length : Int) then ((impl_GetUnit.f k ((rd_T97 x31 x33).f0) ((rd_T97 x31 x33).f1) ((rd_T97 x31 x33).f2) x2 x13).bind fun bt182 => (if bt182.2 = true then (if x11.length < 8796093022208 then (if x12.length < 140737488355328 then (impl_UnitsOf.l0 k x0 x2 x8 x9 (x11 ++ [bt182.1]) (x12 ++ [bt182.2]) (wrap64 (x13 + 1))) else (none)) else (none)) else (impl_UnitsOf.l1 k x0 x2 x8 x9 x11 x12 x13 bt182.1 bt182.2 x31 x32 (wrap64 (x33 + 1))))) else (none)) else (none)) else (if x11.length < 8796093022208 then (if x12.length < 140737488355328 then (impl_UnitsOf.l0 k x0 x2 x8 x9 (x11 ++ [x14]) (x12 ++ [x15]) (wrap64 (x13 + 1))) else (none)) else (none))
end
def impl_UnitsOf.f (k : Nat) (l0 : List (S97)) (a1 : Int) (a2 : Int) : Option (List ByteArray × List Bool) := (impl_SchemaOf.f a1).bind fun bt177 => (impl_UnitsOf.l0 k l0 a2 bt177.1 bt177.2.1 ([] : List ByteArray) ([] : List Bool) 0)
set_option maxHeartbeats 8000000 in
set_option maxRecDepth 100000 in
theorem impl_UnitsOf.calls (k : Nat) (A0 : Option Addr) (c0 : Nat) (l0 : List (S97)) (a1 : Int) (a2 : Int) (r1 : List ByteArray) (r2 : List Bool) (w : World) (hr0 : Kd.C k97 w A0 l0.length l0) (hc0 : l0.length ≤ c0) (h : impl_UnitsOf.f k l0 a1 a2 = some (r1, r2)) :
    Calls Try.prog 17 #[.slice A0 l0.length c0, .int .i64 a1, .int .i64 a2] w fun e w' => ∃ v0_ v1_ : Value, e = .returned (.tuple #[v0_, v1_]) ∧ Kd.R Kd.string 9 w' w.heap.size (fun _ => True) v0_ r1 ∧ Kd.R Kd.bool 4 w' w.heap.size (fun _ => True) v1_ r2 ∧ Below w.heap.size w w' := by
  have hu97 := Try.underlying97
  have HR0 := Aside0.mk hr0
  have HC0 := Aside0.mk hc0
  clear hr0 hc0
  have HB := Aside0.mk (Below.refl w.heap.size w)
  have H : ((impl_SchemaOf.f a1).bind fun bt177 => (impl_UnitsOf.l0 k l0 a2 bt177.1 bt177.2.1 ([] : List ByteArray) ([] : List Bool) 0)) = some (r1, r2) := h
  clear h
  replace H := Option.bind_eq_some_iff.mp H
  obtain ⟨⟨t177, t178, t179⟩, A40, H⟩ := H
  replace H : (impl_UnitsOf.l0 k l0 a2 t177 t178 ([] : List ByteArray) ([] : List Bool) 0) = some (r1, r2) := H
  have A4 := Aside0.mk A40
  clear A40
  have H' := Aside0.mk H
  clear H
  go_enter Try.func17, Try.ntmps17
  go_wp2_with (first | ((with_reducible refine gate_callee (f := 57) rfl ?_); refine GL (some 20) rfl rfl Try.func57 #[.int .i64 a1] rfl ?_; (with_reducible refine (impl_SchemaOf.calls a1 t177 t178 t179 _ A4.out).mono ?_); rintro e w' ⟨rfl, ⟨nd, rfl⟩⟩; refine ⟨_, rfl, ?_⟩))
  go_loopg [11, 12, 13] k (fun kq v11 v12 v13 w' => ∃ (x11_1 : List ByteArray) (x12_1 : List Bool) (x13_1 : Int), v13 = .int .i64 x13_1 ∧ Aside0 (impl_UnitsOf.l0 kq l0 a2 t177 t178 x11_1 x12_1 x13_1 = some (r1, r2)) ∧ Aside0 (kq ≤ k) ∧ Aside0 (Kd.R Kd.string 9 w' w.heap.size (fun _ => True) v11 x11_1) ∧ Aside0 (Kd.R Kd.bool 4 w' w.heap.size (fun _ => True) v12 x12_1) ∧ Aside0 (Below w.heap.size w w'))
  case atStart => exact ⟨(([] : List ByteArray)), (([] : List Bool)), (0), FR, H', ⟨Nat.le_refl _⟩, ⟨by first | exact Kd.R_nil _ _ _ _ _ | exact Kd.N_nil _ _ _ _ _ | exact Kd.V_nil _ _ _ _ _ | exact Kd.Q_nil _ _ _ _ _ | exact Kd.S_nil _ _ _ _ _⟩, ⟨by first | exact Kd.R_nil _ _ _ _ _ | exact Kd.N_nil _ _ _ _ _ | exact Kd.V_nil _ _ _ _ _ | exact Kd.Q_nil _ _ _ _ _ | exact Kd.S_nil _ _ _ _ _⟩, ⟨(BB HB.out)⟩⟩
  case round =>
    clear H'
    try clear c1
    try clear p2
    obtain ⟨x11_1, x12_1, x13_1, rfl, HA, HK1, HO_11, HO_12, HB⟩ := hrel
    cases gk with
    | zero => exact absurd HA.out (by simp [impl_UnitsOf.l0])
    | succ k1 =>
      have H := HA.out
      clear HA
      simp only [impl_UnitsOf.l0] at H
      by_cases c5 : x13_1 < (wrap64 (t177 + t178))
      · rw [if_pos c5] at H
        have c5b0 : decide (x13_1 < (wrap64 (t177 + t178))) = true := decide_eq_true c5
        clear c5
        have H' := Aside0.mk H
        clear H
        go_wp2
        go_loopg [14, 15, 33] k1 (fun kq v14 v15 v33 w' => ∃ (x14_2 : ByteArray) (x15_2 : Bool) (x33_2 : Int), v14 = .string x14_2 ∧ v15 = .bool x15_2 ∧ v33 = .int .i64 x33_2 ∧ Aside0 (impl_UnitsOf.l1 kq l0 a2 t177 t178 x11_1 x12_1 x13_1 x14_2 x15_2 l0 (l0.length : Int) x33_2 = some (r1, r2)) ∧ Aside0 (kq ≤ k1) ∧ Aside0 (Kd.R Kd.string 9 w' w.heap.size (fun _ => True) u11 x11_1) ∧ Aside0 (Kd.R Kd.bool 4 w' w.heap.size (fun _ => True) u12 x12_1) ∧ Aside0 (Below w.heap.size w w'))
        case atStart => exact ⟨((⟨#[]⟩ : ByteArray)), (false), (0), FR, FR, FR, H', ⟨Nat.le_refl _⟩, ⟨(RR HO_11.out)⟩, ⟨(RR HO_12.out)⟩, ⟨(BB HB.out)⟩⟩
        case round =>
          clear H'
          try clear c1
          try clear p2
          try clear c5
          try clear c5b0
          try clear p2
          obtain ⟨x14_2, x15_2, x33_2, rfl, rfl, rfl, HA, HK2, HO_11, HO_12, HB⟩ := hrel
          cases gk with
          | zero => exact absurd HA.out (by simp [impl_UnitsOf.l1])
          | succ k2 =>
            have H := HA.out
            clear HA
            simp only [impl_UnitsOf.l1] at H
            by_cases c6 : x33_2 < (l0.length : Int)
            · rw [if_pos c6] at H
              have c6b0 : decide (x33_2 < (l0.length : Int)) = true := decide_eq_true c6
              clear c6
              by_cases c7 : 0 ≤ x33_2
              · rw [if_pos c7] at H
                have c7b0 : decide (0 ≤ x33_2) = true := decide_eq_true c7
                clear c7
                by_cases c8 : x33_2 < (l0.length : Int)
                · rw [if_pos c8] at H
                  have c8b0 : decide (x33_2 < (l0.length : Int)) = true := decide_eq_true c8
                  clear c8
                  replace H := Option.bind_eq_some_iff.mp H
                  obtain ⟨⟨t182, t183⟩, A90, H⟩ := H
                  replace H : (if t183 = true then (if x11_1.length < 8796093022208 then (if x12_1.length < 140737488355328 then (impl_UnitsOf.l0 k2 l0 a2 t177 t178 (x11_1 ++ [t182]) (x12_1 ++ [t183]) (wrap64 (x13_1 + 1))) else (none)) else (none)) else (impl_UnitsOf.l1 k2 l0 a2 t177 t178 x11_1 x12_1 x13_1 t182 t183 l0 (l0.length : Int) (wrap64 (x33_2 + 1)))) = some (r1, r2) := H
                  have A9 := Aside0.mk A90
                  clear A90
                  by_cases c10 : t183 = true
                  · subst c10
                    have H1 : (if x11_1.length < 8796093022208 then (if x12_1.length < 140737488355328 then (impl_UnitsOf.l0 k2 l0 a2 t177 t178 (x11_1 ++ [t182]) (x12_1 ++ [true]) (wrap64 (x13_1 + 1))) else (none)) else (none)) = some (r1, r2) := by rw [if_pos rfl] at H; exact H
                    clear H
                    have H := H1
                    clear H1
                    by_cases c11 : x11_1.length < 8796093022208
                    · rw [if_pos c11] at H
                      have LMc11 := Aside0.mk c11
                      clear c11
                      obtain ⟨y184, hy184⟩ : ∃ y_ : List ByteArray, y_ = (x11_1 ++ [t182]) := ⟨_, rfl⟩
                      replace H : (if x12_1.length < 140737488355328 then (impl_UnitsOf.l0 k2 l0 a2 t177 t178 y184 (x12_1 ++ [true]) (wrap64 (x13_1 + 1))) else (none)) = some (r1, r2) := by first | (rw [hy184]; with_reducible exact H) | (have H2_ := (Option.bind_some _ _).symm.trans H; rw [hy184]; with_reducible exact H2_) | (have H2_ := (Option.bind_some _ _).symm.trans H; with_reducible exact H2_) | with_reducible exact H | (rw [hy184]; exact H) | exact H
                      have Ny184 := Aside0.mk hy184
                      clear hy184
                      by_cases c12 : x12_1.length < 140737488355328
                      · rw [if_pos c12] at H
                        have LMc12 := Aside0.mk c12
                        clear c12
                        obtain ⟨y187, hy187⟩ : ∃ y_ : List Bool, y_ = (x12_1 ++ [true]) := ⟨_, rfl⟩
                        replace H : (impl_UnitsOf.l0 k2 l0 a2 t177 t178 y184 y187 (wrap64 (x13_1 + 1))) = some (r1, r2) := by first | (rw [hy187]; with_reducible exact H) | (have H2_ := (Option.bind_some _ _).symm.trans H; rw [hy187]; with_reducible exact H2_) | (have H2_ := (Option.bind_some _ _).symm.trans H; with_reducible exact H2_) | with_reducible exact H | (rw [hy187]; exact H) | exact H
                        have Ny187 := Aside0.mk hy187
                        clear hy187
                        have H' := Aside0.mk H
                        clear H
                        have p180 : 0 ≤ (x33_2 : Int) := DT
                        have q180 : x33_2 < (l0.length : Int) := DT
                        obtain ⟨ad180, A180_2, c180_2, e180, hx180_0, hx180_1, hx180_2, hl180_2, hi180_2⟩ := at_T97 HR0.out x33_2 p180 q180
                        cases e180
                        replace hx180_0 := (HB.out.cell (World.block_lt_of_cell? w _ hx180_0)).trans hx180_0
                        replace hx180_1 := (HB.out.cell (World.block_lt_of_cell? w _ hx180_1)).trans hx180_1
                        replace hx180_2 := (HB.out.cell (World.block_lt_of_cell? w _ hx180_2)).trans hx180_2
                        have HR180_2 := Aside0.mk hi180_2
                        have HC180_2 := Aside0.mk hl180_2
                        clear hi180_2 hl180_2
                        replace p180 := eq_true p180
                        replace q180 := eq_true q180
                        go_wp2_with (first | ((with_reducible refine gate_dst (N := 17) rfl ?_); refine BX 17 #[.int .i64 0, .bool false, .slice none 0 0] 97 ?_; intro gb181 hg w13 hbox hb; have BK181 := Aside0.mk (hbox); have GW181 : Aside0 (w.heap.size ≤ gb181) := WG hg (BB HB.out); have GE181 := GW181; replace HO_11 := Aside0.mk (Kd.R_below (RR HO_11.out) hb); replace HO_12 := Aside0.mk (Kd.R_below (RR HO_12.out) hb); replace HB := Aside0.mk (below_step (BB HB.out) hb); clear hb hbox hg; have hcz14 := blk_cell BK181.out; have hfz14 := blk_frozen BK181.out) | ((with_reducible refine gate_callee (f := 58) rfl ?_); refine GL (some 41) rfl rfl Try.func58 #[.agg #[.int .i64 ((rd_T97 l0 x33_2).f0), .bool ((rd_T97 l0 x33_2).f1), .slice A180_2 ((rd_T97 l0 x33_2).f2).length c180_2], .int .i64 a2, .int .i64 x13_1] rfl ?_; (with_reducible refine (impl_GetUnit.calls k2 ((rd_T97 l0 x33_2).f0) ((rd_T97 l0 x33_2).f1) _ _ ((rd_T97 l0 x33_2).f2) a2 x13_1 t182 true _ ?side1 ?side2 A9.out).mono ?_); (case side1 => exact Kd.C_below HR180_2.out (BB1 HB.out GE181.out)); (case side2 => exact HC180_2.out); rintro e w15 ⟨rfl, hb⟩; refine ⟨_, rfl, ?_⟩; have n0_ := Aside0.mk (Kd.R_below (by (with_reducible repeat (first | apply Kd.R_alloc | apply Kd.R_drewN | apply Kd.R_drew)); exact (Kd.R_mono (Kd.R_far (p := ⟨gb181, 2, none⟩) (Kd.R_far (p := ⟨gb181, 1, none⟩) (Kd.R_far (p := ⟨gb181, 0, none⟩) (Kd.R_types HO_11.out BK181.out (by decide)) (fun _ hk => hk.2) (.int .i64 ((rd_T97 l0 x33_2).f0))) (fun _ hk => hk.2) (.bool ((rd_T97 l0 x33_2).f1))) (fun _ hk => hk.2) (.slice A180_2 ((rd_T97 l0 x33_2).f2).length c180_2)) (fun _ h_ => h_.1))) hb); have n1_ := Aside0.mk (Kd.R_below (by (with_reducible repeat (first | apply Kd.R_alloc | apply Kd.R_drewN | apply Kd.R_drew)); exact (Kd.R_mono (Kd.R_far (p := ⟨gb181, 2, none⟩) (Kd.R_far (p := ⟨gb181, 1, none⟩) (Kd.R_far (p := ⟨gb181, 0, none⟩) (Kd.R_types HO_12.out BK181.out (by decide)) (fun _ hk => hk.2) (.int .i64 ((rd_T97 l0 x33_2).f0))) (fun _ hk => hk.2) (.bool ((rd_T97 l0 x33_2).f1))) (fun _ hk => hk.2) (.slice A180_2 ((rd_T97 l0 x33_2).f2).length c180_2)) (fun _ h_ => h_.1))) hb); have n2_ := Aside0.mk (blk_below (g := gb181) (o := .cells #[.int .i64 ((rd_T97 l0 x33_2).f0), .bool ((rd_T97 l0 x33_2).f1), .slice A180_2 ((rd_T97 l0 x33_2).f2).length c180_2] 97 (0, 0)) (by (with_reducible repeat (first | refine blk_drewN ?_ _ | refine blk_drew ?_ | refine blk_alloc ?_ _)); refine blk_put (cs := #[.int .i64 ((rd_T97 l0 x33_2).f0), .bool ((rd_T97 l0 x33_2).f1), .slice none 0 0]) ?_ 2 _ rfl; (with_reducible repeat (first | refine blk_drewN ?_ _ | refine blk_drew ?_ | refine blk_alloc ?_ _)); refine blk_put (cs := #[.int .i64 ((rd_T97 l0 x33_2).f0), .bool false, .slice none 0 0]) ?_ 1 _ rfl; (with_reducible repeat (first | refine blk_drewN ?_ _ | refine blk_drew ?_ | refine blk_alloc ?_ _)); refine blk_put (cs := #[.int .i64 0, .bool false, .slice none 0 0]) ?_ 0 _ rfl; (with_reducible repeat (first | refine blk_drewN ?_ _ | refine blk_drew ?_ | refine blk_alloc ?_ _)); exact BK181.out) hb); have n3_ := Aside0.mk (below_step (BB1 HB.out GE181.out) hb); clear HO_11; clear HO_12; clear BK181; clear HB; have HO_11 := n0_; have HO_12 := n1_; have BK181 := n2_; have HB := n3_; clear n0_ n1_ n2_ n3_; (try clear hb)) | ((with_reducible refine gate_builtin (b := .append) (xs := #[.tmp 46, .tmp 48]) rfl ?_); at_builtin; refine Kd.R_append Kd.string (w0 := w) w.heap.size rfl (.tmp 46) (.tmp 48) 29 9 (.string ⟨#[]⟩) 16 rfl Try.underlying29 info9 rfl (by decide) (by omega) u11 x11_1 t182 [.string t182] (fun _ => True) (fun _ => False) rfl rfl ?aP (fun _ hk => hk.elim) ?aF ?aO ?aB ?aS ?aL ?_; (case aP => exact rfl); (case aB => exact (BB1 HB.out GE181.out)); (case aF => exact (fun _ _ => trivial)); (case aO => exact (RR HO_11.out)); (case aS => exact (below_size (BB1 HB.out GE181.out))); (case aL => have := LMc11.out; omega); intro v185 w16 ho hb hg hat; rw [← Ny184.out] at ho; have n0_ := Aside0.mk (Kd.R_over' (RR HO_12.out) (Kd.R_typed (RR HO_11.out)) (by decide) hg); have n1_ := Aside0.mk (blk_grown (g := gb181) (o := .cells #[.int .i64 ((rd_T97 l0 x33_2).f0), .bool ((rd_T97 l0 x33_2).f1), .slice A180_2 ((rd_T97 l0 x33_2).f2).length c180_2] 97 (0, 0)) (by (with_reducible repeat (first | refine blk_drewN ?_ _ | refine blk_drew ?_ | refine blk_alloc ?_ _)); exact BK181.out) hg (Kd.R_ne HO_11.out BK181.out (by decide))); have n2_ := Aside0.mk (hb); have n3_ := Aside0.mk (ho); clear HO_12; clear BK181; clear HB; clear HO_11; have HO_12 := n0_; have BK181 := n1_; have HB := n2_; have HO186 := n3_; clear n0_ n1_ n2_ n3_; clear ho hb hg hat) | ((with_reducible refine gate_builtin (b := .append) (xs := #[.tmp 50, .tmp 52]) rfl ?_); at_builtin; refine Kd.R_append Kd.bool (w0 := w) w.heap.size rfl (.tmp 50) (.tmp 52) 30 4 (.bool false) 1 rfl Try.underlying30 info4 rfl (by decide) (by omega) u12 x12_1 true [.bool true] (fun _ => True) (fun _ => False) rfl rfl ?aP (fun _ hk => hk.elim) ?aF ?aO ?aB ?aS ?aL ?_; (case aP => exact rfl); (case aB => exact (BB1 HB.out GE181.out)); (case aF => exact (fun _ _ => trivial)); (case aO => exact (RR HO_12.out)); (case aS => exact (below_size (BB1 HB.out GE181.out))); (case aL => have := LMc12.out; omega); intro v188 w17 ho hb hg hat; rw [← Ny187.out] at ho; have n0_ := Aside0.mk (blk_grown (g := gb181) (o := .cells #[.int .i64 ((rd_T97 l0 x33_2).f0), .bool ((rd_T97 l0 x33_2).f1), .slice A180_2 ((rd_T97 l0 x33_2).f2).length c180_2] 97 (0, 0)) (by (with_reducible repeat (first | refine blk_drewN ?_ _ | refine blk_drew ?_ | refine blk_alloc ?_ _)); exact BK181.out) hg (Kd.R_ne HO_12.out BK181.out (by decide))); have n1_ := Aside0.mk (Kd.R_over' (RR HO186.out) (Kd.R_typed (RR HO_12.out)) (by decide) hg); have n2_ := Aside0.mk (hb); have n3_ := Aside0.mk (ho); clear BK181; clear HO186; clear HB; clear HO_12; have BK181 := n0_; have HO186 := n1_; have HB := n2_; have HO189 := n3_; clear n0_ n1_ n2_ n3_; clear ho hb hg hat))
                        go_roundg k2
                        case measure => have := HK1.out; have := HK2.out; omega
                        case rel => exact ⟨(y184), (y187), (wrap64 (x13_1 + 1)), FR, H', ⟨by have := HK1.out; have := HK2.out; omega⟩, ⟨(RR HO186.out)⟩, ⟨(RR HO189.out)⟩, ⟨(BB1 HB.out GE181.out)⟩⟩
                      · rw [if_neg c12] at H
                        exact absurd H (by simp)
                    · rw [if_neg c11] at H
                      exact absurd H (by simp)
                  · replace c10 := Bool.eq_false_iff.mpr c10
                    subst c10
                    have H1 : (impl_UnitsOf.l1 k2 l0 a2 t177 t178 x11_1 x12_1 x13_1 t182 false l0 (l0.length : Int) (wrap64 (x33_2 + 1))) = some (r1, r2) := by rw [if_neg (show ¬ (false = true) by decide)] at H; exact H
                    clear H
                    have H := H1
                    clear H1
                    have H' := Aside0.mk H
                    clear H
                    have p180 : 0 ≤ (x33_2 : Int) := DT
                    have q180 : x33_2 < (l0.length : Int) := DT
                    obtain ⟨ad180, A180_2, c180_2, e180, hx180_0, hx180_1, hx180_2, hl180_2, hi180_2⟩ := at_T97 HR0.out x33_2 p180 q180
                    cases e180
                    replace hx180_0 := (HB.out.cell (World.block_lt_of_cell? w _ hx180_0)).trans hx180_0
                    replace hx180_1 := (HB.out.cell (World.block_lt_of_cell? w _ hx180_1)).trans hx180_1
                    replace hx180_2 := (HB.out.cell (World.block_lt_of_cell? w _ hx180_2)).trans hx180_2
                    have HR180_2 := Aside0.mk hi180_2
                    have HC180_2 := Aside0.mk hl180_2
                    clear hi180_2 hl180_2
                    replace p180 := eq_true p180
                    replace q180 := eq_true q180
                    go_wp2_with (first | ((with_reducible refine gate_dst (N := 17) rfl ?_); refine BX 17 #[.int .i64 0, .bool false, .slice none 0 0] 97 ?_; intro gb181 hg w18 hbox hb; have BK181 := Aside0.mk (hbox); have GW181 : Aside0 (w.heap.size ≤ gb181) := WG hg (BB HB.out); have GE181 := GW181; replace HO_11 := Aside0.mk (Kd.R_below (RR HO_11.out) hb); replace HO_12 := Aside0.mk (Kd.R_below (RR HO_12.out) hb); replace HB := Aside0.mk (below_step (BB HB.out) hb); clear hb hbox hg; have hcz19 := blk_cell BK181.out; have hfz19 := blk_frozen BK181.out) | ((with_reducible refine gate_callee (f := 58) rfl ?_); refine GL (some 41) rfl rfl Try.func58 #[.agg #[.int .i64 ((rd_T97 l0 x33_2).f0), .bool ((rd_T97 l0 x33_2).f1), .slice A180_2 ((rd_T97 l0 x33_2).f2).length c180_2], .int .i64 a2, .int .i64 x13_1] rfl ?_; (with_reducible refine (impl_GetUnit.calls k2 ((rd_T97 l0 x33_2).f0) ((rd_T97 l0 x33_2).f1) _ _ ((rd_T97 l0 x33_2).f2) a2 x13_1 t182 false _ ?side1 ?side2 A9.out).mono ?_); (case side1 => exact Kd.C_below HR180_2.out (BB1 HB.out GE181.out)); (case side2 => exact HC180_2.out); rintro e w20 ⟨rfl, hb⟩; refine ⟨_, rfl, ?_⟩; have n0_ := Aside0.mk (Kd.R_below (by (with_reducible repeat (first | apply Kd.R_alloc | apply Kd.R_drewN | apply Kd.R_drew)); exact (Kd.R_mono (Kd.R_far (p := ⟨gb181, 2, none⟩) (Kd.R_far (p := ⟨gb181, 1, none⟩) (Kd.R_far (p := ⟨gb181, 0, none⟩) (Kd.R_types HO_11.out BK181.out (by decide)) (fun _ hk => hk.2) (.int .i64 ((rd_T97 l0 x33_2).f0))) (fun _ hk => hk.2) (.bool ((rd_T97 l0 x33_2).f1))) (fun _ hk => hk.2) (.slice A180_2 ((rd_T97 l0 x33_2).f2).length c180_2)) (fun _ h_ => h_.1))) hb); have n1_ := Aside0.mk (Kd.R_below (by (with_reducible repeat (first | apply Kd.R_alloc | apply Kd.R_drewN | apply Kd.R_drew)); exact (Kd.R_mono (Kd.R_far (p := ⟨gb181, 2, none⟩) (Kd.R_far (p := ⟨gb181, 1, none⟩) (Kd.R_far (p := ⟨gb181, 0, none⟩) (Kd.R_types HO_12.out BK181.out (by decide)) (fun _ hk => hk.2) (.int .i64 ((rd_T97 l0 x33_2).f0))) (fun _ hk => hk.2) (.bool ((rd_T97 l0 x33_2).f1))) (fun _ hk => hk.2) (.slice A180_2 ((rd_T97 l0 x33_2).f2).length c180_2)) (fun _ h_ => h_.1))) hb); have n2_ := Aside0.mk (blk_below (g := gb181) (o := .cells #[.int .i64 ((rd_T97 l0 x33_2).f0), .bool ((rd_T97 l0 x33_2).f1), .slice A180_2 ((rd_T97 l0 x33_2).f2).length c180_2] 97 (0, 0)) (by (with_reducible repeat (first | refine blk_drewN ?_ _ | refine blk_drew ?_ | refine blk_alloc ?_ _)); refine blk_put (cs := #[.int .i64 ((rd_T97 l0 x33_2).f0), .bool ((rd_T97 l0 x33_2).f1), .slice none 0 0]) ?_ 2 _ rfl; (with_reducible repeat (first | refine blk_drewN ?_ _ | refine blk_drew ?_ | refine blk_alloc ?_ _)); refine blk_put (cs := #[.int .i64 ((rd_T97 l0 x33_2).f0), .bool false, .slice none 0 0]) ?_ 1 _ rfl; (with_reducible repeat (first | refine blk_drewN ?_ _ | refine blk_drew ?_ | refine blk_alloc ?_ _)); refine blk_put (cs := #[.int .i64 0, .bool false, .slice none 0 0]) ?_ 0 _ rfl; (with_reducible repeat (first | refine blk_drewN ?_ _ | refine blk_drew ?_ | refine blk_alloc ?_ _)); exact BK181.out) hb); have n3_ := Aside0.mk (below_step (BB1 HB.out GE181.out) hb); clear HO_11; clear HO_12; clear BK181; clear HB; have HO_11 := n0_; have HO_12 := n1_; have BK181 := n2_; have HB := n3_; clear n0_ n1_ n2_ n3_; (try clear hb)))
                    go_roundg k2
                    case measure => have := HK1.out; have := HK2.out; omega
                    case rel => exact ⟨(t182), (false), (wrap64 (x33_2 + 1)), FR, FR, FR, H', ⟨by have := HK1.out; have := HK2.out; omega⟩, ⟨(RR HO_11.out)⟩, ⟨(RR HO_12.out)⟩, ⟨(BB1 HB.out GE181.out)⟩⟩
                · rw [if_neg c8] at H
                  exact absurd H (by simp)
              · rw [if_neg c7] at H
                exact absurd H (by simp)
            · rw [if_neg c6] at H
              have c6b0 : decide (x33_2 < (l0.length : Int)) = false := decide_eq_false c6
              clear c6
              by_cases c21 : x11_1.length < 8796093022208
              · rw [if_pos c21] at H
                have LMc21 := Aside0.mk c21
                clear c21
                obtain ⟨y190, hy190⟩ : ∃ y_ : List ByteArray, y_ = (x11_1 ++ [x14_2]) := ⟨_, rfl⟩
                replace H : (if x12_1.length < 140737488355328 then (impl_UnitsOf.l0 k2 l0 a2 t177 t178 y190 (x12_1 ++ [x15_2]) (wrap64 (x13_1 + 1))) else (none)) = some (r1, r2) := by first | (rw [hy190]; with_reducible exact H) | (have H2_ := (Option.bind_some _ _).symm.trans H; rw [hy190]; with_reducible exact H2_) | (have H2_ := (Option.bind_some _ _).symm.trans H; with_reducible exact H2_) | with_reducible exact H | (rw [hy190]; exact H) | exact H
                have Ny190 := Aside0.mk hy190
                clear hy190
                by_cases c22 : x12_1.length < 140737488355328
                · rw [if_pos c22] at H
                  have LMc22 := Aside0.mk c22
                  clear c22
                  obtain ⟨y193, hy193⟩ : ∃ y_ : List Bool, y_ = (x12_1 ++ [x15_2]) := ⟨_, rfl⟩
                  replace H : (impl_UnitsOf.l0 k2 l0 a2 t177 t178 y190 y193 (wrap64 (x13_1 + 1))) = some (r1, r2) := by first | (rw [hy193]; with_reducible exact H) | (have H2_ := (Option.bind_some _ _).symm.trans H; rw [hy193]; with_reducible exact H2_) | (have H2_ := (Option.bind_some _ _).symm.trans H; with_reducible exact H2_) | with_reducible exact H | (rw [hy193]; exact H) | exact H
                  have Ny193 := Aside0.mk hy193
                  clear hy193
                  have H' := Aside0.mk H
                  clear H
                  go_wp2_with (first | ((with_reducible refine gate_builtin (b := .append) (xs := #[.tmp 46, .tmp 48]) rfl ?_); at_builtin; refine Kd.R_append Kd.string (w0 := w) w.heap.size rfl (.tmp 46) (.tmp 48) 29 9 (.string ⟨#[]⟩) 16 rfl Try.underlying29 info9 rfl (by decide) (by omega) u11 x11_1 x14_2 [.string x14_2] (fun _ => True) (fun _ => False) rfl rfl ?aP (fun _ hk => hk.elim) ?aF ?aO ?aB ?aS ?aL ?_; (case aP => exact rfl); (case aB => exact (BB HB.out)); (case aF => exact (fun _ _ => trivial)); (case aO => exact (RR HO_11.out)); (case aS => exact (below_size (BB HB.out))); (case aL => have := LMc21.out; omega); intro v191 w23 ho hb hg hat; rw [← Ny190.out] at ho; have HO192 := Aside0.mk (ho); replace HO_12 := Aside0.mk (Kd.R_over' (RR HO_12.out) (Kd.R_typed (RR HO_11.out)) (by decide) hg); replace HB := Aside0.mk (hb); clear HO_11; clear ho hb hg hat) | ((with_reducible refine gate_builtin (b := .append) (xs := #[.tmp 50, .tmp 52]) rfl ?_); at_builtin; refine Kd.R_append Kd.bool (w0 := w) w.heap.size rfl (.tmp 50) (.tmp 52) 30 4 (.bool false) 1 rfl Try.underlying30 info4 rfl (by decide) (by omega) u12 x12_1 x15_2 [.bool x15_2] (fun _ => True) (fun _ => False) rfl rfl ?aP (fun _ hk => hk.elim) ?aF ?aO ?aB ?aS ?aL ?_; (case aP => exact rfl); (case aB => exact (BB HB.out)); (case aF => exact (fun _ _ => trivial)); (case aO => exact (RR HO_12.out)); (case aS => exact (below_size (BB HB.out))); (case aL => have := LMc22.out; omega); intro v194 w24 ho hb hg hat; rw [← Ny193.out] at ho; have HO195 := Aside0.mk (ho); replace HO192 := Aside0.mk (Kd.R_over' (RR HO192.out) (Kd.R_typed (RR HO_12.out)) (by decide) hg); replace HB := Aside0.mk (hb); clear HO_12; clear ho hb hg hat))
                  go_roundg k2
                  case measure => have := HK1.out; have := HK2.out; omega
                  case rel => exact ⟨(y190), (y193), (wrap64 (x13_1 + 1)), FR, H', ⟨by have := HK1.out; have := HK2.out; omega⟩, ⟨(RR HO192.out)⟩, ⟨(RR HO195.out)⟩, ⟨(BB HB.out)⟩⟩
                · rw [if_neg c22] at H
                  exact absurd H (by simp)
              · rw [if_neg c21] at H
                exact absurd H (by simp)
      · rw [if_neg c5] at H
        have c5b0 : decide (x13_1 < (wrap64 (t177 + t178))) = false := decide_eq_false c5
        clear c5
        simp only [Option.some.injEq, Prod.mk.injEq] at H
        obtain ⟨rfl, rfl⟩ := H
        go_wp2
        go_ret2
        exact ⟨_, _, ER, by (with_reducible repeat (first | apply Kd.R_alloc | apply Kd.R_drewN | apply Kd.R_drew)); exact HO_11.out, by (with_reducible repeat (first | apply Kd.R_alloc | apply Kd.R_drewN | apply Kd.R_drew)); exact HO_12.out, (BB HB.out)⟩

end Go.Proofs.Ytfgnaneajonapaa.Pr

/- Printed out of the translation by this session's pr.py over the kit's print. Lean checks it. -/
namespace Go.Proofs.Ytfgnaneajonapaa.Pr
open Go.RowKit Go.Proofs.YtfgnaneajonapaaW.PrintWords Go.Proofs.YtfgnaneajonapaaW.PrintLast Go.Proofs.YtfgnaneajonapaaW.PrintMore
attribute [local go_sem] max2_int min2_int max_two min_two max_three min_three max_four min_four
set_option linter.unusedVariables false
set_option linter.unusedSimpArgs false

/-! ### impl_LeftOf: function 14 -/
def impl_LeftOf.l0 : Nat → Int → List Bool → Int → Int → Option (Int)
  | 0, _, _, _, _ => none
  | k + 1, x9, x19, x20, x21 => if x21 < x20 then (if 0 ≤ x21 then (if x21 < (x19.length : Int) then (if rdOf false x19 x21 = true then (impl_LeftOf.l0 k (wrap64 (x9 + 1)) x19 x20 (wrap64 (x21 + 1))) else (impl_LeftOf.l0 k x9 x19 x20 (wrap64 (x21 + 1)))) else (none)) else (none)) else (some x9)
def impl_LeftOf.f (k : Nat) (l0 : List (S97)) (a1 : Int) (a2 : Int) : Option (Int) := (impl_UnitsOf.f k l0 a1 a2).bind fun bt196 => (impl_LeftOf.l0 k 0 bt196.2 (bt196.2.length : Int) 0)
set_option maxHeartbeats 8000000 in
set_option maxRecDepth 100000 in
theorem impl_LeftOf.calls (k : Nat) (A0 : Option Addr) (c0 : Nat) (l0 : List (S97)) (a1 : Int) (a2 : Int) (r : Int) (w : World) (hr0 : Kd.C k97 w A0 l0.length l0) (hc0 : l0.length ≤ c0) (h : impl_LeftOf.f k l0 a1 a2 = some r) :
    Calls Try.prog 14 #[.slice A0 l0.length c0, .int .i64 a1, .int .i64 a2] w fun e w' => e = .returned (.int .i64 r) ∧ Below w.heap.size w w' := by
  have HR0 := Aside0.mk hr0
  have HC0 := Aside0.mk hc0
  clear hr0 hc0
  have HB := Aside0.mk (Below.refl w.heap.size w)
  have H : ((impl_UnitsOf.f k l0 a1 a2).bind fun bt196 => (impl_LeftOf.l0 k 0 bt196.2 (bt196.2.length : Int) 0)) = some r := h
  clear h
  replace H := Option.bind_eq_some_iff.mp H
  obtain ⟨⟨t196, t197⟩, A40, H⟩ := H
  replace H : (impl_LeftOf.l0 k 0 t197 (t197.length : Int) 0) = some r := H
  have A4 := Aside0.mk A40
  clear A40
  have H' := Aside0.mk H
  clear H
  go_enter Try.func14, Try.ntmps14
  go_wp2_with (first | ((with_reducible refine gate_callee (f := 17) rfl ?_); refine GL (some 16) rfl rfl Try.func17 #[.slice A0 l0.length c0, .int .i64 a1, .int .i64 a2] rfl ?_; (with_reducible refine (impl_UnitsOf.calls k _ _ l0 a1 a2 t196 t197 _ ?side1 ?side2 A4.out).mono ?_); (case side1 => exact CC HR0.out); (case side2 => exact HC0.out); rintro e w5 ⟨v198, v200, rfl, ho0, ho1, hb⟩; refine ⟨_, rfl, ?_⟩; have HO199 := Aside0.mk (Kd.R_lower ho0 (below_size (BB HB.out))); have HO201 := Aside0.mk (Kd.R_lower ho1 (below_size (BB HB.out))); replace HB := Aside0.mk (below_step (BB HB.out) hb); (try clear hb); (try clear ho0); (try clear ho1); obtain ⟨Ao6, co6, eo6⟩ := Kd.R_slice HO201.out; subst eo6))
  go_loopg [9, 21] k (fun kq v9 v21 w' => ∃ (x9_1 : Int) (x21_1 : Int), v9 = .int .i64 x9_1 ∧ v21 = .int .i64 x21_1 ∧ Aside0 (impl_LeftOf.l0 kq x9_1 t197 (t197.length : Int) x21_1 = some r) ∧ Aside0 (kq ≤ k) ∧ Aside0 (Kd.R Kd.bool 4 w' w.heap.size (fun _ => True) (.slice Ao6 t197.length co6) t197) ∧ Aside0 (Below w.heap.size w w'))
  case atStart => exact ⟨(0), (0), FR, FR, H', ⟨Nat.le_refl _⟩, ⟨(RR HO201.out)⟩, ⟨(BB HB.out)⟩⟩
  case round =>
    clear H'
    try clear c1
    try clear p2
    obtain ⟨x9_1, x21_1, rfl, rfl, HA, HK1, HO_19, HB⟩ := hrel
    cases gk with
    | zero => exact absurd HA.out (by simp [impl_LeftOf.l0])
    | succ k1 =>
      have H := HA.out
      clear HA
      simp only [impl_LeftOf.l0] at H
      by_cases c7 : x21_1 < (t197.length : Int)
      · rw [if_pos c7] at H
        have c7b0 : decide (x21_1 < (t197.length : Int)) = true := decide_eq_true c7
        clear c7
        by_cases c8 : 0 ≤ x21_1
        · rw [if_pos c8] at H
          have c8b0 : decide (0 ≤ x21_1) = true := decide_eq_true c8
          clear c8
          by_cases c9 : x21_1 < (t197.length : Int)
          · rw [if_pos c9] at H
            have c9b0 : decide (x21_1 < (t197.length : Int)) = true := decide_eq_true c9
            clear c9
            obtain ⟨bq10, hbq10⟩ : ∃ b_ : Bool, b_ = (rdOf false t197 x21_1) := ⟨_, rfl⟩
            replace H : (if bq10 = true then (impl_LeftOf.l0 k1 (wrap64 (x9_1 + 1)) t197 (t197.length : Int) (wrap64 (x21_1 + 1))) else (impl_LeftOf.l0 k1 x9_1 t197 (t197.length : Int) (wrap64 (x21_1 + 1)))) = some r := by rw [← hbq10] at H; exact H
            have Nbq10 := Aside0.mk hbq10
            clear hbq10
            by_cases c11 : bq10 = true
            · subst c11
              have H1 : (impl_LeftOf.l0 k1 (wrap64 (x9_1 + 1)) t197 (t197.length : Int) (wrap64 (x21_1 + 1))) = some r := by rw [if_pos rfl] at H; exact H
              clear H
              have H := H1
              clear H1
              have H' := Aside0.mk H
              clear H
              have p202 : 0 ≤ (x21_1 : Int) := DT
              have q202 : x21_1 < (t197.length : Int) := DT
              obtain ⟨ad202, e202, hx202_0⟩ := Kd.at_bool (Kd.R_reads' HO_19.out).2.2 x21_1 p202 q202
              (try rw [← Nbq10.out] at hx202_0)
              cases e202
              replace p202 := eq_true p202
              replace q202 := eq_true q202
              go_wp2
              go_roundg k1
              case measure => have := HK1.out; omega
              case rel => exact ⟨(wrap64 (x9_1 + 1)), (wrap64 (x21_1 + 1)), FR, FR, H', ⟨by have := HK1.out; omega⟩, ⟨(RR HO_19.out)⟩, ⟨(BB HB.out)⟩⟩
            · replace c11 := Bool.eq_false_iff.mpr c11
              subst c11
              have H1 : (impl_LeftOf.l0 k1 x9_1 t197 (t197.length : Int) (wrap64 (x21_1 + 1))) = some r := by rw [if_neg (show ¬ (false = true) by decide)] at H; exact H
              clear H
              have H := H1
              clear H1
              have H' := Aside0.mk H
              clear H
              have p202 : 0 ≤ (x21_1 : Int) := DT
              have q202 : x21_1 < (t197.length : Int) := DT
              obtain ⟨ad202, e202, hx202_0⟩ := Kd.at_bool (Kd.R_reads' HO_19.out).2.2 x21_1 p202 q202
              (try rw [← Nbq10.out] at hx202_0)
              cases e202
              replace p202 := eq_true p202
              replace q202 := eq_true q202
              go_wp2
              go_roundg k1
              case measure => have := HK1.out; omega
              case rel => exact ⟨(x9_1), (wrap64 (x21_1 + 1)), FR, FR, H', ⟨by have := HK1.out; omega⟩, ⟨(RR HO_19.out)⟩, ⟨(BB HB.out)⟩⟩
          · rw [if_neg c9] at H
            exact absurd H (by simp)
        · rw [if_neg c8] at H
          exact absurd H (by simp)
      · rw [if_neg c7] at H
        have c7b0 : decide (x21_1 < (t197.length : Int)) = false := decide_eq_false c7
        clear c7
        obtain rfl := Option.some.inj H
        go_wp2
        go_ret
        exact ⟨ER, (BB HB.out)⟩

end Go.Proofs.Ytfgnaneajonapaa.Pr

/- Printed out of the translation by this session's pr.py over the kit's print. Lean checks it. -/
namespace Go.Proofs.Ytfgnaneajonapaa.Pr
open Go.RowKit Go.Proofs.YtfgnaneajonapaaW.PrintWords Go.Proofs.YtfgnaneajonapaaW.PrintLast Go.Proofs.YtfgnaneajonapaaW.PrintMore
attribute [local go_sem] max2_int min2_int max_two min_two max_three min_three max_four min_four
set_option linter.unusedVariables false
set_option linter.unusedSimpArgs false

/-! ### impl_EnoughLeft: function 51 -/
mutual
def impl_EnoughLeft.l0 : Nat → List (S135) → Int → Int → Bool → List (S135) → Int → Int → List (S192) → List (S120) → Int → List (S97) → List Int → List ByteArray → List (S168) → Option (Bool)
  | 0, _, _, _, _, _, _, _, _, _, _, _, _, _, _ => none
  | k + 1, x13, x14, x15, x1109000, x1109001, x1109002, x1109003, x1109004, x1109005, x1109006, x1109007, x1109008, x1109009, x1109010 => if x15 < x14 then (if 0 ≤ x15 then (if x15 < (x13.length : Int) then ((impl_SchemaOf.f ((rd_T135 x13 x15).f4)).bind fun bt1111 => (impl_EnoughLeft.l1 k bt1111.1 x13 x14 x15 ((rd_T135 x13 x15).f7) (((rd_T135 x13 x15).f7).length : Int) 0 x1109000 x1109001 x1109002 x1109003 x1109004 x1109005 x1109006 x1109007 x1109008 x1109009 x1109010 ((rd_T135 x13 x15).f0) ((rd_T135 x13 x15).f1) ((rd_T135 x13 x15).f2) ((rd_T135 x13 x15).f3) ((rd_T135 x13 x15).f4) ((rd_T135 x13 x15).f5) ((rd_T135 x13 x15).f6) ((rd_T135 x13 x15).f7) ((rd_T135 x13 x15).f8))) else (none)) else (none)) else (some true)
def impl_EnoughLeft.l1 : Nat → Int → List (S135) → Int → Int → List (S137) → Int → Int → Bool → List (S135) → Int → Int → List (S192) → List (S120) → Int → List (S97) → List Int → List ByteArray → List (S168) → Int → Int → ByteArray → Bool → Int → Int → Int → List (S137) → Int → Option (Bool)
  | 0, _, _, _, _, _, _, _, _, _, _, _, _, _, _, _, _, _, _, _, _, _, _, _, _, _, _, _ => none
  | k + 1, x5, x13, x14, x15, x27, x28, x29, x1109000, x1109001, x1109002, x1109003, x1109004, x1109005, x1109006, x1109007, x1109008, x1109009, x1109010, x1111000, x1111001, x1111002, x1111003, x1111004, x1111005, x1111006, x1111007, x1111008 => if x29 < x28 then (if 0 ≤ x29 then (if x29 < (x27.length : Int) then ((impl_LeftOf.f k x1109007 x1111004 ((rd_T137 x27 x29).f0)).bind fun t1116 => (if t1116 < x5 then (some false) else (impl_EnoughLeft.l1 k x5 x13 x14 x15 x27 x28 (wrap64 (x29 + 1)) x1109000 x1109001 x1109002 x1109003 x1109004 x1109005 x1109006 x1109007 x1109008 x1109009 x1109010 x1111000 x1111001 x1111002 x1111003 x1111004 x1111005 x1111006 x1111007 x1111008))) else (none)) else (none)) else (impl_EnoughLeft.l0 k x13 x14 (wrap64 (x15 + 1)) x1109000 x1109001 x1109002 x1109003 x1109004 x1109005 x1109006 x1109007 x1109008 x1109009 x1109010)
end
def impl_EnoughLeft.f (k : Nat) (a0_0 : Bool) (l0_1 : List (S135)) (a0_2 : Int) (a0_3 : Int) (l0_4 : List (S192)) (l0_5 : List (S120)) (a0_6 : Int) (l0_7 : List (S97)) (l0_8 : List Int) (l0_9 : List ByteArray) (l0_10 : List (S168)) : Option (Bool) := impl_EnoughLeft.l0 k l0_1 (l0_1.length : Int) 0 a0_0 l0_1 a0_2 a0_3 l0_4 l0_5 a0_6 l0_7 l0_8 l0_9 l0_10
set_option maxHeartbeats 8000000 in
set_option maxRecDepth 100000 in
theorem impl_EnoughLeft.calls (k : Nat) (a0_0 : Bool) (A0_1 : Option Addr) (c0_1 : Nat) (l0_1 : List (S135)) (a0_2 : Int) (a0_3 : Int) (A0_4 : Option Addr) (c0_4 : Nat) (l0_4 : List (S192)) (A0_5 : Option Addr) (c0_5 : Nat) (l0_5 : List (S120)) (a0_6 : Int) (A0_7 : Option Addr) (c0_7 : Nat) (l0_7 : List (S97)) (A0_8 : Option Addr) (c0_8 : Nat) (l0_8 : List Int) (A0_9 : Option Addr) (c0_9 : Nat) (l0_9 : List ByteArray) (A0_10 : Option Addr) (c0_10 : Nat) (l0_10 : List (S168)) (r : Bool) (w : World) (hr0_1 : Kd.C k135 w A0_1 l0_1.length l0_1) (hc0_1 : l0_1.length ≤ c0_1) (hr0_4 : Kd.C k192 w A0_4 l0_4.length l0_4) (hc0_4 : l0_4.length ≤ c0_4) (hr0_5 : Kd.C k120 w A0_5 l0_5.length l0_5) (hc0_5 : l0_5.length ≤ c0_5) (hr0_7 : Kd.C k97 w A0_7 l0_7.length l0_7) (hc0_7 : l0_7.length ≤ c0_7) (hr0_8 : Kd.C (Kd.int .i64) w A0_8 l0_8.length l0_8) (hc0_8 : l0_8.length ≤ c0_8) (hr0_9 : Kd.C Kd.string w A0_9 l0_9.length l0_9) (hc0_9 : l0_9.length ≤ c0_9) (hr0_10 : Kd.C k168 w A0_10 l0_10.length l0_10) (hc0_10 : l0_10.length ≤ c0_10) (h : impl_EnoughLeft.f k a0_0 l0_1 a0_2 a0_3 l0_4 l0_5 a0_6 l0_7 l0_8 l0_9 l0_10 = some r) :
    Calls Try.prog 51 #[.agg #[.bool a0_0, .slice A0_1 l0_1.length c0_1, .int .i64 a0_2, .int .i64 a0_3, .slice A0_4 l0_4.length c0_4, .slice A0_5 l0_5.length c0_5, .int .i64 a0_6, .slice A0_7 l0_7.length c0_7, .slice A0_8 l0_8.length c0_8, .slice A0_9 l0_9.length c0_9, .slice A0_10 l0_10.length c0_10]] w fun e w' => e = .returned (.bool r) ∧ Below w.heap.size w w' := by
  have hu77 := Try.underlying77
  have hu135 := Try.underlying135
  have hu137 := Try.underlying137
  have HR0_1 := Aside0.mk hr0_1
  have HC0_1 := Aside0.mk hc0_1
  clear hr0_1 hc0_1
  have HR0_4 := Aside0.mk hr0_4
  have HC0_4 := Aside0.mk hc0_4
  clear hr0_4 hc0_4
  have HR0_5 := Aside0.mk hr0_5
  have HC0_5 := Aside0.mk hc0_5
  clear hr0_5 hc0_5
  have HR0_7 := Aside0.mk hr0_7
  have HC0_7 := Aside0.mk hc0_7
  clear hr0_7 hc0_7
  have HR0_8 := Aside0.mk hr0_8
  have HC0_8 := Aside0.mk hc0_8
  clear hr0_8 hc0_8
  have HR0_9 := Aside0.mk hr0_9
  have HC0_9 := Aside0.mk hc0_9
  clear hr0_9 hc0_9
  have HR0_10 := Aside0.mk hr0_10
  have HC0_10 := Aside0.mk hc0_10
  clear hr0_10 hc0_10
  have HB := Aside0.mk (Below.refl w.heap.size w)
  have H : (impl_EnoughLeft.l0 k l0_1 (l0_1.length : Int) 0 a0_0 l0_1 a0_2 a0_3 l0_4 l0_5 a0_6 l0_7 l0_8 l0_9 l0_10) = some r := h
  clear h
  have H' := Aside0.mk H
  clear H
  go_enter Try.func51, Try.ntmps51
  go_wp2_with (first | ((with_reducible refine gate_dst (N := 1) rfl ?_); refine BX 1 #[.bool a0_0, .slice A0_1 l0_1.length c0_1, .int .i64 a0_2, .int .i64 a0_3, .slice A0_4 l0_4.length c0_4, .slice A0_5 l0_5.length c0_5, .int .i64 a0_6, .slice A0_7 l0_7.length c0_7, .slice A0_8 l0_8.length c0_8, .slice A0_9 l0_9.length c0_9, .slice A0_10 l0_10.length c0_10] 77 ?_; intro gb1108 hg w2 hbox hb; have BK1108 := Aside0.mk (hbox); have GW1108 : Aside0 (w.heap.size ≤ gb1108) := WG hg (BB HB.out); have GE1108 := GW1108; replace HB := Aside0.mk (below_step (BB HB.out) hb); clear hb hbox hg; have hcz3_0 : w2.cell? ⟨gb1108, 0, none⟩ = some (.bool a0_0) := (blk_cell BK1108.out 0).trans rfl; have hcz3_1 : w2.cell? ⟨gb1108, 1, none⟩ = some (.slice A0_1 l0_1.length c0_1) := (blk_cell BK1108.out 1).trans rfl; have hcz3_2 : w2.cell? ⟨gb1108, 2, none⟩ = some (.int .i64 a0_2) := (blk_cell BK1108.out 2).trans rfl; have hcz3_3 : w2.cell? ⟨gb1108, 3, none⟩ = some (.int .i64 a0_3) := (blk_cell BK1108.out 3).trans rfl; have hcz3_4 : w2.cell? ⟨gb1108, 4, none⟩ = some (.slice A0_4 l0_4.length c0_4) := (blk_cell BK1108.out 4).trans rfl; have hcz3_5 : w2.cell? ⟨gb1108, 5, none⟩ = some (.slice A0_5 l0_5.length c0_5) := (blk_cell BK1108.out 5).trans rfl; have hcz3_6 : w2.cell? ⟨gb1108, 6, none⟩ = some (.int .i64 a0_6) := (blk_cell BK1108.out 6).trans rfl; have hcz3_7 : w2.cell? ⟨gb1108, 7, none⟩ = some (.slice A0_7 l0_7.length c0_7) := (blk_cell BK1108.out 7).trans rfl; have hcz3_8 : w2.cell? ⟨gb1108, 8, none⟩ = some (.slice A0_8 l0_8.length c0_8) := (blk_cell BK1108.out 8).trans rfl; have hcz3_9 : w2.cell? ⟨gb1108, 9, none⟩ = some (.slice A0_9 l0_9.length c0_9) := (blk_cell BK1108.out 9).trans rfl; have hcz3_10 : w2.cell? ⟨gb1108, 10, none⟩ = some (.slice A0_10 l0_10.length c0_10) := (blk_cell BK1108.out 10).trans rfl; have hfz3_0 := blk_frozen BK1108.out 0; have hfz3_1 := blk_frozen BK1108.out 1; have hfz3_2 := blk_frozen BK1108.out 2; have hfz3_3 := blk_frozen BK1108.out 3; have hfz3_4 := blk_frozen BK1108.out 4; have hfz3_5 := blk_frozen BK1108.out 5; have hfz3_6 := blk_frozen BK1108.out 6; have hfz3_7 := blk_frozen BK1108.out 7; have hfz3_8 := blk_frozen BK1108.out 8; have hfz3_9 := blk_frozen BK1108.out 9; have hfz3_10 := blk_frozen BK1108.out 10))
  go_loopg [15] k (fun kq v15 w' => ∃ (x15_1 : Int), v15 = .int .i64 x15_1 ∧ Aside0 (impl_EnoughLeft.l0 kq l0_1 (l0_1.length : Int) x15_1 a0_0 l0_1 a0_2 a0_3 l0_4 l0_5 a0_6 l0_7 l0_8 l0_9 l0_10 = some r) ∧ Aside0 (kq ≤ k) ∧ Aside0 (w'.heap[gb1108]? = some (.cells #[.bool a0_0, (.slice A0_1 l0_1.length c0_1), .int .i64 a0_2, .int .i64 a0_3, (.slice A0_4 l0_4.length c0_4), (.slice A0_5 l0_5.length c0_5), .int .i64 a0_6, (.slice A0_7 l0_7.length c0_7), (.slice A0_8 l0_8.length c0_8), (.slice A0_9 l0_9.length c0_9), (.slice A0_10 l0_10.length c0_10)] 77 (0, 0))) ∧ Aside0 (Below w.heap.size w w'))
  case atStart => exact ⟨(0), FR, H', ⟨Nat.le_refl _⟩, ⟨by (with_reducible repeat (first | refine blk_drewN ?_ _ | refine blk_drew ?_ | refine blk_alloc ?_ _)); exact BK1108.out⟩, ⟨(BB1 HB.out GE1108.out)⟩⟩
  case round =>
    clear H'
    try clear p2
    try clear hcz3_0
    try clear hcz3_1
    try clear hcz3_10
    try clear hcz3_2
    try clear hcz3_3
    try clear hcz3_4
    try clear hcz3_5
    try clear hcz3_6
    try clear hcz3_7
    try clear hcz3_8
    try clear hcz3_9
    try clear hfz3_0
    try clear hfz3_1
    try clear hfz3_10
    try clear hfz3_2
    try clear hfz3_3
    try clear hfz3_4
    try clear hfz3_5
    try clear hfz3_6
    try clear hfz3_7
    try clear hfz3_8
    try clear hfz3_9
    obtain ⟨x15_1, rfl, HA, HK1, BK1108, HB⟩ := hrel
    cases gk with
    | zero => exact absurd HA.out (by simp [impl_EnoughLeft.l0])
    | succ k1 =>
      have H := HA.out
      clear HA
      simp only [impl_EnoughLeft.l0] at H
      by_cases c4 : x15_1 < (l0_1.length : Int)
      · rw [if_pos c4] at H
        have c4b0 : decide (x15_1 < (l0_1.length : Int)) = true := decide_eq_true c4
        clear c4
        by_cases c5 : 0 ≤ x15_1
        · rw [if_pos c5] at H
          have c5b0 : decide (0 ≤ x15_1) = true := decide_eq_true c5
          clear c5
          by_cases c6 : x15_1 < (l0_1.length : Int)
          · rw [if_pos c6] at H
            have c6b0 : decide (x15_1 < (l0_1.length : Int)) = true := decide_eq_true c6
            clear c6
            replace H := Option.bind_eq_some_iff.mp H
            obtain ⟨⟨t1111, t1112, t1113⟩, A70, H⟩ := H
            replace H : (impl_EnoughLeft.l1 k1 t1111 l0_1 (l0_1.length : Int) x15_1 ((rd_T135 l0_1 x15_1).f7) (((rd_T135 l0_1 x15_1).f7).length : Int) 0 a0_0 l0_1 a0_2 a0_3 l0_4 l0_5 a0_6 l0_7 l0_8 l0_9 l0_10 ((rd_T135 l0_1 x15_1).f0) ((rd_T135 l0_1 x15_1).f1) ((rd_T135 l0_1 x15_1).f2) ((rd_T135 l0_1 x15_1).f3) ((rd_T135 l0_1 x15_1).f4) ((rd_T135 l0_1 x15_1).f5) ((rd_T135 l0_1 x15_1).f6) ((rd_T135 l0_1 x15_1).f7) ((rd_T135 l0_1 x15_1).f8)) = some r := H
            have A7 := Aside0.mk A70
            clear A70
            have H' := Aside0.mk H
            clear H
            have p1109 : 0 ≤ (x15_1 : Int) := DT
            have q1109 : x15_1 < (l0_1.length : Int) := DT
            obtain ⟨ad1109, A1109_7, c1109_7, e1109, hx1109_0, hx1109_1, hx1109_2, hx1109_3, hx1109_4, hx1109_5, hx1109_6, hx1109_7, hx1109_8, hl1109_7, hi1109_7⟩ := at_T135 HR0_1.out x15_1 p1109 q1109
            cases e1109
            replace hx1109_0 := (HB.out.cell (World.block_lt_of_cell? w _ hx1109_0)).trans hx1109_0
            replace hx1109_1 := (HB.out.cell (World.block_lt_of_cell? w _ hx1109_1)).trans hx1109_1
            replace hx1109_2 := (HB.out.cell (World.block_lt_of_cell? w _ hx1109_2)).trans hx1109_2
            replace hx1109_3 := (HB.out.cell (World.block_lt_of_cell? w _ hx1109_3)).trans hx1109_3
            replace hx1109_4 := (HB.out.cell (World.block_lt_of_cell? w _ hx1109_4)).trans hx1109_4
            replace hx1109_5 := (HB.out.cell (World.block_lt_of_cell? w _ hx1109_5)).trans hx1109_5
            replace hx1109_6 := (HB.out.cell (World.block_lt_of_cell? w _ hx1109_6)).trans hx1109_6
            replace hx1109_7 := (HB.out.cell (World.block_lt_of_cell? w _ hx1109_7)).trans hx1109_7
            replace hx1109_8 := (HB.out.cell (World.block_lt_of_cell? w _ hx1109_8)).trans hx1109_8
            have HR1109_7 := Aside0.mk hi1109_7
            have HC1109_7 := Aside0.mk hl1109_7
            clear hi1109_7 hl1109_7
            replace p1109 := eq_true p1109
            replace q1109 := eq_true q1109
            go_wp2_with (first | ((with_reducible refine gate_dst (N := 4) rfl ?_); refine BX 4 #[.int .i64 0, .int .i64 0, .string (⟨#[]⟩ : ByteArray), .bool false, .int .i64 0, .int .i64 0, .int .i64 0, .slice none 0 0, .int .i64 0] 135 ?_; intro gb1110 hg w8 hbox hb; have BK1110 := Aside0.mk (hbox); have GW1110 : Aside0 (w.heap.size ≤ gb1110) := WG hg (BB1 HB.out GE1108.out); have GE1110 := GW1110; have NB1108_1110 := NL BK1108.out hg; have NB1110_1108 := NG BK1108.out hg; replace BK1108 := Aside0.mk (KB BK1108.out hb); replace HB := Aside0.mk (below_step (BB1 HB.out GE1108.out) hb); clear hb hbox hg; have hnb9 := NB1110_1108.out; have hnc9 := NB1108_1110.out; have hcz10_0 : w8.cell? ⟨gb1110, 0, none⟩ = some (.int .i64 0) := (blk_cell BK1110.out 0).trans rfl; have hcz10_1 : w8.cell? ⟨gb1110, 1, none⟩ = some (.int .i64 0) := (blk_cell BK1110.out 1).trans rfl; have hcz10_2 : w8.cell? ⟨gb1110, 2, none⟩ = some (.string (⟨#[]⟩ : ByteArray)) := (blk_cell BK1110.out 2).trans rfl; have hcz10_3 : w8.cell? ⟨gb1110, 3, none⟩ = some (.bool false) := (blk_cell BK1110.out 3).trans rfl; have hcz10_4 : w8.cell? ⟨gb1110, 4, none⟩ = some (.int .i64 0) := (blk_cell BK1110.out 4).trans rfl; have hcz10_5 : w8.cell? ⟨gb1110, 5, none⟩ = some (.int .i64 0) := (blk_cell BK1110.out 5).trans rfl; have hcz10_6 : w8.cell? ⟨gb1110, 6, none⟩ = some (.int .i64 0) := (blk_cell BK1110.out 6).trans rfl; have hcz10_7 : w8.cell? ⟨gb1110, 7, none⟩ = some (.slice none 0 0) := (blk_cell BK1110.out 7).trans rfl; have hcz10_8 : w8.cell? ⟨gb1110, 8, none⟩ = some (.int .i64 0) := (blk_cell BK1110.out 8).trans rfl; have hfz10_0 := blk_frozen BK1110.out 0; have hfz10_1 := blk_frozen BK1110.out 1; have hfz10_2 := blk_frozen BK1110.out 2; have hfz10_3 := blk_frozen BK1110.out 3; have hfz10_4 := blk_frozen BK1110.out 4; have hfz10_5 := blk_frozen BK1110.out 5; have hfz10_6 := blk_frozen BK1110.out 6; have hfz10_7 := blk_frozen BK1110.out 7; have hfz10_8 := blk_frozen BK1110.out 8) | ((with_reducible refine gate_callee (f := 57) rfl ?_); refine GL (some 22) rfl rfl Try.func57 #[.int .i64 ((rd_T135 l0_1 x15_1).f4)] rfl ?_; (with_reducible refine (impl_SchemaOf.calls ((rd_T135 l0_1 x15_1).f4) t1111 t1112 t1113 _ A7.out).mono ?_); rintro e w' ⟨rfl, ⟨nd, rfl⟩⟩; refine ⟨_, rfl, ?_⟩))
            go_loopg [29] k1 (fun kq v29 w' => ∃ (x29_2 : Int), v29 = .int .i64 x29_2 ∧ Aside0 (impl_EnoughLeft.l1 kq t1111 l0_1 (l0_1.length : Int) x15_1 ((rd_T135 l0_1 x15_1).f7) (((rd_T135 l0_1 x15_1).f7).length : Int) x29_2 a0_0 l0_1 a0_2 a0_3 l0_4 l0_5 a0_6 l0_7 l0_8 l0_9 l0_10 ((rd_T135 l0_1 x15_1).f0) ((rd_T135 l0_1 x15_1).f1) ((rd_T135 l0_1 x15_1).f2) ((rd_T135 l0_1 x15_1).f3) ((rd_T135 l0_1 x15_1).f4) ((rd_T135 l0_1 x15_1).f5) ((rd_T135 l0_1 x15_1).f6) ((rd_T135 l0_1 x15_1).f7) ((rd_T135 l0_1 x15_1).f8) = some r) ∧ Aside0 (kq ≤ k1) ∧ Aside0 (w'.heap[gb1108]? = some (.cells #[.bool a0_0, (.slice (some ad1109) l0_1.length c0_1), .int .i64 a0_2, .int .i64 a0_3, (.slice A0_4 l0_4.length c0_4), (.slice A0_5 l0_5.length c0_5), .int .i64 a0_6, (.slice A0_7 l0_7.length c0_7), (.slice A0_8 l0_8.length c0_8), (.slice A0_9 l0_9.length c0_9), (.slice A0_10 l0_10.length c0_10)] 77 (0, 0))) ∧ Aside0 (w'.heap[gb1110]? = some (.cells #[.int .i64 ((rd_T135 l0_1 x15_1).f0), .int .i64 ((rd_T135 l0_1 x15_1).f1), .string ((rd_T135 l0_1 x15_1).f2), .bool ((rd_T135 l0_1 x15_1).f3), .int .i64 ((rd_T135 l0_1 x15_1).f4), .int .i64 ((rd_T135 l0_1 x15_1).f5), .int .i64 ((rd_T135 l0_1 x15_1).f6), (.slice A1109_7 ((rd_T135 l0_1 x15_1).f7).length c1109_7), .int .i64 ((rd_T135 l0_1 x15_1).f8)] 135 (0, 0))) ∧ Aside0 (Below w.heap.size w w'))
            case atStart => exact ⟨(0), FR, H', ⟨Nat.le_refl _⟩, ⟨by (with_reducible repeat (first | refine blk_drewN ?_ _ | refine blk_drew ?_ | refine blk_alloc ?_ _)); refine blk_far ?_ NB1108_1110.out _; (with_reducible repeat (first | refine blk_drewN ?_ _ | refine blk_drew ?_ | refine blk_alloc ?_ _)); refine blk_far ?_ NB1108_1110.out _; (with_reducible repeat (first | refine blk_drewN ?_ _ | refine blk_drew ?_ | refine blk_alloc ?_ _)); refine blk_far ?_ NB1108_1110.out _; (with_reducible repeat (first | refine blk_drewN ?_ _ | refine blk_drew ?_ | refine blk_alloc ?_ _)); refine blk_far ?_ NB1108_1110.out _; (with_reducible repeat (first | refine blk_drewN ?_ _ | refine blk_drew ?_ | refine blk_alloc ?_ _)); refine blk_far ?_ NB1108_1110.out _; (with_reducible repeat (first | refine blk_drewN ?_ _ | refine blk_drew ?_ | refine blk_alloc ?_ _)); refine blk_far ?_ NB1108_1110.out _; (with_reducible repeat (first | refine blk_drewN ?_ _ | refine blk_drew ?_ | refine blk_alloc ?_ _)); refine blk_far ?_ NB1108_1110.out _; (with_reducible repeat (first | refine blk_drewN ?_ _ | refine blk_drew ?_ | refine blk_alloc ?_ _)); refine blk_far ?_ NB1108_1110.out _; (with_reducible repeat (first | refine blk_drewN ?_ _ | refine blk_drew ?_ | refine blk_alloc ?_ _)); refine blk_far ?_ NB1108_1110.out _; (with_reducible repeat (first | refine blk_drewN ?_ _ | refine blk_drew ?_ | refine blk_alloc ?_ _)); exact BK1108.out⟩, ⟨by (with_reducible repeat (first | refine blk_drewN ?_ _ | refine blk_drew ?_ | refine blk_alloc ?_ _)); refine blk_put (cs := #[.int .i64 ((rd_T135 l0_1 x15_1).f0), .int .i64 ((rd_T135 l0_1 x15_1).f1), .string ((rd_T135 l0_1 x15_1).f2), .bool ((rd_T135 l0_1 x15_1).f3), .int .i64 ((rd_T135 l0_1 x15_1).f4), .int .i64 ((rd_T135 l0_1 x15_1).f5), .int .i64 ((rd_T135 l0_1 x15_1).f6), .slice A1109_7 ((rd_T135 l0_1 x15_1).f7).length c1109_7, .int .i64 0]) ?_ 8 _ rfl; (with_reducible repeat (first | refine blk_drewN ?_ _ | refine blk_drew ?_ | refine blk_alloc ?_ _)); refine blk_put (cs := #[.int .i64 ((rd_T135 l0_1 x15_1).f0), .int .i64 ((rd_T135 l0_1 x15_1).f1), .string ((rd_T135 l0_1 x15_1).f2), .bool ((rd_T135 l0_1 x15_1).f3), .int .i64 ((rd_T135 l0_1 x15_1).f4), .int .i64 ((rd_T135 l0_1 x15_1).f5), .int .i64 ((rd_T135 l0_1 x15_1).f6), .slice none 0 0, .int .i64 0]) ?_ 7 _ rfl; (with_reducible repeat (first | refine blk_drewN ?_ _ | refine blk_drew ?_ | refine blk_alloc ?_ _)); refine blk_put (cs := #[.int .i64 ((rd_T135 l0_1 x15_1).f0), .int .i64 ((rd_T135 l0_1 x15_1).f1), .string ((rd_T135 l0_1 x15_1).f2), .bool ((rd_T135 l0_1 x15_1).f3), .int .i64 ((rd_T135 l0_1 x15_1).f4), .int .i64 ((rd_T135 l0_1 x15_1).f5), .int .i64 0, .slice none 0 0, .int .i64 0]) ?_ 6 _ rfl; (with_reducible repeat (first | refine blk_drewN ?_ _ | refine blk_drew ?_ | refine blk_alloc ?_ _)); refine blk_put (cs := #[.int .i64 ((rd_T135 l0_1 x15_1).f0), .int .i64 ((rd_T135 l0_1 x15_1).f1), .string ((rd_T135 l0_1 x15_1).f2), .bool ((rd_T135 l0_1 x15_1).f3), .int .i64 ((rd_T135 l0_1 x15_1).f4), .int .i64 0, .int .i64 0, .slice none 0 0, .int .i64 0]) ?_ 5 _ rfl; (with_reducible repeat (first | refine blk_drewN ?_ _ | refine blk_drew ?_ | refine blk_alloc ?_ _)); refine blk_put (cs := #[.int .i64 ((rd_T135 l0_1 x15_1).f0), .int .i64 ((rd_T135 l0_1 x15_1).f1), .string ((rd_T135 l0_1 x15_1).f2), .bool ((rd_T135 l0_1 x15_1).f3), .int .i64 0, .int .i64 0, .int .i64 0, .slice none 0 0, .int .i64 0]) ?_ 4 _ rfl; (with_reducible repeat (first | refine blk_drewN ?_ _ | refine blk_drew ?_ | refine blk_alloc ?_ _)); refine blk_put (cs := #[.int .i64 ((rd_T135 l0_1 x15_1).f0), .int .i64 ((rd_T135 l0_1 x15_1).f1), .string ((rd_T135 l0_1 x15_1).f2), .bool false, .int .i64 0, .int .i64 0, .int .i64 0, .slice none 0 0, .int .i64 0]) ?_ 3 _ rfl; (with_reducible repeat (first | refine blk_drewN ?_ _ | refine blk_drew ?_ | refine blk_alloc ?_ _)); refine blk_put (cs := #[.int .i64 ((rd_T135 l0_1 x15_1).f0), .int .i64 ((rd_T135 l0_1 x15_1).f1), .string (⟨#[]⟩ : ByteArray), .bool false, .int .i64 0, .int .i64 0, .int .i64 0, .slice none 0 0, .int .i64 0]) ?_ 2 _ rfl; (with_reducible repeat (first | refine blk_drewN ?_ _ | refine blk_drew ?_ | refine blk_alloc ?_ _)); refine blk_put (cs := #[.int .i64 ((rd_T135 l0_1 x15_1).f0), .int .i64 0, .string (⟨#[]⟩ : ByteArray), .bool false, .int .i64 0, .int .i64 0, .int .i64 0, .slice none 0 0, .int .i64 0]) ?_ 1 _ rfl; (with_reducible repeat (first | refine blk_drewN ?_ _ | refine blk_drew ?_ | refine blk_alloc ?_ _)); refine blk_put (cs := #[.int .i64 0, .int .i64 0, .string (⟨#[]⟩ : ByteArray), .bool false, .int .i64 0, .int .i64 0, .int .i64 0, .slice none 0 0, .int .i64 0]) ?_ 0 _ rfl; (with_reducible repeat (first | refine blk_drewN ?_ _ | refine blk_drew ?_ | refine blk_alloc ?_ _)); exact BK1110.out⟩, ⟨(BB2 HB.out GE1108.out GE1110.out)⟩⟩
            case round =>
              clear H'
              try clear c1
              try clear p1
              try clear q1
              try clear hx1
              try clear p2
              try clear c4
              try clear c4b0
              try clear c5
              try clear c5b0
              try clear c6
              try clear c6b0
              try clear c9
              try clear hcz10_0
              try clear hcz10_1
              try clear hcz10_2
              try clear hcz10_3
              try clear hcz10_4
              try clear hcz10_5
              try clear hcz10_6
              try clear hcz10_7
              try clear hcz10_8
              try clear hcz3_0
              try clear hcz3_1
              try clear hcz3_10
              try clear hcz3_2
              try clear hcz3_3
              try clear hcz3_4
              try clear hcz3_5
              try clear hcz3_6
              try clear hcz3_7
              try clear hcz3_8
              try clear hcz3_9
              try clear hfz10_0
              try clear hfz10_1
              try clear hfz10_2
              try clear hfz10_3
              try clear hfz10_4
              try clear hfz10_5
              try clear hfz10_6
              try clear hfz10_7
              try clear hfz10_8
              try clear hfz3_0
              try clear hfz3_1
              try clear hfz3_10
              try clear hfz3_2
              try clear hfz3_3
              try clear hfz3_4
              try clear hfz3_5
              try clear hfz3_6
              try clear hfz3_7
              try clear hfz3_8
              try clear hfz3_9
              try clear hx1109_0
              try clear hx1109_1
              try clear hx1109_2
              try clear hx1109_3
              try clear hx1109_4
              try clear hx1109_5
              try clear hx1109_6
              try clear hx1109_7
              try clear hx1109_8
              try clear p1109
              try clear p2
              try clear q1109
              obtain ⟨x29_2, rfl, HA, HK2, BK1108, BK1110, HB⟩ := hrel
              cases gk with
              | zero => exact absurd HA.out (by simp [impl_EnoughLeft.l1])
              | succ k2 =>
                have H := HA.out
                clear HA
                simp only [impl_EnoughLeft.l1] at H
                by_cases c11 : x29_2 < (((rd_T135 l0_1 x15_1).f7).length : Int)
                · rw [if_pos c11] at H
                  have c11b0 : decide (x29_2 < (((rd_T135 l0_1 x15_1).f7).length : Int)) = true := decide_eq_true c11
                  clear c11
                  by_cases c12 : 0 ≤ x29_2
                  · rw [if_pos c12] at H
                    have c12b0 : decide (0 ≤ x29_2) = true := decide_eq_true c12
                    clear c12
                    by_cases c13 : x29_2 < (((rd_T135 l0_1 x15_1).f7).length : Int)
                    · rw [if_pos c13] at H
                      have c13b0 : decide (x29_2 < (((rd_T135 l0_1 x15_1).f7).length : Int)) = true := decide_eq_true c13
                      clear c13
                      replace H := Option.bind_eq_some_iff.mp H
                      obtain ⟨t1116, A140, H⟩ := H
                      replace H : (if t1116 < t1111 then (some false) else (impl_EnoughLeft.l1 k2 t1111 l0_1 (l0_1.length : Int) x15_1 ((rd_T135 l0_1 x15_1).f7) (((rd_T135 l0_1 x15_1).f7).length : Int) (wrap64 (x29_2 + 1)) a0_0 l0_1 a0_2 a0_3 l0_4 l0_5 a0_6 l0_7 l0_8 l0_9 l0_10 ((rd_T135 l0_1 x15_1).f0) ((rd_T135 l0_1 x15_1).f1) ((rd_T135 l0_1 x15_1).f2) ((rd_T135 l0_1 x15_1).f3) ((rd_T135 l0_1 x15_1).f4) ((rd_T135 l0_1 x15_1).f5) ((rd_T135 l0_1 x15_1).f6) ((rd_T135 l0_1 x15_1).f7) ((rd_T135 l0_1 x15_1).f8))) = some r := H
                      have A14 := Aside0.mk A140
                      clear A140
                      by_cases c15 : t1116 < t1111
                      · rw [if_pos c15] at H
                        have c15b0 : decide (t1116 < t1111) = true := decide_eq_true c15
                        clear c15
                        obtain rfl := Option.some.inj H
                        have p1114 : 0 ≤ (x29_2 : Int) := DT
                        have q1114 : x29_2 < (((rd_T135 l0_1 x15_1).f7).length : Int) := DT
                        obtain ⟨ad1114, e1114, hx1114_0, hx1114_1⟩ := at_T137 HR1109_7.out x29_2 p1114 q1114
                        cases e1114
                        replace hx1114_0 := (HB.out.cell (World.block_lt_of_cell? w _ hx1114_0)).trans hx1114_0
                        replace hx1114_1 := (HB.out.cell (World.block_lt_of_cell? w _ hx1114_1)).trans hx1114_1
                        replace p1114 := eq_true p1114
                        replace q1114 := eq_true q1114
                        go_wp2_with (first | ((with_reducible refine gate_dst (N := 9) rfl ?_); refine BX 9 #[.int .i64 0, .int .i64 0] 137 ?_; intro gb1115 hg w16 hbox hb; have BK1115 := Aside0.mk (hbox); have GW1115 : Aside0 (w.heap.size ≤ gb1115) := WG hg (BB2 HB.out GE1108.out GE1110.out); have GE1115 := GW1115; have NB1108_1115 := NL BK1108.out hg; have NB1115_1108 := NG BK1108.out hg; have NB1110_1115 := NL BK1110.out hg; have NB1115_1110 := NG BK1110.out hg; replace BK1108 := Aside0.mk (KB BK1108.out hb); replace BK1110 := Aside0.mk (KB BK1110.out hb); replace HB := Aside0.mk (below_step (BB2 HB.out GE1108.out GE1110.out) hb); clear hb hbox hg; have hnb17 := NB1115_1108.out; have hnc17 := NB1108_1115.out; have hnb18 := NB1115_1110.out; have hnc18 := NB1110_1115.out; have hcz19_0 : w16.cell? ⟨gb1115, 0, none⟩ = some (.int .i64 0) := (blk_cell BK1115.out 0).trans rfl; have hcz19_1 : w16.cell? ⟨gb1115, 1, none⟩ = some (.int .i64 0) := (blk_cell BK1115.out 1).trans rfl; have hfz19_0 := blk_frozen BK1115.out 0; have hfz19_1 := blk_frozen BK1115.out 1; have hnb20 := NB1108_1110.out; have hnc20 := NB1110_1108.out; have hcz21_0 : w16.cell? ⟨gb1108, 0, none⟩ = some (.bool a0_0) := (blk_cell BK1108.out 0).trans rfl; have hcz21_1 : w16.cell? ⟨gb1108, 1, none⟩ = some (.slice (some ad1109) l0_1.length c0_1) := (blk_cell BK1108.out 1).trans rfl; have hcz21_2 : w16.cell? ⟨gb1108, 2, none⟩ = some (.int .i64 a0_2) := (blk_cell BK1108.out 2).trans rfl; have hcz21_3 : w16.cell? ⟨gb1108, 3, none⟩ = some (.int .i64 a0_3) := (blk_cell BK1108.out 3).trans rfl; have hcz21_4 : w16.cell? ⟨gb1108, 4, none⟩ = some (.slice A0_4 l0_4.length c0_4) := (blk_cell BK1108.out 4).trans rfl; have hcz21_5 : w16.cell? ⟨gb1108, 5, none⟩ = some (.slice A0_5 l0_5.length c0_5) := (blk_cell BK1108.out 5).trans rfl; have hcz21_6 : w16.cell? ⟨gb1108, 6, none⟩ = some (.int .i64 a0_6) := (blk_cell BK1108.out 6).trans rfl; have hcz21_7 : w16.cell? ⟨gb1108, 7, none⟩ = some (.slice A0_7 l0_7.length c0_7) := (blk_cell BK1108.out 7).trans rfl; have hcz21_8 : w16.cell? ⟨gb1108, 8, none⟩ = some (.slice A0_8 l0_8.length c0_8) := (blk_cell BK1108.out 8).trans rfl; have hcz21_9 : w16.cell? ⟨gb1108, 9, none⟩ = some (.slice A0_9 l0_9.length c0_9) := (blk_cell BK1108.out 9).trans rfl; have hcz21_10 : w16.cell? ⟨gb1108, 10, none⟩ = some (.slice A0_10 l0_10.length c0_10) := (blk_cell BK1108.out 10).trans rfl; have hfz21_0 := blk_frozen BK1108.out 0; have hfz21_1 := blk_frozen BK1108.out 1; have hfz21_2 := blk_frozen BK1108.out 2; have hfz21_3 := blk_frozen BK1108.out 3; have hfz21_4 := blk_frozen BK1108.out 4; have hfz21_5 := blk_frozen BK1108.out 5; have hfz21_6 := blk_frozen BK1108.out 6; have hfz21_7 := blk_frozen BK1108.out 7; have hfz21_8 := blk_frozen BK1108.out 8; have hfz21_9 := blk_frozen BK1108.out 9; have hfz21_10 := blk_frozen BK1108.out 10; have hcz22_0 : w16.cell? ⟨gb1110, 0, none⟩ = some (.int .i64 ((rd_T135 l0_1 x15_1).f0)) := (blk_cell BK1110.out 0).trans rfl; have hcz22_1 : w16.cell? ⟨gb1110, 1, none⟩ = some (.int .i64 ((rd_T135 l0_1 x15_1).f1)) := (blk_cell BK1110.out 1).trans rfl; have hcz22_2 : w16.cell? ⟨gb1110, 2, none⟩ = some (.string ((rd_T135 l0_1 x15_1).f2)) := (blk_cell BK1110.out 2).trans rfl; have hcz22_3 : w16.cell? ⟨gb1110, 3, none⟩ = some (.bool ((rd_T135 l0_1 x15_1).f3)) := (blk_cell BK1110.out 3).trans rfl; have hcz22_4 : w16.cell? ⟨gb1110, 4, none⟩ = some (.int .i64 ((rd_T135 l0_1 x15_1).f4)) := (blk_cell BK1110.out 4).trans rfl; have hcz22_5 : w16.cell? ⟨gb1110, 5, none⟩ = some (.int .i64 ((rd_T135 l0_1 x15_1).f5)) := (blk_cell BK1110.out 5).trans rfl; have hcz22_6 : w16.cell? ⟨gb1110, 6, none⟩ = some (.int .i64 ((rd_T135 l0_1 x15_1).f6)) := (blk_cell BK1110.out 6).trans rfl; have hcz22_7 : w16.cell? ⟨gb1110, 7, none⟩ = some (.slice (some ad1114) ((rd_T135 l0_1 x15_1).f7).length c1109_7) := (blk_cell BK1110.out 7).trans rfl; have hcz22_8 : w16.cell? ⟨gb1110, 8, none⟩ = some (.int .i64 ((rd_T135 l0_1 x15_1).f8)) := (blk_cell BK1110.out 8).trans rfl; have hfz22_0 := blk_frozen BK1110.out 0; have hfz22_1 := blk_frozen BK1110.out 1; have hfz22_2 := blk_frozen BK1110.out 2; have hfz22_3 := blk_frozen BK1110.out 3; have hfz22_4 := blk_frozen BK1110.out 4; have hfz22_5 := blk_frozen BK1110.out 5; have hfz22_6 := blk_frozen BK1110.out 6; have hfz22_7 := blk_frozen BK1110.out 7; have hfz22_8 := blk_frozen BK1110.out 8) | ((with_reducible refine gate_callee (f := 14) rfl ?_); refine GL (some 39) rfl rfl Try.func14 #[.slice A0_7 l0_7.length c0_7, .int .i64 ((rd_T135 l0_1 x15_1).f4), .int .i64 ((rd_T137 ((rd_T135 l0_1 x15_1).f7) x29_2).f0)] rfl ?_; (with_reducible refine (impl_LeftOf.calls k2 _ _ l0_7 ((rd_T135 l0_1 x15_1).f4) ((rd_T137 ((rd_T135 l0_1 x15_1).f7) x29_2).f0) t1116 _ ?side1 ?side2 A14.out).mono ?_); (case side1 => exact Kd.C_below HR0_7.out (BB3 HB.out GE1108.out GE1110.out GE1115.out)); (case side2 => exact HC0_7.out); rintro e w23 ⟨rfl, hb⟩; refine ⟨_, rfl, ?_⟩; have n0_ := Aside0.mk (blk_below (g := gb1108) (o := .cells #[.bool a0_0, .slice (some ad1109) l0_1.length c0_1, .int .i64 a0_2, .int .i64 a0_3, .slice A0_4 l0_4.length c0_4, .slice A0_5 l0_5.length c0_5, .int .i64 a0_6, .slice A0_7 l0_7.length c0_7, .slice A0_8 l0_8.length c0_8, .slice A0_9 l0_9.length c0_9, .slice A0_10 l0_10.length c0_10] 77 (0, 0)) (by (with_reducible repeat (first | refine blk_drewN ?_ _ | refine blk_drew ?_ | refine blk_alloc ?_ _)); refine blk_far ?_ NB1108_1115.out _; (with_reducible repeat (first | refine blk_drewN ?_ _ | refine blk_drew ?_ | refine blk_alloc ?_ _)); refine blk_far ?_ NB1108_1115.out _; (with_reducible repeat (first | refine blk_drewN ?_ _ | refine blk_drew ?_ | refine blk_alloc ?_ _)); exact BK1108.out) hb); have n1_ := Aside0.mk (blk_below (g := gb1110) (o := .cells #[.int .i64 ((rd_T135 l0_1 x15_1).f0), .int .i64 ((rd_T135 l0_1 x15_1).f1), .string ((rd_T135 l0_1 x15_1).f2), .bool ((rd_T135 l0_1 x15_1).f3), .int .i64 ((rd_T135 l0_1 x15_1).f4), .int .i64 ((rd_T135 l0_1 x15_1).f5), .int .i64 ((rd_T135 l0_1 x15_1).f6), .slice (some ad1114) ((rd_T135 l0_1 x15_1).f7).length c1109_7, .int .i64 ((rd_T135 l0_1 x15_1).f8)] 135 (0, 0)) (by (with_reducible repeat (first | refine blk_drewN ?_ _ | refine blk_drew ?_ | refine blk_alloc ?_ _)); refine blk_far ?_ NB1110_1115.out _; (with_reducible repeat (first | refine blk_drewN ?_ _ | refine blk_drew ?_ | refine blk_alloc ?_ _)); refine blk_far ?_ NB1110_1115.out _; (with_reducible repeat (first | refine blk_drewN ?_ _ | refine blk_drew ?_ | refine blk_alloc ?_ _)); exact BK1110.out) hb); have n2_ := Aside0.mk (blk_below (g := gb1115) (o := .cells #[.int .i64 ((rd_T137 ((rd_T135 l0_1 x15_1).f7) x29_2).f0), .int .i64 ((rd_T137 ((rd_T135 l0_1 x15_1).f7) x29_2).f1)] 137 (0, 0)) (by (with_reducible repeat (first | refine blk_drewN ?_ _ | refine blk_drew ?_ | refine blk_alloc ?_ _)); refine blk_put (cs := #[.int .i64 ((rd_T137 ((rd_T135 l0_1 x15_1).f7) x29_2).f0), .int .i64 0]) ?_ 1 _ rfl; (with_reducible repeat (first | refine blk_drewN ?_ _ | refine blk_drew ?_ | refine blk_alloc ?_ _)); refine blk_put (cs := #[.int .i64 0, .int .i64 0]) ?_ 0 _ rfl; (with_reducible repeat (first | refine blk_drewN ?_ _ | refine blk_drew ?_ | refine blk_alloc ?_ _)); exact BK1115.out) hb); have n3_ := Aside0.mk (below_step (BB3 HB.out GE1108.out GE1110.out GE1115.out) hb); clear BK1108; clear BK1110; clear BK1115; clear HB; have BK1108 := n0_; have BK1110 := n1_; have BK1115 := n2_; have HB := n3_; clear n0_ n1_ n2_ n3_; (try clear hb)))
                        go_ret
                        exact ⟨ER, (BB3 HB.out GE1108.out GE1110.out GE1115.out)⟩
                      · rw [if_neg c15] at H
                        have c15b0 : decide (t1116 < t1111) = false := decide_eq_false c15
                        clear c15
                        have H' := Aside0.mk H
                        clear H
                        have p1114 : 0 ≤ (x29_2 : Int) := DT
                        have q1114 : x29_2 < (((rd_T135 l0_1 x15_1).f7).length : Int) := DT
                        obtain ⟨ad1114, e1114, hx1114_0, hx1114_1⟩ := at_T137 HR1109_7.out x29_2 p1114 q1114
                        cases e1114
                        replace hx1114_0 := (HB.out.cell (World.block_lt_of_cell? w _ hx1114_0)).trans hx1114_0
                        replace hx1114_1 := (HB.out.cell (World.block_lt_of_cell? w _ hx1114_1)).trans hx1114_1
                        replace p1114 := eq_true p1114
                        replace q1114 := eq_true q1114
                        go_wp2_with (first | ((with_reducible refine gate_dst (N := 9) rfl ?_); refine BX 9 #[.int .i64 0, .int .i64 0] 137 ?_; intro gb1115 hg w24 hbox hb; have BK1115 := Aside0.mk (hbox); have GW1115 : Aside0 (w.heap.size ≤ gb1115) := WG hg (BB2 HB.out GE1108.out GE1110.out); have GE1115 := GW1115; have NB1108_1115 := NL BK1108.out hg; have NB1115_1108 := NG BK1108.out hg; have NB1110_1115 := NL BK1110.out hg; have NB1115_1110 := NG BK1110.out hg; replace BK1108 := Aside0.mk (KB BK1108.out hb); replace BK1110 := Aside0.mk (KB BK1110.out hb); replace HB := Aside0.mk (below_step (BB2 HB.out GE1108.out GE1110.out) hb); clear hb hbox hg; have hnb25 := NB1115_1108.out; have hnc25 := NB1108_1115.out; have hnb26 := NB1115_1110.out; have hnc26 := NB1110_1115.out; have hcz27_0 : w24.cell? ⟨gb1115, 0, none⟩ = some (.int .i64 0) := (blk_cell BK1115.out 0).trans rfl; have hcz27_1 : w24.cell? ⟨gb1115, 1, none⟩ = some (.int .i64 0) := (blk_cell BK1115.out 1).trans rfl; have hfz27_0 := blk_frozen BK1115.out 0; have hfz27_1 := blk_frozen BK1115.out 1; have hnb28 := NB1108_1110.out; have hnc28 := NB1110_1108.out; have hcz29_0 : w24.cell? ⟨gb1108, 0, none⟩ = some (.bool a0_0) := (blk_cell BK1108.out 0).trans rfl; have hcz29_1 : w24.cell? ⟨gb1108, 1, none⟩ = some (.slice (some ad1109) l0_1.length c0_1) := (blk_cell BK1108.out 1).trans rfl; have hcz29_2 : w24.cell? ⟨gb1108, 2, none⟩ = some (.int .i64 a0_2) := (blk_cell BK1108.out 2).trans rfl; have hcz29_3 : w24.cell? ⟨gb1108, 3, none⟩ = some (.int .i64 a0_3) := (blk_cell BK1108.out 3).trans rfl; have hcz29_4 : w24.cell? ⟨gb1108, 4, none⟩ = some (.slice A0_4 l0_4.length c0_4) := (blk_cell BK1108.out 4).trans rfl; have hcz29_5 : w24.cell? ⟨gb1108, 5, none⟩ = some (.slice A0_5 l0_5.length c0_5) := (blk_cell BK1108.out 5).trans rfl; have hcz29_6 : w24.cell? ⟨gb1108, 6, none⟩ = some (.int .i64 a0_6) := (blk_cell BK1108.out 6).trans rfl; have hcz29_7 : w24.cell? ⟨gb1108, 7, none⟩ = some (.slice A0_7 l0_7.length c0_7) := (blk_cell BK1108.out 7).trans rfl; have hcz29_8 : w24.cell? ⟨gb1108, 8, none⟩ = some (.slice A0_8 l0_8.length c0_8) := (blk_cell BK1108.out 8).trans rfl; have hcz29_9 : w24.cell? ⟨gb1108, 9, none⟩ = some (.slice A0_9 l0_9.length c0_9) := (blk_cell BK1108.out 9).trans rfl; have hcz29_10 : w24.cell? ⟨gb1108, 10, none⟩ = some (.slice A0_10 l0_10.length c0_10) := (blk_cell BK1108.out 10).trans rfl; have hfz29_0 := blk_frozen BK1108.out 0; have hfz29_1 := blk_frozen BK1108.out 1; have hfz29_2 := blk_frozen BK1108.out 2; have hfz29_3 := blk_frozen BK1108.out 3; have hfz29_4 := blk_frozen BK1108.out 4; have hfz29_5 := blk_frozen BK1108.out 5; have hfz29_6 := blk_frozen BK1108.out 6; have hfz29_7 := blk_frozen BK1108.out 7; have hfz29_8 := blk_frozen BK1108.out 8; have hfz29_9 := blk_frozen BK1108.out 9; have hfz29_10 := blk_frozen BK1108.out 10; have hcz30_0 : w24.cell? ⟨gb1110, 0, none⟩ = some (.int .i64 ((rd_T135 l0_1 x15_1).f0)) := (blk_cell BK1110.out 0).trans rfl; have hcz30_1 : w24.cell? ⟨gb1110, 1, none⟩ = some (.int .i64 ((rd_T135 l0_1 x15_1).f1)) := (blk_cell BK1110.out 1).trans rfl; have hcz30_2 : w24.cell? ⟨gb1110, 2, none⟩ = some (.string ((rd_T135 l0_1 x15_1).f2)) := (blk_cell BK1110.out 2).trans rfl; have hcz30_3 : w24.cell? ⟨gb1110, 3, none⟩ = some (.bool ((rd_T135 l0_1 x15_1).f3)) := (blk_cell BK1110.out 3).trans rfl; have hcz30_4 : w24.cell? ⟨gb1110, 4, none⟩ = some (.int .i64 ((rd_T135 l0_1 x15_1).f4)) := (blk_cell BK1110.out 4).trans rfl; have hcz30_5 : w24.cell? ⟨gb1110, 5, none⟩ = some (.int .i64 ((rd_T135 l0_1 x15_1).f5)) := (blk_cell BK1110.out 5).trans rfl; have hcz30_6 : w24.cell? ⟨gb1110, 6, none⟩ = some (.int .i64 ((rd_T135 l0_1 x15_1).f6)) := (blk_cell BK1110.out 6).trans rfl; have hcz30_7 : w24.cell? ⟨gb1110, 7, none⟩ = some (.slice (some ad1114) ((rd_T135 l0_1 x15_1).f7).length c1109_7) := (blk_cell BK1110.out 7).trans rfl; have hcz30_8 : w24.cell? ⟨gb1110, 8, none⟩ = some (.int .i64 ((rd_T135 l0_1 x15_1).f8)) := (blk_cell BK1110.out 8).trans rfl; have hfz30_0 := blk_frozen BK1110.out 0; have hfz30_1 := blk_frozen BK1110.out 1; have hfz30_2 := blk_frozen BK1110.out 2; have hfz30_3 := blk_frozen BK1110.out 3; have hfz30_4 := blk_frozen BK1110.out 4; have hfz30_5 := blk_frozen BK1110.out 5; have hfz30_6 := blk_frozen BK1110.out 6; have hfz30_7 := blk_frozen BK1110.out 7; have hfz30_8 := blk_frozen BK1110.out 8) | ((with_reducible refine gate_callee (f := 14) rfl ?_); refine GL (some 39) rfl rfl Try.func14 #[.slice A0_7 l0_7.length c0_7, .int .i64 ((rd_T135 l0_1 x15_1).f4), .int .i64 ((rd_T137 ((rd_T135 l0_1 x15_1).f7) x29_2).f0)] rfl ?_; (with_reducible refine (impl_LeftOf.calls k2 _ _ l0_7 ((rd_T135 l0_1 x15_1).f4) ((rd_T137 ((rd_T135 l0_1 x15_1).f7) x29_2).f0) t1116 _ ?side1 ?side2 A14.out).mono ?_); (case side1 => exact Kd.C_below HR0_7.out (BB3 HB.out GE1108.out GE1110.out GE1115.out)); (case side2 => exact HC0_7.out); rintro e w31 ⟨rfl, hb⟩; refine ⟨_, rfl, ?_⟩; have n0_ := Aside0.mk (blk_below (g := gb1108) (o := .cells #[.bool a0_0, .slice (some ad1109) l0_1.length c0_1, .int .i64 a0_2, .int .i64 a0_3, .slice A0_4 l0_4.length c0_4, .slice A0_5 l0_5.length c0_5, .int .i64 a0_6, .slice A0_7 l0_7.length c0_7, .slice A0_8 l0_8.length c0_8, .slice A0_9 l0_9.length c0_9, .slice A0_10 l0_10.length c0_10] 77 (0, 0)) (by (with_reducible repeat (first | refine blk_drewN ?_ _ | refine blk_drew ?_ | refine blk_alloc ?_ _)); refine blk_far ?_ NB1108_1115.out _; (with_reducible repeat (first | refine blk_drewN ?_ _ | refine blk_drew ?_ | refine blk_alloc ?_ _)); refine blk_far ?_ NB1108_1115.out _; (with_reducible repeat (first | refine blk_drewN ?_ _ | refine blk_drew ?_ | refine blk_alloc ?_ _)); exact BK1108.out) hb); have n1_ := Aside0.mk (blk_below (g := gb1110) (o := .cells #[.int .i64 ((rd_T135 l0_1 x15_1).f0), .int .i64 ((rd_T135 l0_1 x15_1).f1), .string ((rd_T135 l0_1 x15_1).f2), .bool ((rd_T135 l0_1 x15_1).f3), .int .i64 ((rd_T135 l0_1 x15_1).f4), .int .i64 ((rd_T135 l0_1 x15_1).f5), .int .i64 ((rd_T135 l0_1 x15_1).f6), .slice (some ad1114) ((rd_T135 l0_1 x15_1).f7).length c1109_7, .int .i64 ((rd_T135 l0_1 x15_1).f8)] 135 (0, 0)) (by (with_reducible repeat (first | refine blk_drewN ?_ _ | refine blk_drew ?_ | refine blk_alloc ?_ _)); refine blk_far ?_ NB1110_1115.out _; (with_reducible repeat (first | refine blk_drewN ?_ _ | refine blk_drew ?_ | refine blk_alloc ?_ _)); refine blk_far ?_ NB1110_1115.out _; (with_reducible repeat (first | refine blk_drewN ?_ _ | refine blk_drew ?_ | refine blk_alloc ?_ _)); exact BK1110.out) hb); have n2_ := Aside0.mk (blk_below (g := gb1115) (o := .cells #[.int .i64 ((rd_T137 ((rd_T135 l0_1 x15_1).f7) x29_2).f0), .int .i64 ((rd_T137 ((rd_T135 l0_1 x15_1).f7) x29_2).f1)] 137 (0, 0)) (by (with_reducible repeat (first | refine blk_drewN ?_ _ | refine blk_drew ?_ | refine blk_alloc ?_ _)); refine blk_put (cs := #[.int .i64 ((rd_T137 ((rd_T135 l0_1 x15_1).f7) x29_2).f0), .int .i64 0]) ?_ 1 _ rfl; (with_reducible repeat (first | refine blk_drewN ?_ _ | refine blk_drew ?_ | refine blk_alloc ?_ _)); refine blk_put (cs := #[.int .i64 0, .int .i64 0]) ?_ 0 _ rfl; (with_reducible repeat (first | refine blk_drewN ?_ _ | refine blk_drew ?_ | refine blk_alloc ?_ _)); exact BK1115.out) hb); have n3_ := Aside0.mk (below_step (BB3 HB.out GE1108.out GE1110.out GE1115.out) hb); clear BK1108; clear BK1110; clear BK1115; clear HB; have BK1108 := n0_; have BK1110 := n1_; have BK1115 := n2_; have HB := n3_; clear n0_ n1_ n2_ n3_; (try clear hb)))
                        go_roundg k2
                        case measure => have := HK1.out; have := HK2.out; omega
                        case rel => exact ⟨(wrap64 (x29_2 + 1)), FR, H', ⟨by have := HK1.out; have := HK2.out; omega⟩, ⟨by (with_reducible repeat (first | refine blk_drewN ?_ _ | refine blk_drew ?_ | refine blk_alloc ?_ _)); exact BK1108.out⟩, ⟨by (with_reducible repeat (first | refine blk_drewN ?_ _ | refine blk_drew ?_ | refine blk_alloc ?_ _)); exact BK1110.out⟩, ⟨(BB3 HB.out GE1108.out GE1110.out GE1115.out)⟩⟩
                    · rw [if_neg c13] at H
                      exact absurd H (by simp)
                  · rw [if_neg c12] at H
                    exact absurd H (by simp)
                · rw [if_neg c11] at H
                  have c11b0 : decide (x29_2 < (((rd_T135 l0_1 x15_1).f7).length : Int)) = false := decide_eq_false c11
                  clear c11
                  have H' := Aside0.mk H
                  clear H
                  go_wp2
                  go_roundg k2
                  case measure => have := HK1.out; have := HK2.out; omega
                  case rel => exact ⟨(wrap64 (x15_1 + 1)), FR, H', ⟨by have := HK1.out; have := HK2.out; omega⟩, ⟨by (with_reducible repeat (first | refine blk_drewN ?_ _ | refine blk_drew ?_ | refine blk_alloc ?_ _)); exact BK1108.out⟩, ⟨(BB2 HB.out GE1108.out GE1110.out)⟩⟩
          · rw [if_neg c6] at H
            exact absurd H (by simp)
        · rw [if_neg c5] at H
          exact absurd H (by simp)
      · rw [if_neg c4] at H
        have c4b0 : decide (x15_1 < (l0_1.length : Int)) = false := decide_eq_false c4
        clear c4
        obtain rfl := Option.some.inj H
        go_wp2
        go_ret
        exact ⟨ER, (BB1 HB.out GE1108.out)⟩

end Go.Proofs.Ytfgnaneajonapaa.Pr
