/- A part of the proof of the law FnExactWorldNew: its texts, one behind the other. -/
import Derived.Shelf.Abstract
import Derived.Test.YtfgnaneajonapaaBFnExactWorldNew1
import Derived.Test.YtfgnaneajonapaaBFnExactWorldNew2
import Derived.Test.YtfgnaneajonapaaBFnExactWorldNew3
import Derived.Test.YtfgnaneajonapaaBFnExactWorldNew4
import Derived.Test.YtfgnaneajonapaaBFnExactWorldNew5
namespace Go.Proofs.Ytfgnaneajonapaa.Pr
open Go.RowKit Go.Proofs.YtfgnaneajonapaaW.PrintWords Go.Proofs.YtfgnaneajonapaaW.PrintLast Go.Proofs.YtfgnaneajonapaaW.PrintMore
attribute [local go_sem] max2_int min2_int max_two min_two max_three min_three max_four min_four
set_option linter.unusedVariables false
set_option linter.unusedSimpArgs false
def impl_WorldNew.l0 : Nat → Int → Bool → List (S135) → Int → Int → List (S192) → List (S120) → Int → List (S97) → Option (Bool × (List (S135)) × Int × Int × (List (S192)) × (List (S120)) × Int × (List (S97)) × List Int × List ByteArray × (List (S168)))
  | 0, _, _, _, _, _, _, _, _, _ => none
  | k + 1, x2, x650000, x650001, x650002, x650003, x650004, x650005, x650006, x650007 => if x2 ≤ 7 then (if x650007.length < 3518437208883 then (impl_WorldNew.l0 k (wrap64 (x2 + 1)) x650000 x650001 x650002 x650003 x650004 x650005 x650006 (x650007 ++ [(⟨x2, true, ([] : List (S146))⟩ : S97)])) else (none)) else (some (x650000, x650001, x650002, x650003, x650004, x650005, x650006, x650007, ([] : List Int), ([] : List ByteArray), ([] : List (S168))))
def impl_WorldNew.f (k : Nat)  : Option (Bool × (List (S135)) × Int × Int × (List (S192)) × (List (S120)) × Int × (List (S97)) × List Int × List ByteArray × (List (S168))) := (impl_ServerNew.f).bind fun bt636 => (impl_WorldNew.l0 k 1 bt636.1 bt636.2.1 bt636.2.2.1 bt636.2.2.2.1 bt636.2.2.2.2.1 bt636.2.2.2.2.2.1 bt636.2.2.2.2.2.2 ([] : List (S97)))
set_option maxHeartbeats 8000000 in
set_option maxRecDepth 100000 in
theorem impl_WorldNew.calls (k : Nat)  (r1 : Bool) (r2 : List (S135)) (r3 : Int) (r4 : Int) (r5 : List (S192)) (r6 : List (S120)) (r7 : Int) (r8 : List (S97)) (r9 : List Int) (r10 : List ByteArray) (r11 : List (S168)) (w : World) (h : impl_WorldNew.f k  = some (r1, r2, r3, r4, r5, r6, r7, r8, r9, r10, r11)) :
    Calls Try.prog 42 #[] w fun e w' => ∃ v1_ v4_ v5_ v7_ v8_ v9_ v10_ : Value, e = .returned (.agg #[.bool r1, v1_, .int .i64 r3, .int .i64 r4, v4_, v5_, .int .i64 r7, v7_, v8_, v9_, v10_]) ∧ Kd.S k135 135 w' w.heap.size (fun _ => True) v1_ r2 ∧ Kd.R k192 192 w' w.heap.size (fun _ => True) v4_ r5 ∧ Kd.R k120 120 w' w.heap.size (fun _ => True) v5_ r6 ∧ Kd.S k97 97 w' w.heap.size (fun _ => True) v7_ r8 ∧ Kd.R (Kd.int .i64) 3 w' w.heap.size (fun _ => True) v8_ r9 ∧ Kd.R Kd.string 9 w' w.heap.size (fun _ => True) v9_ r10 ∧ Kd.R k168 168 w' w.heap.size (fun _ => True) v10_ r11 ∧ Below w.heap.size w w' := by
  have hu77 := Try.underlying77
  have hu97 := Try.underlying97
  have HB := Aside0.mk (Below.refl w.heap.size w)
  have H : ((impl_ServerNew.f).bind fun bt636 => (impl_WorldNew.l0 k 1 bt636.1 bt636.2.1 bt636.2.2.1 bt636.2.2.2.1 bt636.2.2.2.2.1 bt636.2.2.2.2.2.1 bt636.2.2.2.2.2.2 ([] : List (S97)))) = some (r1, r2, r3, r4, r5, r6, r7, r8, r9, r10, r11) := h
  clear h
  replace H := Option.bind_eq_some_iff.mp H
  obtain ⟨⟨t636, t637, t640, t641, t642, t645, t648⟩, A10, H⟩ := H
  replace H : (impl_WorldNew.l0 k 1 t636 t637 t640 t641 t642 t645 t648 ([] : List (S97))) = some (r1, r2, r3, r4, r5, r6, r7, r8, r9, r10, r11) := H
  have A1 := Aside0.mk A10
  clear A10
  have H' := Aside0.mk H
  clear H
  go_enter Try.func42, Try.ntmps42
  go_wp2_with (first | ((with_reducible refine gate_dst (N := 0) rfl ?_); refine BX 0 #[.bool false, .slice none 0 0, .int .i64 0, .int .i64 0, .slice none 0 0, .slice none 0 0, .int .i64 0, .slice none 0 0, .slice none 0 0, .slice none 0 0, .slice none 0 0] 77 ?_; intro gb635 hg w2 hbox hb; have BK635 := Aside0.mk (hbox); have GW635 : Aside0 (w.heap.size ≤ gb635) := WG hg (BB HB.out); have GE635 := GW635; replace HB := Aside0.mk (below_step (BB HB.out) hb); clear hb hbox hg) | ((with_reducible refine gate_callee (f := 26) rfl ?_); refine GL (some 3) rfl rfl Try.func26 #[] rfl ?_; (with_reducible refine (impl_ServerNew.calls  t636 t637 t640 t641 t642 t645 t648 _ A1.out).mono ?_); rintro e w3 ⟨v638, v643, v646, rfl, ho0, ho1, ho2, hb⟩; refine ⟨_, rfl, ?_⟩; have HO639 := Aside0.mk (Kd.S_lower ho0 (below_size (BB1 HB.out GE635.out))); have HO644 := Aside0.mk (Kd.R_lower ho1 (below_size (BB1 HB.out GE635.out))); have HO647 := Aside0.mk (Kd.R_lower ho2 (below_size (BB1 HB.out GE635.out))); replace BK635 := Aside0.mk (KB BK635.out hb); replace HB := Aside0.mk (below_step (BB1 HB.out GE635.out) hb); (try clear hb); (try clear ho0); (try clear ho1); (try clear ho2); obtain ⟨Ao4, co4, eo4⟩ := Kd.R_slice HO647.out; subst eo4; obtain ⟨Ao5, co5, eo5⟩ := Kd.R_slice HO644.out; subst eo5; obtain ⟨Ao6, co6, eo6⟩ := Kd.S_slice HO639.out; subst eo6) | ((with_reducible refine gate_dst (N := 1) rfl ?_); refine BX 1 #[.bool false, .slice none 0 0, .int .i64 0, .int .i64 0, .slice none 0 0, .slice none 0 0, .int .i64 0, .slice none 0 0, .slice none 0 0, .slice none 0 0, .slice none 0 0] 77 ?_; intro gb649 hg w7 hbox hb; have BK649 := Aside0.mk (hbox); have GW649 : Aside0 (w.heap.size ≤ gb649) := WG hg (BB1 HB.out GE635.out); have GE649 := GW649; have NB635_649 := NL BK635.out hg; have NB649_635 := NG BK635.out hg; replace HO639 := Aside0.mk (Kd.S_below (SS HO639.out) hb); replace HO644 := Aside0.mk (Kd.R_below (RR HO644.out) hb); replace HO647 := Aside0.mk (Kd.R_below (RR HO647.out) hb); replace BK635 := Aside0.mk (KB BK635.out hb); replace HB := Aside0.mk (below_step (BB1 HB.out GE635.out) hb); clear hb hbox hg; have hnb8 := NB649_635.out; have hnc8 := NB635_649.out; have hcz9_0 : w7.cell? ⟨gb649, 0, none⟩ = some (.bool false) := (blk_cell BK649.out 0).trans rfl; have hcz9_1 : w7.cell? ⟨gb649, 1, none⟩ = some (.slice none 0 0) := (blk_cell BK649.out 1).trans rfl; have hcz9_2 : w7.cell? ⟨gb649, 2, none⟩ = some (.int .i64 0) := (blk_cell BK649.out 2).trans rfl; have hcz9_3 : w7.cell? ⟨gb649, 3, none⟩ = some (.int .i64 0) := (blk_cell BK649.out 3).trans rfl; have hcz9_4 : w7.cell? ⟨gb649, 4, none⟩ = some (.slice none 0 0) := (blk_cell BK649.out 4).trans rfl; have hcz9_5 : w7.cell? ⟨gb649, 5, none⟩ = some (.slice none 0 0) := (blk_cell BK649.out 5).trans rfl; have hcz9_6 : w7.cell? ⟨gb649, 6, none⟩ = some (.int .i64 0) := (blk_cell BK649.out 6).trans rfl; have hcz9_7 : w7.cell? ⟨gb649, 7, none⟩ = some (.slice none 0 0) := (blk_cell BK649.out 7).trans rfl; have hcz9_8 : w7.cell? ⟨gb649, 8, none⟩ = some (.slice none 0 0) := (blk_cell BK649.out 8).trans rfl; have hcz9_9 : w7.cell? ⟨gb649, 9, none⟩ = some (.slice none 0 0) := (blk_cell BK649.out 9).trans rfl; have hcz9_10 : w7.cell? ⟨gb649, 10, none⟩ = some (.slice none 0 0) := (blk_cell BK649.out 10).trans rfl; have hfz9_0 := blk_frozen BK649.out 0; have hfz9_1 := blk_frozen BK649.out 1; have hfz9_2 := blk_frozen BK649.out 2; have hfz9_3 := blk_frozen BK649.out 3; have hfz9_4 := blk_frozen BK649.out 4; have hfz9_5 := blk_frozen BK649.out 5; have hfz9_6 := blk_frozen BK649.out 6; have hfz9_7 := blk_frozen BK649.out 7; have hfz9_8 := blk_frozen BK649.out 8; have hfz9_9 := blk_frozen BK649.out 9; have hfz9_10 := blk_frozen BK649.out 10))
  go_loopg [2] k (fun kq v2 w' => ∃ (x2_1 : Int) (x650007_1 : List (S97)) (u650007 : Value), v2 = .int .i64 x2_1 ∧ Aside0 (impl_WorldNew.l0 kq x2_1 t636 t637 t640 t641 t642 t645 t648 x650007_1 = some (r1, r2, r3, r4, r5, r6, r7, r8, r9, r10, r11)) ∧ Aside0 (kq ≤ k) ∧ Aside0 (Kd.S k135 135 w' w.heap.size (fun _ => True) (.slice Ao6 t637.length co6) t637) ∧ Aside0 (Kd.R k192 192 w' w.heap.size (fun _ => True) (.slice Ao5 t642.length co5) t642) ∧ Aside0 (Kd.R k120 120 w' w.heap.size (fun _ => True) (.slice Ao4 t645.length co4) t645) ∧ Aside0 (Kd.S k97 97 w' w.heap.size (fun _ => True) u650007 x650007_1) ∧ Aside0 (w'.heap[gb635]? = some (.cells #[.bool false, (.slice none 0 0), .int .i64 0, .int .i64 0, (.slice none 0 0), (.slice none 0 0), .int .i64 0, (.slice none 0 0), (.slice none 0 0), (.slice none 0 0), (.slice none 0 0)] 77 (0, 0))) ∧ Aside0 (w'.heap[gb649]? = some (.cells #[.bool t636, (.slice Ao6 t637.length co6), .int .i64 t640, .int .i64 t641, (.slice Ao5 t642.length co5), (.slice Ao4 t645.length co4), .int .i64 t648, u650007, (.slice none 0 0), (.slice none 0 0), (.slice none 0 0)] 77 (0, 0))) ∧ Aside0 (Below w.heap.size w w'))
  case atStart => exact ⟨(1), (([] : List (S97))), (.slice none 0 0), FR, H', ⟨Nat.le_refl _⟩, ⟨by (with_reducible repeat (first | apply Kd.S_alloc | apply Kd.S_drewN | apply Kd.S_drew)); exact Kd.S_mono (Kd.S_far (p := ⟨gb649, 10, none⟩) (Kd.S_far (p := ⟨gb649, 9, none⟩) (Kd.S_far (p := ⟨gb649, 8, none⟩) (Kd.S_far (p := ⟨gb649, 7, none⟩) (Kd.S_far (p := ⟨gb649, 6, none⟩) (Kd.S_far (p := ⟨gb649, 5, none⟩) (Kd.S_far (p := ⟨gb649, 4, none⟩) (Kd.S_far (p := ⟨gb649, 3, none⟩) (Kd.S_far (p := ⟨gb649, 2, none⟩) (Kd.S_far (p := ⟨gb649, 1, none⟩) (Kd.S_far (p := ⟨gb649, 0, none⟩) (Kd.S_types HO639.out BK649.out (by decide)) (fun _ hk => hk.2) (.bool t636)) (fun _ hk => hk.2) (.slice Ao6 t637.length co6)) (fun _ hk => hk.2) (.int .i64 t640)) (fun _ hk => hk.2) (.int .i64 t641)) (fun _ hk => hk.2) (.slice Ao5 t642.length co5)) (fun _ hk => hk.2) (.slice Ao4 t645.length co4)) (fun _ hk => hk.2) (.int .i64 t648)) (fun _ hk => hk.2) (.slice none 0 0)) (fun _ hk => hk.2) (.slice none 0 0)) (fun _ hk => hk.2) (.slice none 0 0)) (fun _ hk => hk.2) (.slice none 0 0)) (fun _ hk => trivial)⟩, ⟨by (with_reducible repeat (first | apply Kd.R_alloc | apply Kd.R_drewN | apply Kd.R_drew)); exact Kd.R_mono (Kd.R_far (p := ⟨gb649, 10, none⟩) (Kd.R_far (p := ⟨gb649, 9, none⟩) (Kd.R_far (p := ⟨gb649, 8, none⟩) (Kd.R_far (p := ⟨gb649, 7, none⟩) (Kd.R_far (p := ⟨gb649, 6, none⟩) (Kd.R_far (p := ⟨gb649, 5, none⟩) (Kd.R_far (p := ⟨gb649, 4, none⟩) (Kd.R_far (p := ⟨gb649, 3, none⟩) (Kd.R_far (p := ⟨gb649, 2, none⟩) (Kd.R_far (p := ⟨gb649, 1, none⟩) (Kd.R_far (p := ⟨gb649, 0, none⟩) (Kd.R_types HO644.out BK649.out (by decide)) (fun _ hk => hk.2) (.bool t636)) (fun _ hk => hk.2) (.slice Ao6 t637.length co6)) (fun _ hk => hk.2) (.int .i64 t640)) (fun _ hk => hk.2) (.int .i64 t641)) (fun _ hk => hk.2) (.slice Ao5 t642.length co5)) (fun _ hk => hk.2) (.slice Ao4 t645.length co4)) (fun _ hk => hk.2) (.int .i64 t648)) (fun _ hk => hk.2) (.slice none 0 0)) (fun _ hk => hk.2) (.slice none 0 0)) (fun _ hk => hk.2) (.slice none 0 0)) (fun _ hk => hk.2) (.slice none 0 0)) (fun _ hk => trivial)⟩, ⟨by (with_reducible repeat (first | apply Kd.R_alloc | apply Kd.R_drewN | apply Kd.R_drew)); exact Kd.R_mono (Kd.R_far (p := ⟨gb649, 10, none⟩) (Kd.R_far (p := ⟨gb649, 9, none⟩) (Kd.R_far (p := ⟨gb649, 8, none⟩) (Kd.R_far (p := ⟨gb649, 7, none⟩) (Kd.R_far (p := ⟨gb649, 6, none⟩) (Kd.R_far (p := ⟨gb649, 5, none⟩) (Kd.R_far (p := ⟨gb649, 4, none⟩) (Kd.R_far (p := ⟨gb649, 3, none⟩) (Kd.R_far (p := ⟨gb649, 2, none⟩) (Kd.R_far (p := ⟨gb649, 1, none⟩) (Kd.R_far (p := ⟨gb649, 0, none⟩) (Kd.R_types HO647.out BK649.out (by decide)) (fun _ hk => hk.2) (.bool t636)) (fun _ hk => hk.2) (.slice Ao6 t637.length co6)) (fun _ hk => hk.2) (.int .i64 t640)) (fun _ hk => hk.2) (.int .i64 t641)) (fun _ hk => hk.2) (.slice Ao5 t642.length co5)) (fun _ hk => hk.2) (.slice Ao4 t645.length co4)) (fun _ hk => hk.2) (.int .i64 t648)) (fun _ hk => hk.2) (.slice none 0 0)) (fun _ hk => hk.2) (.slice none 0 0)) (fun _ hk => hk.2) (.slice none 0 0)) (fun _ hk => hk.2) (.slice none 0 0)) (fun _ hk => trivial)⟩, ⟨by first | exact Kd.S_nil _ _ _ _ _ | exact Kd.N_nil _ _ _ _ _ | exact Kd.V_nil _ _ _ _ _ | exact Kd.Q_nil _ _ _ _ _ | exact Kd.R_nil _ _ _ _ _⟩, ⟨by (with_reducible repeat (first | refine blk_drewN ?_ _ | refine blk_drew ?_ | refine blk_alloc ?_ _)); refine blk_far ?_ NB635_649.out _; (with_reducible repeat (first | refine blk_drewN ?_ _ | refine blk_drew ?_ | refine blk_alloc ?_ _)); refine blk_far ?_ NB635_649.out _; (with_reducible repeat (first | refine blk_drewN ?_ _ | refine blk_drew ?_ | refine blk_alloc ?_ _)); refine blk_far ?_ NB635_649.out _; (with_reducible repeat (first | refine blk_drewN ?_ _ | refine blk_drew ?_ | refine blk_alloc ?_ _)); refine blk_far ?_ NB635_649.out _; (with_reducible repeat (first | refine blk_drewN ?_ _ | refine blk_drew ?_ | refine blk_alloc ?_ _)); refine blk_far ?_ NB635_649.out _; (with_reducible repeat (first | refine blk_drewN ?_ _ | refine blk_drew ?_ | refine blk_alloc ?_ _)); refine blk_far ?_ NB635_649.out _; (with_reducible repeat (first | refine blk_drewN ?_ _ | refine blk_drew ?_ | refine blk_alloc ?_ _)); refine blk_far ?_ NB635_649.out _; (with_reducible repeat (first | refine blk_drewN ?_ _ | refine blk_drew ?_ | refine blk_alloc ?_ _)); refine blk_far ?_ NB635_649.out _; (with_reducible repeat (first | refine blk_drewN ?_ _ | refine blk_drew ?_ | refine blk_alloc ?_ _)); refine blk_far ?_ NB635_649.out _; (with_reducible repeat (first | refine blk_drewN ?_ _ | refine blk_drew ?_ | refine blk_alloc ?_ _)); refine blk_far ?_ NB635_649.out _; (with_reducible repeat (first | refine blk_drewN ?_ _ | refine blk_drew ?_ | refine blk_alloc ?_ _)); refine blk_far ?_ NB635_649.out _; (with_reducible repeat (first | refine blk_drewN ?_ _ | refine blk_drew ?_ | refine blk_alloc ?_ _)); exact BK635.out⟩, ⟨by (with_reducible repeat (first | refine blk_drewN ?_ _ | refine blk_drew ?_ | refine blk_alloc ?_ _)); refine blk_put (cs := #[.bool t636, .slice Ao6 t637.length co6, .int .i64 t640, .int .i64 t641, .slice Ao5 t642.length co5, .slice Ao4 t645.length co4, .int .i64 t648, .slice none 0 0, .slice none 0 0, .slice none 0 0, .slice none 0 0]) ?_ 10 _ rfl; (with_reducible repeat (first | refine blk_drewN ?_ _ | refine blk_drew ?_ | refine blk_alloc ?_ _)); refine blk_put (cs := #[.bool t636, .slice Ao6 t637.length co6, .int .i64 t640, .int .i64 t641, .slice Ao5 t642.length co5, .slice Ao4 t645.length co4, .int .i64 t648, .slice none 0 0, .slice none 0 0, .slice none 0 0, .slice none 0 0]) ?_ 9 _ rfl; (with_reducible repeat (first | refine blk_drewN ?_ _ | refine blk_drew ?_ | refine blk_alloc ?_ _)); refine blk_put (cs := #[.bool t636, .slice Ao6 t637.length co6, .int .i64 t640, .int .i64 t641, .slice Ao5 t642.length co5, .slice Ao4 t645.length co4, .int .i64 t648, .slice none 0 0, .slice none 0 0, .slice none 0 0, .slice none 0 0]) ?_ 8 _ rfl; (with_reducible repeat (first | refine blk_drewN ?_ _ | refine blk_drew ?_ | refine blk_alloc ?_ _)); refine blk_put (cs := #[.bool t636, .slice Ao6 t637.length co6, .int .i64 t640, .int .i64 t641, .slice Ao5 t642.length co5, .slice Ao4 t645.length co4, .int .i64 t648, .slice none 0 0, .slice none 0 0, .slice none 0 0, .slice none 0 0]) ?_ 7 _ rfl; (with_reducible repeat (first | refine blk_drewN ?_ _ | refine blk_drew ?_ | refine blk_alloc ?_ _)); refine blk_put (cs := #[.bool t636, .slice Ao6 t637.length co6, .int .i64 t640, .int .i64 t641, .slice Ao5 t642.length co5, .slice Ao4 t645.length co4, .int .i64 0, .slice none 0 0, .slice none 0 0, .slice none 0 0, .slice none 0 0]) ?_ 6 _ rfl; (with_reducible repeat (first | refine blk_drewN ?_ _ | refine blk_drew ?_ | refine blk_alloc ?_ _)); refine blk_put (cs := #[.bool t636, .slice Ao6 t637.length co6, .int .i64 t640, .int .i64 t641, .slice Ao5 t642.length co5, .slice none 0 0, .int .i64 0, .slice none 0 0, .slice none 0 0, .slice none 0 0, .slice none 0 0]) ?_ 5 _ rfl; (with_reducible repeat (first | refine blk_drewN ?_ _ | refine blk_drew ?_ | refine blk_alloc ?_ _)); refine blk_put (cs := #[.bool t636, .slice Ao6 t637.length co6, .int .i64 t640, .int .i64 t641, .slice none 0 0, .slice none 0 0, .int .i64 0, .slice none 0 0, .slice none 0 0, .slice none 0 0, .slice none 0 0]) ?_ 4 _ rfl; (with_reducible repeat (first | refine blk_drewN ?_ _ | refine blk_drew ?_ | refine blk_alloc ?_ _)); refine blk_put (cs := #[.bool t636, .slice Ao6 t637.length co6, .int .i64 t640, .int .i64 0, .slice none 0 0, .slice none 0 0, .int .i64 0, .slice none 0 0, .slice none 0 0, .slice none 0 0, .slice none 0 0]) ?_ 3 _ rfl; (with_reducible repeat (first | refine blk_drewN ?_ _ | refine blk_drew ?_ | refine blk_alloc ?_ _)); refine blk_put (cs := #[.bool t636, .slice Ao6 t637.length co6, .int .i64 0, .int .i64 0, .slice none 0 0, .slice none 0 0, .int .i64 0, .slice none 0 0, .slice none 0 0, .slice none 0 0, .slice none 0 0]) ?_ 2 _ rfl; (with_reducible repeat (first | refine blk_drewN ?_ _ | refine blk_drew ?_ | refine blk_alloc ?_ _)); refine blk_put (cs := #[.bool t636, .slice none 0 0, .int .i64 0, .int .i64 0, .slice none 0 0, .slice none 0 0, .int .i64 0, .slice none 0 0, .slice none 0 0, .slice none 0 0, .slice none 0 0]) ?_ 1 _ rfl; (with_reducible repeat (first | refine blk_drewN ?_ _ | refine blk_drew ?_ | refine blk_alloc ?_ _)); refine blk_put (cs := #[.bool false, .slice none 0 0, .int .i64 0, .int .i64 0, .slice none 0 0, .slice none 0 0, .int .i64 0, .slice none 0 0, .slice none 0 0, .slice none 0 0, .slice none 0 0]) ?_ 0 _ rfl; (with_reducible repeat (first | refine blk_drewN ?_ _ | refine blk_drew ?_ | refine blk_alloc ?_ _)); exact BK649.out⟩, ⟨(BB2 HB.out GE635.out GE649.out)⟩⟩
  case round =>
    clear H'
    try clear c2
    try clear p2
    try clear c4
    try clear c8
    try clear hcz9_0
    try clear hcz9_1
    try clear hcz9_10
    try clear hcz9_2
    try clear hcz9_3
    try clear hcz9_4
    try clear hcz9_5
    try clear hcz9_6
    try clear hcz9_7
    try clear hcz9_8
    try clear hcz9_9
    try clear hfz9_0
    try clear hfz9_1
    try clear hfz9_10
    try clear hfz9_2
    try clear hfz9_3
    try clear hfz9_4
    try clear hfz9_5
    try clear hfz9_6
    try clear hfz9_7
    try clear hfz9_8
    try clear hfz9_9
    obtain ⟨x2_1, x650007_1, u650007, rfl, HA, HK1, HO_650001, HO_650004, HO_650005, HO_650007, BK635, BK649, HB⟩ := hrel
    cases gk with
    | zero => exact absurd HA.out (by simp [impl_WorldNew.l0])
    | succ k1 =>
      have H := HA.out
      clear HA
      simp only [impl_WorldNew.l0] at H
      by_cases c10 : x2_1 ≤ 7
      · rw [if_pos c10] at H
        have c10b0 : decide (x2_1 ≤ 7) = true := decide_eq_true c10
        clear c10
        by_cases c11 : x650007_1.length < 3518437208883
        · rw [if_pos c11] at H
          have LMc11 := Aside0.mk c11
          clear c11
          obtain ⟨y650, hy650⟩ : ∃ y_ : List (S97), y_ = (x650007_1 ++ [(⟨x2_1, true, ([] : List (S146))⟩ : S97)]) := ⟨_, rfl⟩
          replace H : (impl_WorldNew.l0 k1 (wrap64 (x2_1 + 1)) t636 t637 t640 t641 t642 t645 t648 y650) = some (r1, r2, r3, r4, r5, r6, r7, r8, r9, r10, r11) := by first | (rw [hy650]; with_reducible exact H) | (have H2_ := (Option.bind_some _ _).symm.trans H; rw [hy650]; with_reducible exact H2_) | (have H2_ := (Option.bind_some _ _).symm.trans H; with_reducible exact H2_) | with_reducible exact H | (rw [hy650]; exact H) | exact H
          have Ny650 := Aside0.mk hy650
          clear hy650
          have H' := Aside0.mk H
          clear H
          have hnb12 := NB649_635.out
          have hnc12 := NB635_649.out
          have hcz13_0 : wr.cell? ⟨gb649, 0, none⟩ = some (.bool t636) := (blk_cell BK649.out 0).trans rfl
          have hcz13_1 : wr.cell? ⟨gb649, 1, none⟩ = some (.slice Ao6 t637.length co6) := (blk_cell BK649.out 1).trans rfl
          have hcz13_2 : wr.cell? ⟨gb649, 2, none⟩ = some (.int .i64 t640) := (blk_cell BK649.out 2).trans rfl
          have hcz13_3 : wr.cell? ⟨gb649, 3, none⟩ = some (.int .i64 t641) := (blk_cell BK649.out 3).trans rfl
          have hcz13_4 : wr.cell? ⟨gb649, 4, none⟩ = some (.slice Ao5 t642.length co5) := (blk_cell BK649.out 4).trans rfl
          have hcz13_5 : wr.cell? ⟨gb649, 5, none⟩ = some (.slice Ao4 t645.length co4) := (blk_cell BK649.out 5).trans rfl
          have hcz13_6 : wr.cell? ⟨gb649, 6, none⟩ = some (.int .i64 t648) := (blk_cell BK649.out 6).trans rfl
          have hcz13_7 : wr.cell? ⟨gb649, 7, none⟩ = some (u650007) := (blk_cell BK649.out 7).trans rfl
          have hcz13_8 : wr.cell? ⟨gb649, 8, none⟩ = some (.slice none 0 0) := (blk_cell BK649.out 8).trans rfl
          have hcz13_9 : wr.cell? ⟨gb649, 9, none⟩ = some (.slice none 0 0) := (blk_cell BK649.out 9).trans rfl
          have hcz13_10 : wr.cell? ⟨gb649, 10, none⟩ = some (.slice none 0 0) := (blk_cell BK649.out 10).trans rfl
          have hfz13_0 := blk_frozen BK649.out 0
          have hfz13_1 := blk_frozen BK649.out 1
          have hfz13_2 := blk_frozen BK649.out 2
          have hfz13_3 := blk_frozen BK649.out 3
          have hfz13_4 := blk_frozen BK649.out 4
          have hfz13_5 := blk_frozen BK649.out 5
          have hfz13_6 := blk_frozen BK649.out 6
          have hfz13_7 := blk_frozen BK649.out 7
          have hfz13_8 := blk_frozen BK649.out 8
          have hfz13_9 := blk_frozen BK649.out 9
          have hfz13_10 := blk_frozen BK649.out 10
          go_wp2_with (first | ((with_reducible refine gate_builtin (b := .append) (xs := #[.tmp 10, .tmp 13]) rfl ?_); at_builtin; refine Kd.S_append k97 (w0 := w) w.heap.size rfl (.tmp 10) (.tmp 13) 25 97 (.agg #[(.int .i64 0), (.bool false), (.slice none 0 0)]) 40 rfl Try.underlying25 info97 rfl (by decide) (by omega) u650007 x650007_1 (⟨x2_1, true, ([] : List (S146))⟩ : S97) [.int .i64 x2_1, .bool true, .slice none 0 0] (fun _ => True) (fun _ => False) rfl rfl ?aP (fun k_ hk_ => hk_.elim) ?aF ?aO ?aB ?aS ?aL ?_; (case aP => exact k97_mkM _ _ _ (⟨x2_1, true, ([] : List (S146))⟩ : S97) (Kd.R_nil _ _ _ _ _)); (case aB => exact (BB2 HB.out GE635.out GE649.out)); (case aF => exact (fun _ _ => trivial)); (case aO => exact (by (with_reducible repeat (first | apply Kd.S_alloc | apply Kd.S_drewN | apply Kd.S_drew)); exact Kd.S_mono HO_650007.out (fun k_ hk => ⟨trivial, fun e_ => e_⟩))); (case aS => exact (below_size (BB2 HB.out GE635.out GE649.out))); (case aL => have := LMc11.out; omega); intro v651 w14 ho hb hg hat; rw [← Ny650.out] at ho; have n0_ := Aside0.mk (Kd.S_over' (SS HO_650001.out) (Kd.S_typed (SS HO_650007.out)) (by decide) hg); have n1_ := Aside0.mk (Kd.R_over' (RR HO_650004.out) (Kd.S_typed (SS HO_650007.out)) (by decide) hg); have n2_ := Aside0.mk (Kd.R_over' (RR HO_650005.out) (Kd.S_typed (SS HO_650007.out)) (by decide) hg); have n3_ := Aside0.mk (blk_grown (g := gb635) (o := .cells #[.bool false, .slice none 0 0, .int .i64 0, .int .i64 0, .slice none 0 0, .slice none 0 0, .int .i64 0, .slice none 0 0, .slice none 0 0, .slice none 0 0, .slice none 0 0] 77 (0, 0)) (by (with_reducible repeat (first | refine blk_drewN ?_ _ | refine blk_drew ?_ | refine blk_alloc ?_ _)); exact BK635.out) hg (Kd.S_ne HO_650007.out BK635.out (by decide))); have n4_ := Aside0.mk (blk_grown (g := gb649) (o := .cells #[.bool t636, .slice Ao6 t637.length co6, .int .i64 t640, .int .i64 t641, .slice Ao5 t642.length co5, .slice Ao4 t645.length co4, .int .i64 t648, u650007, .slice none 0 0, .slice none 0 0, .slice none 0 0] 77 (0, 0)) (by (with_reducible repeat (first | refine blk_drewN ?_ _ | refine blk_drew ?_ | refine blk_alloc ?_ _)); exact BK649.out) hg (Kd.S_ne HO_650007.out BK649.out (by decide))); have n5_ := Aside0.mk (hb); have n6_ := Aside0.mk (ho); clear HO_650001; clear HO_650004; clear HO_650005; clear BK635; clear BK649; clear HB; clear HO_650007; have HO_650001 := n0_; have HO_650004 := n1_; have HO_650005 := n2_; have BK635 := n3_; have BK649 := n4_; have HB := n5_; have HO652 := n6_; clear n0_ n1_ n2_ n3_ n4_ n5_ n6_; clear ho hb hg hat; obtain ⟨Ao15, co15, eo15⟩ := Kd.S_slice HO652.out; subst eo15; have hcz16_0 : w14.cell? ⟨gb649, 0, none⟩ = some (.bool t636) := (blk_cell BK649.out 0).trans rfl; have hcz16_1 : w14.cell? ⟨gb649, 1, none⟩ = some (.slice Ao6 t637.length co6) := (blk_cell BK649.out 1).trans rfl; have hcz16_2 : w14.cell? ⟨gb649, 2, none⟩ = some (.int .i64 t640) := (blk_cell BK649.out 2).trans rfl; have hcz16_3 : w14.cell? ⟨gb649, 3, none⟩ = some (.int .i64 t641) := (blk_cell BK649.out 3).trans rfl; have hcz16_4 : w14.cell? ⟨gb649, 4, none⟩ = some (.slice Ao5 t642.length co5) := (blk_cell BK649.out 4).trans rfl; have hcz16_5 : w14.cell? ⟨gb649, 5, none⟩ = some (.slice Ao4 t645.length co4) := (blk_cell BK649.out 5).trans rfl; have hcz16_6 : w14.cell? ⟨gb649, 6, none⟩ = some (.int .i64 t648) := (blk_cell BK649.out 6).trans rfl; have hcz16_7 : w14.cell? ⟨gb649, 7, none⟩ = some (u650007) := (blk_cell BK649.out 7).trans rfl; have hcz16_8 : w14.cell? ⟨gb649, 8, none⟩ = some (.slice none 0 0) := (blk_cell BK649.out 8).trans rfl; have hcz16_9 : w14.cell? ⟨gb649, 9, none⟩ = some (.slice none 0 0) := (blk_cell BK649.out 9).trans rfl; have hcz16_10 : w14.cell? ⟨gb649, 10, none⟩ = some (.slice none 0 0) := (blk_cell BK649.out 10).trans rfl; have hfz16_0 := blk_frozen BK649.out 0; have hfz16_1 := blk_frozen BK649.out 1; have hfz16_2 := blk_frozen BK649.out 2; have hfz16_3 := blk_frozen BK649.out 3; have hfz16_4 := blk_frozen BK649.out 4; have hfz16_5 := blk_frozen BK649.out 5; have hfz16_6 := blk_frozen BK649.out 6; have hfz16_7 := blk_frozen BK649.out 7; have hfz16_8 := blk_frozen BK649.out 8; have hfz16_9 := blk_frozen BK649.out 9; have hfz16_10 := blk_frozen BK649.out 10))
          go_roundg k1
          case measure => have := HK1.out; omega
          case rel => exact ⟨(wrap64 (x2_1 + 1)), (y650), (.slice Ao15 y650.length co15), FR, H', ⟨by have := HK1.out; omega⟩, ⟨by (with_reducible repeat (first | apply Kd.S_alloc | apply Kd.S_drewN | apply Kd.S_drew)); exact Kd.S_mono (Kd.S_far (p := ⟨gb649, 7, none⟩) (Kd.S_types HO_650001.out BK649.out (by decide)) (fun _ hk => hk.2) (.slice Ao15 y650.length co15)) (fun _ hk => trivial)⟩, ⟨by (with_reducible repeat (first | apply Kd.R_alloc | apply Kd.R_drewN | apply Kd.R_drew)); exact Kd.R_mono (Kd.R_far (p := ⟨gb649, 7, none⟩) (Kd.R_types HO_650004.out BK649.out (by decide)) (fun _ hk => hk.2) (.slice Ao15 y650.length co15)) (fun _ hk => trivial)⟩, ⟨by (with_reducible repeat (first | apply Kd.R_alloc | apply Kd.R_drewN | apply Kd.R_drew)); exact Kd.R_mono (Kd.R_far (p := ⟨gb649, 7, none⟩) (Kd.R_types HO_650005.out BK649.out (by decide)) (fun _ hk => hk.2) (.slice Ao15 y650.length co15)) (fun _ hk => trivial)⟩, ⟨by (with_reducible repeat (first | apply Kd.S_alloc | apply Kd.S_drewN | apply Kd.S_drew)); exact Kd.S_mono (Kd.S_far (p := ⟨gb649, 7, none⟩) (Kd.S_types HO652.out BK649.out (by decide)) (fun _ hk => hk.2) (.slice Ao15 y650.length co15)) (fun _ hk => trivial)⟩, ⟨by (with_reducible repeat (first | refine blk_drewN ?_ _ | refine blk_drew ?_ | refine blk_alloc ?_ _)); refine blk_far ?_ NB635_649.out _; (with_reducible repeat (first | refine blk_drewN ?_ _ | refine blk_drew ?_ | refine blk_alloc ?_ _)); exact BK635.out⟩, ⟨by (with_reducible repeat (first | refine blk_drewN ?_ _ | refine blk_drew ?_ | refine blk_alloc ?_ _)); refine blk_put (cs := #[.bool t636, .slice Ao6 t637.length co6, .int .i64 t640, .int .i64 t641, .slice Ao5 t642.length co5, .slice Ao4 t645.length co4, .int .i64 t648, u650007, .slice none 0 0, .slice none 0 0, .slice none 0 0]) ?_ 7 _ rfl; (with_reducible repeat (first | refine blk_drewN ?_ _ | refine blk_drew ?_ | refine blk_alloc ?_ _)); exact BK649.out⟩, ⟨(BB2 HB.out GE635.out GE649.out)⟩⟩
        · rw [if_neg c11] at H
          exact absurd H (by simp)
      · rw [if_neg c10] at H
        have c10b0 : decide (x2_1 ≤ 7) = false := decide_eq_false c10
        clear c10
        simp only [Option.some.injEq, Prod.mk.injEq] at H
        obtain ⟨rfl, rfl, rfl, rfl, rfl, rfl, rfl, rfl, rfl, rfl, rfl⟩ := H
        have hnb17 := NB649_635.out
        have hnc17 := NB635_649.out
        have hcz18_0 : wr.cell? ⟨gb649, 0, none⟩ = some (.bool t636) := (blk_cell BK649.out 0).trans rfl
        have hcz18_1 : wr.cell? ⟨gb649, 1, none⟩ = some (.slice Ao6 t637.length co6) := (blk_cell BK649.out 1).trans rfl
        have hcz18_2 : wr.cell? ⟨gb649, 2, none⟩ = some (.int .i64 t640) := (blk_cell BK649.out 2).trans rfl
        have hcz18_3 : wr.cell? ⟨gb649, 3, none⟩ = some (.int .i64 t641) := (blk_cell BK649.out 3).trans rfl
        have hcz18_4 : wr.cell? ⟨gb649, 4, none⟩ = some (.slice Ao5 t642.length co5) := (blk_cell BK649.out 4).trans rfl
        have hcz18_5 : wr.cell? ⟨gb649, 5, none⟩ = some (.slice Ao4 t645.length co4) := (blk_cell BK649.out 5).trans rfl
        have hcz18_6 : wr.cell? ⟨gb649, 6, none⟩ = some (.int .i64 t648) := (blk_cell BK649.out 6).trans rfl
        have hcz18_7 : wr.cell? ⟨gb649, 7, none⟩ = some (u650007) := (blk_cell BK649.out 7).trans rfl
        have hcz18_8 : wr.cell? ⟨gb649, 8, none⟩ = some (.slice none 0 0) := (blk_cell BK649.out 8).trans rfl
        have hcz18_9 : wr.cell? ⟨gb649, 9, none⟩ = some (.slice none 0 0) := (blk_cell BK649.out 9).trans rfl
        have hcz18_10 : wr.cell? ⟨gb649, 10, none⟩ = some (.slice none 0 0) := (blk_cell BK649.out 10).trans rfl
        have hfz18_0 := blk_frozen BK649.out 0
        have hfz18_1 := blk_frozen BK649.out 1
        have hfz18_2 := blk_frozen BK649.out 2
        have hfz18_3 := blk_frozen BK649.out 3
        have hfz18_4 := blk_frozen BK649.out 4
        have hfz18_5 := blk_frozen BK649.out 5
        have hfz18_6 := blk_frozen BK649.out 6
        have hfz18_7 := blk_frozen BK649.out 7
        have hfz18_8 := blk_frozen BK649.out 8
        have hfz18_9 := blk_frozen BK649.out 9
        have hfz18_10 := blk_frozen BK649.out 10
        have hcz19_0 : wr.cell? ⟨gb635, 0, none⟩ = some (.bool false) := (blk_cell BK635.out 0).trans rfl
        have hcz19_1 : wr.cell? ⟨gb635, 1, none⟩ = some (.slice none 0 0) := (blk_cell BK635.out 1).trans rfl
        have hcz19_2 : wr.cell? ⟨gb635, 2, none⟩ = some (.int .i64 0) := (blk_cell BK635.out 2).trans rfl
        have hcz19_3 : wr.cell? ⟨gb635, 3, none⟩ = some (.int .i64 0) := (blk_cell BK635.out 3).trans rfl
        have hcz19_4 : wr.cell? ⟨gb635, 4, none⟩ = some (.slice none 0 0) := (blk_cell BK635.out 4).trans rfl
        have hcz19_5 : wr.cell? ⟨gb635, 5, none⟩ = some (.slice none 0 0) := (blk_cell BK635.out 5).trans rfl
        have hcz19_6 : wr.cell? ⟨gb635, 6, none⟩ = some (.int .i64 0) := (blk_cell BK635.out 6).trans rfl
        have hcz19_7 : wr.cell? ⟨gb635, 7, none⟩ = some (.slice none 0 0) := (blk_cell BK635.out 7).trans rfl
        have hcz19_8 : wr.cell? ⟨gb635, 8, none⟩ = some (.slice none 0 0) := (blk_cell BK635.out 8).trans rfl
        have hcz19_9 : wr.cell? ⟨gb635, 9, none⟩ = some (.slice none 0 0) := (blk_cell BK635.out 9).trans rfl
        have hcz19_10 : wr.cell? ⟨gb635, 10, none⟩ = some (.slice none 0 0) := (blk_cell BK635.out 10).trans rfl
        have hfz19_0 := blk_frozen BK635.out 0
        have hfz19_1 := blk_frozen BK635.out 1
        have hfz19_2 := blk_frozen BK635.out 2
        have hfz19_3 := blk_frozen BK635.out 3
        have hfz19_4 := blk_frozen BK635.out 4
        have hfz19_5 := blk_frozen BK635.out 5
        have hfz19_6 := blk_frozen BK635.out 6
        have hfz19_7 := blk_frozen BK635.out 7
        have hfz19_8 := blk_frozen BK635.out 8
        have hfz19_9 := blk_frozen BK635.out 9
        have hfz19_10 := blk_frozen BK635.out 10
        obtain ⟨Ao20, co20, eo20⟩ := Kd.S_slice HO_650007.out
        subst eo20
        go_wp2
        refine bodyPost_ret (results_cell_row rfl _ _ gb635 77 #[.bool t636, .slice Ao6 t637.length co6, .int .i64 t640, .int .i64 t641, .slice Ao5 t642.length co5, .slice Ao4 t645.length co4, .int .i64 t648, .slice Ao20 x650007_1.length co20, .slice none 0 0, .slice none 0 0, .slice none 0 0] (0, 0) _ rfl (by (with_reducible repeat (first | refine blk_drewN ?_ _ | refine blk_drew ?_ | refine blk_alloc ?_ _)); refine blk_put (cs := #[.bool t636, .slice Ao6 t637.length co6, .int .i64 t640, .int .i64 t641, .slice Ao5 t642.length co5, .slice Ao4 t645.length co4, .int .i64 t648, .slice Ao20 x650007_1.length co20, .slice none 0 0, .slice none 0 0, .slice none 0 0]) ?_ 10 _ rfl; (with_reducible repeat (first | refine blk_drewN ?_ _ | refine blk_drew ?_ | refine blk_alloc ?_ _)); refine blk_put (cs := #[.bool t636, .slice Ao6 t637.length co6, .int .i64 t640, .int .i64 t641, .slice Ao5 t642.length co5, .slice Ao4 t645.length co4, .int .i64 t648, .slice Ao20 x650007_1.length co20, .slice none 0 0, .slice none 0 0, .slice none 0 0]) ?_ 9 _ rfl; (with_reducible repeat (first | refine blk_drewN ?_ _ | refine blk_drew ?_ | refine blk_alloc ?_ _)); refine blk_put (cs := #[.bool t636, .slice Ao6 t637.length co6, .int .i64 t640, .int .i64 t641, .slice Ao5 t642.length co5, .slice Ao4 t645.length co4, .int .i64 t648, .slice Ao20 x650007_1.length co20, .slice none 0 0, .slice none 0 0, .slice none 0 0]) ?_ 8 _ rfl; (with_reducible repeat (first | refine blk_drewN ?_ _ | refine blk_drew ?_ | refine blk_alloc ?_ _)); refine blk_put (cs := #[.bool t636, .slice Ao6 t637.length co6, .int .i64 t640, .int .i64 t641, .slice Ao5 t642.length co5, .slice Ao4 t645.length co4, .int .i64 t648, .slice none 0 0, .slice none 0 0, .slice none 0 0, .slice none 0 0]) ?_ 7 _ rfl; (with_reducible repeat (first | refine blk_drewN ?_ _ | refine blk_drew ?_ | refine blk_alloc ?_ _)); refine blk_put (cs := #[.bool t636, .slice Ao6 t637.length co6, .int .i64 t640, .int .i64 t641, .slice Ao5 t642.length co5, .slice Ao4 t645.length co4, .int .i64 0, .slice none 0 0, .slice none 0 0, .slice none 0 0, .slice none 0 0]) ?_ 6 _ rfl; (with_reducible repeat (first | refine blk_drewN ?_ _ | refine blk_drew ?_ | refine blk_alloc ?_ _)); refine blk_put (cs := #[.bool t636, .slice Ao6 t637.length co6, .int .i64 t640, .int .i64 t641, .slice Ao5 t642.length co5, .slice none 0 0, .int .i64 0, .slice none 0 0, .slice none 0 0, .slice none 0 0, .slice none 0 0]) ?_ 5 _ rfl; (with_reducible repeat (first | refine blk_drewN ?_ _ | refine blk_drew ?_ | refine blk_alloc ?_ _)); refine blk_put (cs := #[.bool t636, .slice Ao6 t637.length co6, .int .i64 t640, .int .i64 t641, .slice none 0 0, .slice none 0 0, .int .i64 0, .slice none 0 0, .slice none 0 0, .slice none 0 0, .slice none 0 0]) ?_ 4 _ rfl; (with_reducible repeat (first | refine blk_drewN ?_ _ | refine blk_drew ?_ | refine blk_alloc ?_ _)); refine blk_put (cs := #[.bool t636, .slice Ao6 t637.length co6, .int .i64 t640, .int .i64 0, .slice none 0 0, .slice none 0 0, .int .i64 0, .slice none 0 0, .slice none 0 0, .slice none 0 0, .slice none 0 0]) ?_ 3 _ rfl; (with_reducible repeat (first | refine blk_drewN ?_ _ | refine blk_drew ?_ | refine blk_alloc ?_ _)); refine blk_put (cs := #[.bool t636, .slice Ao6 t637.length co6, .int .i64 0, .int .i64 0, .slice none 0 0, .slice none 0 0, .int .i64 0, .slice none 0 0, .slice none 0 0, .slice none 0 0, .slice none 0 0]) ?_ 2 _ rfl; (with_reducible repeat (first | refine blk_drewN ?_ _ | refine blk_drew ?_ | refine blk_alloc ?_ _)); refine blk_put (cs := #[.bool t636, .slice none 0 0, .int .i64 0, .int .i64 0, .slice none 0 0, .slice none 0 0, .int .i64 0, .slice none 0 0, .slice none 0 0, .slice none 0 0, .slice none 0 0]) ?_ 1 _ rfl; (with_reducible repeat (first | refine blk_drewN ?_ _ | refine blk_drew ?_ | refine blk_alloc ?_ _)); refine blk_put (cs := #[.bool false, .slice none 0 0, .int .i64 0, .int .i64 0, .slice none 0 0, .slice none 0 0, .int .i64 0, .slice none 0 0, .slice none 0 0, .slice none 0 0, .slice none 0 0]) ?_ 0 _ rfl; (with_reducible repeat (first | refine blk_drewN ?_ _ | refine blk_drew ?_ | refine blk_alloc ?_ _)); exact BK635.out) Try.underlying77 rfl (by kernel_rfl)) rfl ?_
        exact ⟨_, _, _, _, _, _, _, ER, by (with_reducible repeat (first | apply Kd.S_alloc | apply Kd.S_drewN | apply Kd.S_drew)); exact Kd.S_mono (Kd.S_far (p := ⟨gb635, 10, none⟩) (Kd.S_far (p := ⟨gb635, 9, none⟩) (Kd.S_far (p := ⟨gb635, 8, none⟩) (Kd.S_far (p := ⟨gb635, 7, none⟩) (Kd.S_far (p := ⟨gb635, 6, none⟩) (Kd.S_far (p := ⟨gb635, 5, none⟩) (Kd.S_far (p := ⟨gb635, 4, none⟩) (Kd.S_far (p := ⟨gb635, 3, none⟩) (Kd.S_far (p := ⟨gb635, 2, none⟩) (Kd.S_far (p := ⟨gb635, 1, none⟩) (Kd.S_far (p := ⟨gb635, 0, none⟩) (Kd.S_types HO_650001.out BK635.out (by decide)) (fun _ hk => hk.2) (.bool t636)) (fun _ hk => hk.2) (.slice Ao6 t637.length co6)) (fun _ hk => hk.2) (.int .i64 t640)) (fun _ hk => hk.2) (.int .i64 t641)) (fun _ hk => hk.2) (.slice Ao5 t642.length co5)) (fun _ hk => hk.2) (.slice Ao4 t645.length co4)) (fun _ hk => hk.2) (.int .i64 t648)) (fun _ hk => hk.2) (.slice Ao20 x650007_1.length co20)) (fun _ hk => hk.2) (.slice none 0 0)) (fun _ hk => hk.2) (.slice none 0 0)) (fun _ hk => hk.2) (.slice none 0 0)) (fun _ hk => trivial), by (with_reducible repeat (first | apply Kd.R_alloc | apply Kd.R_drewN | apply Kd.R_drew)); exact Kd.R_mono (Kd.R_far (p := ⟨gb635, 10, none⟩) (Kd.R_far (p := ⟨gb635, 9, none⟩) (Kd.R_far (p := ⟨gb635, 8, none⟩) (Kd.R_far (p := ⟨gb635, 7, none⟩) (Kd.R_far (p := ⟨gb635, 6, none⟩) (Kd.R_far (p := ⟨gb635, 5, none⟩) (Kd.R_far (p := ⟨gb635, 4, none⟩) (Kd.R_far (p := ⟨gb635, 3, none⟩) (Kd.R_far (p := ⟨gb635, 2, none⟩) (Kd.R_far (p := ⟨gb635, 1, none⟩) (Kd.R_far (p := ⟨gb635, 0, none⟩) (Kd.R_types HO_650004.out BK635.out (by decide)) (fun _ hk => hk.2) (.bool t636)) (fun _ hk => hk.2) (.slice Ao6 t637.length co6)) (fun _ hk => hk.2) (.int .i64 t640)) (fun _ hk => hk.2) (.int .i64 t641)) (fun _ hk => hk.2) (.slice Ao5 t642.length co5)) (fun _ hk => hk.2) (.slice Ao4 t645.length co4)) (fun _ hk => hk.2) (.int .i64 t648)) (fun _ hk => hk.2) (.slice Ao20 x650007_1.length co20)) (fun _ hk => hk.2) (.slice none 0 0)) (fun _ hk => hk.2) (.slice none 0 0)) (fun _ hk => hk.2) (.slice none 0 0)) (fun _ hk => trivial), by (with_reducible repeat (first | apply Kd.R_alloc | apply Kd.R_drewN | apply Kd.R_drew)); exact Kd.R_mono (Kd.R_far (p := ⟨gb635, 10, none⟩) (Kd.R_far (p := ⟨gb635, 9, none⟩) (Kd.R_far (p := ⟨gb635, 8, none⟩) (Kd.R_far (p := ⟨gb635, 7, none⟩) (Kd.R_far (p := ⟨gb635, 6, none⟩) (Kd.R_far (p := ⟨gb635, 5, none⟩) (Kd.R_far (p := ⟨gb635, 4, none⟩) (Kd.R_far (p := ⟨gb635, 3, none⟩) (Kd.R_far (p := ⟨gb635, 2, none⟩) (Kd.R_far (p := ⟨gb635, 1, none⟩) (Kd.R_far (p := ⟨gb635, 0, none⟩) (Kd.R_types HO_650005.out BK635.out (by decide)) (fun _ hk => hk.2) (.bool t636)) (fun _ hk => hk.2) (.slice Ao6 t637.length co6)) (fun _ hk => hk.2) (.int .i64 t640)) (fun _ hk => hk.2) (.int .i64 t641)) (fun _ hk => hk.2) (.slice Ao5 t642.length co5)) (fun _ hk => hk.2) (.slice Ao4 t645.length co4)) (fun _ hk => hk.2) (.int .i64 t648)) (fun _ hk => hk.2) (.slice Ao20 x650007_1.length co20)) (fun _ hk => hk.2) (.slice none 0 0)) (fun _ hk => hk.2) (.slice none 0 0)) (fun _ hk => hk.2) (.slice none 0 0)) (fun _ hk => trivial), by (with_reducible repeat (first | apply Kd.S_alloc | apply Kd.S_drewN | apply Kd.S_drew)); exact Kd.S_mono (Kd.S_far (p := ⟨gb635, 10, none⟩) (Kd.S_far (p := ⟨gb635, 9, none⟩) (Kd.S_far (p := ⟨gb635, 8, none⟩) (Kd.S_far (p := ⟨gb635, 7, none⟩) (Kd.S_far (p := ⟨gb635, 6, none⟩) (Kd.S_far (p := ⟨gb635, 5, none⟩) (Kd.S_far (p := ⟨gb635, 4, none⟩) (Kd.S_far (p := ⟨gb635, 3, none⟩) (Kd.S_far (p := ⟨gb635, 2, none⟩) (Kd.S_far (p := ⟨gb635, 1, none⟩) (Kd.S_far (p := ⟨gb635, 0, none⟩) (Kd.S_types HO_650007.out BK635.out (by decide)) (fun _ hk => hk.2) (.bool t636)) (fun _ hk => hk.2) (.slice Ao6 t637.length co6)) (fun _ hk => hk.2) (.int .i64 t640)) (fun _ hk => hk.2) (.int .i64 t641)) (fun _ hk => hk.2) (.slice Ao5 t642.length co5)) (fun _ hk => hk.2) (.slice Ao4 t645.length co4)) (fun _ hk => hk.2) (.int .i64 t648)) (fun _ hk => hk.2) (.slice Ao20 x650007_1.length co20)) (fun _ hk => hk.2) (.slice none 0 0)) (fun _ hk => hk.2) (.slice none 0 0)) (fun _ hk => hk.2) (.slice none 0 0)) (fun _ hk => trivial), by first | exact Kd.R_nil _ _ _ _ _ | exact Kd.N_nil _ _ _ _ _ | exact Kd.V_nil _ _ _ _ _ | exact Kd.Q_nil _ _ _ _ _ | exact Kd.S_nil _ _ _ _ _, by first | exact Kd.R_nil _ _ _ _ _ | exact Kd.N_nil _ _ _ _ _ | exact Kd.V_nil _ _ _ _ _ | exact Kd.Q_nil _ _ _ _ _ | exact Kd.S_nil _ _ _ _ _, by first | exact Kd.R_nil _ _ _ _ _ | exact Kd.N_nil _ _ _ _ _ | exact Kd.V_nil _ _ _ _ _ | exact Kd.Q_nil _ _ _ _ _ | exact Kd.S_nil _ _ _ _ _, (BB2 HB.out GE635.out GE649.out)⟩

end Go.Proofs.Ytfgnaneajonapaa.Pr

namespace Go.Proofs.Ytfgnaneajonapaa.Pr
open Go.RowKit Go.Proofs.YtfgnaneajonapaaW.PrintWords Go.Proofs.YtfgnaneajonapaaW.PrintLast Go.Proofs.YtfgnaneajonapaaW.PrintMore
attribute [local go_sem] max2_int min2_int max_two min_two max_three min_three max_four min_four
set_option linter.unusedVariables false
set_option linter.unusedSimpArgs false
def laws_heldWorld.f (k : Nat) (a0_0 : Bool) (l0_1 : List (S135)) (a0_2 : Int) (a0_3 : Int) (l0_4 : List (S192)) (l0_5 : List (S120)) (a0_6 : Int) (l0_7 : List (S97)) (l0_8 : List Int) (l0_9 : List ByteArray) (l0_10 : List (S168)) (a1 : Int) : Option (Int) := (laws_heldServer.f k a0_0 l0_1 a0_2 a0_3 l0_4 l0_5 a0_6 a1).bind fun t682 => (if t682 < 0 then (some (-1)) else ((laws_heldHostS.f k l0_7 t682).bind fun t683 => (if t683 < 0 then (some (-1)) else ((laws_heldIntS.f k l0_8 t683).bind fun t684 => (if t684 < 0 then (some (-1)) else ((laws_heldStringS.f k l0_9 t684).bind fun t685 => (if t685 < 0 then (some (-1)) else ((laws_heldSizeS.f k l0_10 t685).bind fun t686 => (if t686 < 0 then (some (-1)) else (some t686))))))))))
set_option maxHeartbeats 8000000 in
set_option maxRecDepth 100000 in
theorem laws_heldWorld.calls (k : Nat) (a0_0 : Bool) (A0_1 : Option Addr) (c0_1 : Nat) (l0_1 : List (S135)) (a0_2 : Int) (a0_3 : Int) (A0_4 : Option Addr) (c0_4 : Nat) (l0_4 : List (S192)) (A0_5 : Option Addr) (c0_5 : Nat) (l0_5 : List (S120)) (a0_6 : Int) (A0_7 : Option Addr) (c0_7 : Nat) (l0_7 : List (S97)) (A0_8 : Option Addr) (c0_8 : Nat) (l0_8 : List Int) (A0_9 : Option Addr) (c0_9 : Nat) (l0_9 : List ByteArray) (A0_10 : Option Addr) (c0_10 : Nat) (l0_10 : List (S168)) (a1 : Int) (r : Int) (w : World) (hr0_1 : Kd.C k135 w A0_1 l0_1.length l0_1) (hc0_1 : l0_1.length ≤ c0_1) (hr0_4 : Kd.C k192 w A0_4 l0_4.length l0_4) (hc0_4 : l0_4.length ≤ c0_4) (hr0_5 : Kd.C k120 w A0_5 l0_5.length l0_5) (hc0_5 : l0_5.length ≤ c0_5) (hr0_7 : Kd.C k97 w A0_7 l0_7.length l0_7) (hc0_7 : l0_7.length ≤ c0_7) (hr0_8 : Kd.C (Kd.int .i64) w A0_8 l0_8.length l0_8) (hc0_8 : l0_8.length ≤ c0_8) (hr0_9 : Kd.C Kd.string w A0_9 l0_9.length l0_9) (hc0_9 : l0_9.length ≤ c0_9) (hr0_10 : Kd.C k168 w A0_10 l0_10.length l0_10) (hc0_10 : l0_10.length ≤ c0_10) (h : laws_heldWorld.f k a0_0 l0_1 a0_2 a0_3 l0_4 l0_5 a0_6 l0_7 l0_8 l0_9 l0_10 a1 = some r) :
    Calls Try.prog 45 #[.agg #[.bool a0_0, .slice A0_1 l0_1.length c0_1, .int .i64 a0_2, .int .i64 a0_3, .slice A0_4 l0_4.length c0_4, .slice A0_5 l0_5.length c0_5, .int .i64 a0_6, .slice A0_7 l0_7.length c0_7, .slice A0_8 l0_8.length c0_8, .slice A0_9 l0_9.length c0_9, .slice A0_10 l0_10.length c0_10], .int .i64 a1] w fun e w' => e = .returned (.int .i64 r) ∧ Below w.heap.size w w' := by
  have hu77 := Try.underlying77
  have hu46 := Try.underlying46
  have HR0_1 := Aside0.mk hr0_1
  have HC0_1 := Aside0.mk hc0_1
  clear hr0_1 hc0_1
  have HR0_4 := Aside0.mk hr0_4
  have HC0_4 := Aside0.mk hc0_4
  clear hr0_4 hc0_4
  have HR0_5 := Aside0.mk hr0_5
  have HC0_5 := Aside0.mk hc0_5
  clear hr0_5 hc0_5
  have HR0_7 := Aside0.mk hr0_7
  have HC0_7 := Aside0.mk hc0_7
  clear hr0_7 hc0_7
  have HR0_8 := Aside0.mk hr0_8
  have HC0_8 := Aside0.mk hc0_8
  clear hr0_8 hc0_8
  have HR0_9 := Aside0.mk hr0_9
  have HC0_9 := Aside0.mk hc0_9
  clear hr0_9 hc0_9
  have HR0_10 := Aside0.mk hr0_10
  have HC0_10 := Aside0.mk hc0_10
  clear hr0_10 hc0_10
  have HB := Aside0.mk (Below.refl w.heap.size w)
  have H : ((laws_heldServer.f k a0_0 l0_1 a0_2 a0_3 l0_4 l0_5 a0_6 a1).bind fun t682 => (if t682 < 0 then (some (-1)) else ((laws_heldHostS.f k l0_7 t682).bind fun t683 => (if t683 < 0 then (some (-1)) else ((laws_heldIntS.f k l0_8 t683).bind fun t684 => (if t684 < 0 then (some (-1)) else ((laws_heldStringS.f k l0_9 t684).bind fun t685 => (if t685 < 0 then (some (-1)) else ((laws_heldSizeS.f k l0_10 t685).bind fun t686 => (if t686 < 0 then (some (-1)) else (some t686))))))))))) = some r := h
  clear h
  replace H := Option.bind_eq_some_iff.mp H
  obtain ⟨t682, A30, H⟩ := H
  replace H : (if t682 < 0 then (some (-1)) else ((laws_heldHostS.f k l0_7 t682).bind fun t683 => (if t683 < 0 then (some (-1)) else ((laws_heldIntS.f k l0_8 t683).bind fun t684 => (if t684 < 0 then (some (-1)) else ((laws_heldStringS.f k l0_9 t684).bind fun t685 => (if t685 < 0 then (some (-1)) else ((laws_heldSizeS.f k l0_10 t685).bind fun t686 => (if t686 < 0 then (some (-1)) else (some t686)))))))))) = some r := H
  have A3 := Aside0.mk A30
  clear A30
  by_cases c4 : t682 < 0
  · rw [if_pos c4] at H
    have c4b0 : decide (t682 < 0) = true := decide_eq_true c4
    clear c4
    obtain rfl := Option.some.inj H
    go_enter Try.func45, Try.ntmps45
    go_wp2_with (first | ((with_reducible refine gate_dst (N := 2) rfl ?_); refine BX 2 #[.bool a0_0, .slice A0_1 l0_1.length c0_1, .int .i64 a0_2, .int .i64 a0_3, .slice A0_4 l0_4.length c0_4, .slice A0_5 l0_5.length c0_5, .int .i64 a0_6, .slice A0_7 l0_7.length c0_7, .slice A0_8 l0_8.length c0_8, .slice A0_9 l0_9.length c0_9, .slice A0_10 l0_10.length c0_10] 77 ?_; intro gb681 hg w5 hbox hb; have BK681 := Aside0.mk (hbox); have GW681 : Aside0 (w.heap.size ≤ gb681) := WG hg (BB HB.out); have GE681 := GW681; replace HB := Aside0.mk (below_step (BB HB.out) hb); clear hb hbox hg; have hcz6 := blk_cell BK681.out; have hfz6 := blk_frozen BK681.out) | ((with_reducible refine gate_callee (f := 29) rfl ?_); refine GL (some 8) rfl rfl Try.func29 #[.agg #[.bool a0_0, .slice A0_1 l0_1.length c0_1, .int .i64 a0_2, .int .i64 a0_3, .slice A0_4 l0_4.length c0_4, .slice A0_5 l0_5.length c0_5, .int .i64 a0_6], .int .i64 a1] rfl ?_; (with_reducible refine (laws_heldServer.calls k a0_0 _ _ l0_1 a0_2 a0_3 _ _ l0_4 _ _ l0_5 a0_6 a1 t682 _ ?side1 ?side2 ?side3 ?side4 ?side5 ?side6 A3.out).mono ?_); (case side1 => exact CC (Kd.C_below HR0_1.out HB.out)); (case side2 => exact HC0_1.out); (case side3 => exact CC (Kd.C_below HR0_4.out HB.out)); (case side4 => exact HC0_4.out); (case side5 => exact CC (Kd.C_below HR0_5.out HB.out)); (case side6 => exact HC0_5.out); rintro e w7 ⟨rfl, hb⟩; refine ⟨_, rfl, ?_⟩; replace BK681 := Aside0.mk (KB BK681.out hb); replace HB := Aside0.mk (below_step (BB1 HB.out GE681.out) hb); (try clear hb)))
    go_ret
    exact ⟨ER, (BB1 HB.out GE681.out)⟩
  · rw [if_neg c4] at H
    have c4b0 : decide (t682 < 0) = false := decide_eq_false c4
    clear c4
    replace H := Option.bind_eq_some_iff.mp H
    obtain ⟨t683, A80, H⟩ := H
    replace H : (if t683 < 0 then (some (-1)) else ((laws_heldIntS.f k l0_8 t683).bind fun t684 => (if t684 < 0 then (some (-1)) else ((laws_heldStringS.f k l0_9 t684).bind fun t685 => (if t685 < 0 then (some (-1)) else ((laws_heldSizeS.f k l0_10 t685).bind fun t686 => (if t686 < 0 then (some (-1)) else (some t686)))))))) = some r := H
    have A8 := Aside0.mk A80
    clear A80
    by_cases c9 : t683 < 0
    · rw [if_pos c9] at H
      have c9b0 : decide (t683 < 0) = true := decide_eq_true c9
      clear c9
      obtain rfl := Option.some.inj H
      go_enter Try.func45, Try.ntmps45
      go_wp2_with (first | ((with_reducible refine gate_dst (N := 2) rfl ?_); refine BX 2 #[.bool a0_0, .slice A0_1 l0_1.length c0_1, .int .i64 a0_2, .int .i64 a0_3, .slice A0_4 l0_4.length c0_4, .slice A0_5 l0_5.length c0_5, .int .i64 a0_6, .slice A0_7 l0_7.length c0_7, .slice A0_8 l0_8.length c0_8, .slice A0_9 l0_9.length c0_9, .slice A0_10 l0_10.length c0_10] 77 ?_; intro gb681 hg w10 hbox hb; have BK681 := Aside0.mk (hbox); have GW681 : Aside0 (w.heap.size ≤ gb681) := WG hg (BB HB.out); have GE681 := GW681; replace HB := Aside0.mk (below_step (BB HB.out) hb); clear hb hbox hg; have hcz11 := blk_cell BK681.out; have hfz11 := blk_frozen BK681.out) | ((with_reducible refine gate_callee (f := 29) rfl ?_); refine GL (some 8) rfl rfl Try.func29 #[.agg #[.bool a0_0, .slice A0_1 l0_1.length c0_1, .int .i64 a0_2, .int .i64 a0_3, .slice A0_4 l0_4.length c0_4, .slice A0_5 l0_5.length c0_5, .int .i64 a0_6], .int .i64 a1] rfl ?_; (with_reducible refine (laws_heldServer.calls k a0_0 _ _ l0_1 a0_2 a0_3 _ _ l0_4 _ _ l0_5 a0_6 a1 t682 _ ?side1 ?side2 ?side3 ?side4 ?side5 ?side6 A3.out).mono ?_); (case side1 => exact CC (Kd.C_below HR0_1.out HB.out)); (case side2 => exact HC0_1.out); (case side3 => exact CC (Kd.C_below HR0_4.out HB.out)); (case side4 => exact HC0_4.out); (case side5 => exact CC (Kd.C_below HR0_5.out HB.out)); (case side6 => exact HC0_5.out); rintro e w12 ⟨rfl, hb⟩; refine ⟨_, rfl, ?_⟩; replace BK681 := Aside0.mk (KB BK681.out hb); replace HB := Aside0.mk (below_step (BB1 HB.out GE681.out) hb); (try clear hb); have hcz13 := blk_cell BK681.out; have hfz13 := blk_frozen BK681.out) | ((with_reducible refine gate_callee (f := 89) rfl ?_); refine GL (some 14) rfl rfl Try.func89 #[.slice A0_7 l0_7.length c0_7, .int .i64 t682] rfl ?_; (with_reducible refine (laws_heldHostS.calls k _ _ l0_7 t682 t683 _ ?side1 ?side2 A8.out).mono ?_); (case side1 => exact CC (Kd.C_below HR0_7.out HB.out)); (case side2 => exact HC0_7.out); rintro e w14 ⟨rfl, hb⟩; refine ⟨_, rfl, ?_⟩; replace BK681 := Aside0.mk (KB BK681.out hb); replace HB := Aside0.mk (below_step (BB1 HB.out GE681.out) hb); (try clear hb)))
      go_ret
      exact ⟨ER, (BB1 HB.out GE681.out)⟩
    · rw [if_neg c9] at H
      have c9b0 : decide (t683 < 0) = false := decide_eq_false c9
      clear c9
      replace H := Option.bind_eq_some_iff.mp H
      obtain ⟨t684, A150, H⟩ := H
      replace H : (if t684 < 0 then (some (-1)) else ((laws_heldStringS.f k l0_9 t684).bind fun t685 => (if t685 < 0 then (some (-1)) else ((laws_heldSizeS.f k l0_10 t685).bind fun t686 => (if t686 < 0 then (some (-1)) else (some t686)))))) = some r := H
      have A15 := Aside0.mk A150
      clear A150
      by_cases c16 : t684 < 0
      · rw [if_pos c16] at H
        have c16b0 : decide (t684 < 0) = true := decide_eq_true c16
        clear c16
        obtain rfl := Option.some.inj H
        go_enter Try.func45, Try.ntmps45
        go_wp2_with (first | ((with_reducible refine gate_dst (N := 2) rfl ?_); refine BX 2 #[.bool a0_0, .slice A0_1 l0_1.length c0_1, .int .i64 a0_2, .int .i64 a0_3, .slice A0_4 l0_4.length c0_4, .slice A0_5 l0_5.length c0_5, .int .i64 a0_6, .slice A0_7 l0_7.length c0_7, .slice A0_8 l0_8.length c0_8, .slice A0_9 l0_9.length c0_9, .slice A0_10 l0_10.length c0_10] 77 ?_; intro gb681 hg w17 hbox hb; have BK681 := Aside0.mk (hbox); have GW681 : Aside0 (w.heap.size ≤ gb681) := WG hg (BB HB.out); have GE681 := GW681; replace HB := Aside0.mk (below_step (BB HB.out) hb); clear hb hbox hg; have hcz18 := blk_cell BK681.out; have hfz18 := blk_frozen BK681.out) | ((with_reducible refine gate_callee (f := 29) rfl ?_); refine GL (some 8) rfl rfl Try.func29 #[.agg #[.bool a0_0, .slice A0_1 l0_1.length c0_1, .int .i64 a0_2, .int .i64 a0_3, .slice A0_4 l0_4.length c0_4, .slice A0_5 l0_5.length c0_5, .int .i64 a0_6], .int .i64 a1] rfl ?_; (with_reducible refine (laws_heldServer.calls k a0_0 _ _ l0_1 a0_2 a0_3 _ _ l0_4 _ _ l0_5 a0_6 a1 t682 _ ?side1 ?side2 ?side3 ?side4 ?side5 ?side6 A3.out).mono ?_); (case side1 => exact CC (Kd.C_below HR0_1.out HB.out)); (case side2 => exact HC0_1.out); (case side3 => exact CC (Kd.C_below HR0_4.out HB.out)); (case side4 => exact HC0_4.out); (case side5 => exact CC (Kd.C_below HR0_5.out HB.out)); (case side6 => exact HC0_5.out); rintro e w19 ⟨rfl, hb⟩; refine ⟨_, rfl, ?_⟩; replace BK681 := Aside0.mk (KB BK681.out hb); replace HB := Aside0.mk (below_step (BB1 HB.out GE681.out) hb); (try clear hb); have hcz20 := blk_cell BK681.out; have hfz20 := blk_frozen BK681.out) | ((with_reducible refine gate_callee (f := 89) rfl ?_); refine GL (some 14) rfl rfl Try.func89 #[.slice A0_7 l0_7.length c0_7, .int .i64 t682] rfl ?_; (with_reducible refine (laws_heldHostS.calls k _ _ l0_7 t682 t683 _ ?side1 ?side2 A8.out).mono ?_); (case side1 => exact CC (Kd.C_below HR0_7.out HB.out)); (case side2 => exact HC0_7.out); rintro e w21 ⟨rfl, hb⟩; refine ⟨_, rfl, ?_⟩; replace BK681 := Aside0.mk (KB BK681.out hb); replace HB := Aside0.mk (below_step (BB1 HB.out GE681.out) hb); (try clear hb); have hcz22 := blk_cell BK681.out; have hfz22 := blk_frozen BK681.out) | ((with_reducible refine gate_callee (f := 34) rfl ?_); refine GL (some 20) rfl rfl Try.func34 #[.slice A0_8 l0_8.length c0_8, .int .i64 t683] rfl ?_; (with_reducible refine (laws_heldIntS.calls k _ _ l0_8 t683 t684 _ ?side1 ?side2 A15.out).mono ?_); (case side1 => exact CC (Kd.C_below HR0_8.out HB.out)); (case side2 => exact HC0_8.out); rintro e w' ⟨rfl, ⟨nd, rfl⟩⟩; refine ⟨_, rfl, ?_⟩))
        go_ret
        exact ⟨ER, (BB1 HB.out GE681.out)⟩
      · rw [if_neg c16] at H
        have c16b0 : decide (t684 < 0) = false := decide_eq_false c16
        clear c16
        replace H := Option.bind_eq_some_iff.mp H
        obtain ⟨t685, A230, H⟩ := H
        replace H : (if t685 < 0 then (some (-1)) else ((laws_heldSizeS.f k l0_10 t685).bind fun t686 => (if t686 < 0 then (some (-1)) else (some t686)))) = some r := H
        have A23 := Aside0.mk A230
        clear A230
        by_cases c24 : t685 < 0
        · rw [if_pos c24] at H
          have c24b0 : decide (t685 < 0) = true := decide_eq_true c24
          clear c24
          obtain rfl := Option.some.inj H
          go_enter Try.func45, Try.ntmps45
          go_wp2_with (first | ((with_reducible refine gate_dst (N := 2) rfl ?_); refine BX 2 #[.bool a0_0, .slice A0_1 l0_1.length c0_1, .int .i64 a0_2, .int .i64 a0_3, .slice A0_4 l0_4.length c0_4, .slice A0_5 l0_5.length c0_5, .int .i64 a0_6, .slice A0_7 l0_7.length c0_7, .slice A0_8 l0_8.length c0_8, .slice A0_9 l0_9.length c0_9, .slice A0_10 l0_10.length c0_10] 77 ?_; intro gb681 hg w25 hbox hb; have BK681 := Aside0.mk (hbox); have GW681 : Aside0 (w.heap.size ≤ gb681) := WG hg (BB HB.out); have GE681 := GW681; replace HB := Aside0.mk (below_step (BB HB.out) hb); clear hb hbox hg; have hcz26 := blk_cell BK681.out; have hfz26 := blk_frozen BK681.out) | ((with_reducible refine gate_callee (f := 29) rfl ?_); refine GL (some 8) rfl rfl Try.func29 #[.agg #[.bool a0_0, .slice A0_1 l0_1.length c0_1, .int .i64 a0_2, .int .i64 a0_3, .slice A0_4 l0_4.length c0_4, .slice A0_5 l0_5.length c0_5, .int .i64 a0_6], .int .i64 a1] rfl ?_; (with_reducible refine (laws_heldServer.calls k a0_0 _ _ l0_1 a0_2 a0_3 _ _ l0_4 _ _ l0_5 a0_6 a1 t682 _ ?side1 ?side2 ?side3 ?side4 ?side5 ?side6 A3.out).mono ?_); (case side1 => exact CC (Kd.C_below HR0_1.out HB.out)); (case side2 => exact HC0_1.out); (case side3 => exact CC (Kd.C_below HR0_4.out HB.out)); (case side4 => exact HC0_4.out); (case side5 => exact CC (Kd.C_below HR0_5.out HB.out)); (case side6 => exact HC0_5.out); rintro e w27 ⟨rfl, hb⟩; refine ⟨_, rfl, ?_⟩; replace BK681 := Aside0.mk (KB BK681.out hb); replace HB := Aside0.mk (below_step (BB1 HB.out GE681.out) hb); (try clear hb); have hcz28 := blk_cell BK681.out; have hfz28 := blk_frozen BK681.out) | ((with_reducible refine gate_callee (f := 89) rfl ?_); refine GL (some 14) rfl rfl Try.func89 #[.slice A0_7 l0_7.length c0_7, .int .i64 t682] rfl ?_; (with_reducible refine (laws_heldHostS.calls k _ _ l0_7 t682 t683 _ ?side1 ?side2 A8.out).mono ?_); (case side1 => exact CC (Kd.C_below HR0_7.out HB.out)); (case side2 => exact HC0_7.out); rintro e w29 ⟨rfl, hb⟩; refine ⟨_, rfl, ?_⟩; replace BK681 := Aside0.mk (KB BK681.out hb); replace HB := Aside0.mk (below_step (BB1 HB.out GE681.out) hb); (try clear hb); have hcz30 := blk_cell BK681.out; have hfz30 := blk_frozen BK681.out) | ((with_reducible refine gate_callee (f := 34) rfl ?_); refine GL (some 20) rfl rfl Try.func34 #[.slice A0_8 l0_8.length c0_8, .int .i64 t683] rfl ?_; (with_reducible refine (laws_heldIntS.calls k _ _ l0_8 t683 t684 _ ?side1 ?side2 A15.out).mono ?_); (case side1 => exact CC (Kd.C_below HR0_8.out HB.out)); (case side2 => exact HC0_8.out); rintro e w' ⟨rfl, ⟨nd, rfl⟩⟩; refine ⟨_, rfl, ?_⟩) | ((with_reducible refine gate_callee (f := 23) rfl ?_); refine GL (some 26) rfl rfl Try.func23 #[.slice A0_9 l0_9.length c0_9, .int .i64 t684] rfl ?_; (with_reducible refine (laws_heldStringS.calls k _ _ l0_9 t684 t685 _ ?side1 ?side2 A23.out).mono ?_); (case side1 => repeat (first | exact (Kd.C_below HR0_9.out (BB1 HB.out GE681.out)) | (with_reducible refine Kd.C_alloc ?_ _) | (with_reducible refine Kd.C_drewN ?_ _) | (with_reducible refine Kd.C_drew ?_))); (case side2 => exact HC0_9.out); rintro e w31 ⟨rfl, hb⟩; refine ⟨_, rfl, ?_⟩; replace BK681 := Aside0.mk (KB BK681.out hb); replace HB := Aside0.mk (below_step (BB1 HB.out GE681.out) hb); (try clear hb)))
          go_ret
          exact ⟨ER, (BB1 HB.out GE681.out)⟩
        · rw [if_neg c24] at H
          have c24b0 : decide (t685 < 0) = false := decide_eq_false c24
          clear c24
          replace H := Option.bind_eq_some_iff.mp H
          obtain ⟨t686, A320, H⟩ := H
          replace H : (if t686 < 0 then (some (-1)) else (some t686)) = some r := H
          have A32 := Aside0.mk A320
          clear A320
          by_cases c33 : t686 < 0
          · rw [if_pos c33] at H
            have c33b0 : decide (t686 < 0) = true := decide_eq_true c33
            clear c33
            obtain rfl := Option.some.inj H
            go_enter Try.func45, Try.ntmps45
            go_wp2_with (first | ((with_reducible refine gate_dst (N := 2) rfl ?_); refine BX 2 #[.bool a0_0, .slice A0_1 l0_1.length c0_1, .int .i64 a0_2, .int .i64 a0_3, .slice A0_4 l0_4.length c0_4, .slice A0_5 l0_5.length c0_5, .int .i64 a0_6, .slice A0_7 l0_7.length c0_7, .slice A0_8 l0_8.length c0_8, .slice A0_9 l0_9.length c0_9, .slice A0_10 l0_10.length c0_10] 77 ?_; intro gb681 hg w34 hbox hb; have BK681 := Aside0.mk (hbox); have GW681 : Aside0 (w.heap.size ≤ gb681) := WG hg (BB HB.out); have GE681 := GW681; replace HB := Aside0.mk (below_step (BB HB.out) hb); clear hb hbox hg; have hcz35 := blk_cell BK681.out; have hfz35 := blk_frozen BK681.out) | ((with_reducible refine gate_callee (f := 29) rfl ?_); refine GL (some 8) rfl rfl Try.func29 #[.agg #[.bool a0_0, .slice A0_1 l0_1.length c0_1, .int .i64 a0_2, .int .i64 a0_3, .slice A0_4 l0_4.length c0_4, .slice A0_5 l0_5.length c0_5, .int .i64 a0_6], .int .i64 a1] rfl ?_; (with_reducible refine (laws_heldServer.calls k a0_0 _ _ l0_1 a0_2 a0_3 _ _ l0_4 _ _ l0_5 a0_6 a1 t682 _ ?side1 ?side2 ?side3 ?side4 ?side5 ?side6 A3.out).mono ?_); (case side1 => exact CC (Kd.C_below HR0_1.out HB.out)); (case side2 => exact HC0_1.out); (case side3 => exact CC (Kd.C_below HR0_4.out HB.out)); (case side4 => exact HC0_4.out); (case side5 => exact CC (Kd.C_below HR0_5.out HB.out)); (case side6 => exact HC0_5.out); rintro e w36 ⟨rfl, hb⟩; refine ⟨_, rfl, ?_⟩; replace BK681 := Aside0.mk (KB BK681.out hb); replace HB := Aside0.mk (below_step (BB1 HB.out GE681.out) hb); (try clear hb); have hcz37 := blk_cell BK681.out; have hfz37 := blk_frozen BK681.out) | ((with_reducible refine gate_callee (f := 89) rfl ?_); refine GL (some 14) rfl rfl Try.func89 #[.slice A0_7 l0_7.length c0_7, .int .i64 t682] rfl ?_; (with_reducible refine (laws_heldHostS.calls k _ _ l0_7 t682 t683 _ ?side1 ?side2 A8.out).mono ?_); (case side1 => exact CC (Kd.C_below HR0_7.out HB.out)); (case side2 => exact HC0_7.out); rintro e w38 ⟨rfl, hb⟩; refine ⟨_, rfl, ?_⟩; replace BK681 := Aside0.mk (KB BK681.out hb); replace HB := Aside0.mk (below_step (BB1 HB.out GE681.out) hb); (try clear hb); have hcz39 := blk_cell BK681.out; have hfz39 := blk_frozen BK681.out) | ((with_reducible refine gate_callee (f := 34) rfl ?_); refine GL (some 20) rfl rfl Try.func34 #[.slice A0_8 l0_8.length c0_8, .int .i64 t683] rfl ?_; (with_reducible refine (laws_heldIntS.calls k _ _ l0_8 t683 t684 _ ?side1 ?side2 A15.out).mono ?_); (case side1 => exact CC (Kd.C_below HR0_8.out HB.out)); (case side2 => exact HC0_8.out); rintro e w' ⟨rfl, ⟨nd, rfl⟩⟩; refine ⟨_, rfl, ?_⟩) | ((with_reducible refine gate_callee (f := 23) rfl ?_); refine GL (some 26) rfl rfl Try.func23 #[.slice A0_9 l0_9.length c0_9, .int .i64 t684] rfl ?_; (with_reducible refine (laws_heldStringS.calls k _ _ l0_9 t684 t685 _ ?side1 ?side2 A23.out).mono ?_); (case side1 => repeat (first | exact (Kd.C_below HR0_9.out (BB1 HB.out GE681.out)) | (with_reducible refine Kd.C_alloc ?_ _) | (with_reducible refine Kd.C_drewN ?_ _) | (with_reducible refine Kd.C_drew ?_))); (case side2 => exact HC0_9.out); rintro e w40 ⟨rfl, hb⟩; refine ⟨_, rfl, ?_⟩; replace BK681 := Aside0.mk (KB BK681.out hb); replace HB := Aside0.mk (below_step (BB1 HB.out GE681.out) hb); (try clear hb); have hcz41 := blk_cell BK681.out; have hfz41 := blk_frozen BK681.out) | ((with_reducible refine gate_callee (f := 90) rfl ?_); refine GL (some 32) rfl rfl Try.func90 #[.slice A0_10 l0_10.length c0_10, .int .i64 t685] rfl ?_; (with_reducible refine (laws_heldSizeS.calls k _ _ l0_10 t685 t686 _ ?side1 ?side2 A32.out).mono ?_); (case side1 => exact CC (Kd.C_below HR0_10.out HB.out)); (case side2 => exact HC0_10.out); rintro e w42 ⟨rfl, hb⟩; refine ⟨_, rfl, ?_⟩; replace BK681 := Aside0.mk (KB BK681.out hb); replace HB := Aside0.mk (below_step (BB1 HB.out GE681.out) hb); (try clear hb)))
            go_ret
            exact ⟨ER, (BB1 HB.out GE681.out)⟩
          · rw [if_neg c33] at H
            have c33b0 : decide (t686 < 0) = false := decide_eq_false c33
            clear c33
            obtain rfl := Option.some.inj H
            go_enter Try.func45, Try.ntmps45
            go_wp2_with (first | ((with_reducible refine gate_dst (N := 2) rfl ?_); refine BX 2 #[.bool a0_0, .slice A0_1 l0_1.length c0_1, .int .i64 a0_2, .int .i64 a0_3, .slice A0_4 l0_4.length c0_4, .slice A0_5 l0_5.length c0_5, .int .i64 a0_6, .slice A0_7 l0_7.length c0_7, .slice A0_8 l0_8.length c0_8, .slice A0_9 l0_9.length c0_9, .slice A0_10 l0_10.length c0_10] 77 ?_; intro gb681 hg w43 hbox hb; have BK681 := Aside0.mk (hbox); have GW681 : Aside0 (w.heap.size ≤ gb681) := WG hg (BB HB.out); have GE681 := GW681; replace HB := Aside0.mk (below_step (BB HB.out) hb); clear hb hbox hg; have hcz44 := blk_cell BK681.out; have hfz44 := blk_frozen BK681.out) | ((with_reducible refine gate_callee (f := 29) rfl ?_); refine GL (some 8) rfl rfl Try.func29 #[.agg #[.bool a0_0, .slice A0_1 l0_1.length c0_1, .int .i64 a0_2, .int .i64 a0_3, .slice A0_4 l0_4.length c0_4, .slice A0_5 l0_5.length c0_5, .int .i64 a0_6], .int .i64 a1] rfl ?_; (with_reducible refine (laws_heldServer.calls k a0_0 _ _ l0_1 a0_2 a0_3 _ _ l0_4 _ _ l0_5 a0_6 a1 t682 _ ?side1 ?side2 ?side3 ?side4 ?side5 ?side6 A3.out).mono ?_); (case side1 => exact CC (Kd.C_below HR0_1.out HB.out)); (case side2 => exact HC0_1.out); (case side3 => exact CC (Kd.C_below HR0_4.out HB.out)); (case side4 => exact HC0_4.out); (case side5 => exact CC (Kd.C_below HR0_5.out HB.out)); (case side6 => exact HC0_5.out); rintro e w45 ⟨rfl, hb⟩; refine ⟨_, rfl, ?_⟩; replace BK681 := Aside0.mk (KB BK681.out hb); replace HB := Aside0.mk (below_step (BB1 HB.out GE681.out) hb); (try clear hb); have hcz46 := blk_cell BK681.out; have hfz46 := blk_frozen BK681.out) | ((with_reducible refine gate_callee (f := 89) rfl ?_); refine GL (some 14) rfl rfl Try.func89 #[.slice A0_7 l0_7.length c0_7, .int .i64 t682] rfl ?_; (with_reducible refine (laws_heldHostS.calls k _ _ l0_7 t682 t683 _ ?side1 ?side2 A8.out).mono ?_); (case side1 => exact CC (Kd.C_below HR0_7.out HB.out)); (case side2 => exact HC0_7.out); rintro e w47 ⟨rfl, hb⟩; refine ⟨_, rfl, ?_⟩; replace BK681 := Aside0.mk (KB BK681.out hb); replace HB := Aside0.mk (below_step (BB1 HB.out GE681.out) hb); (try clear hb); have hcz48 := blk_cell BK681.out; have hfz48 := blk_frozen BK681.out) | ((with_reducible refine gate_callee (f := 34) rfl ?_); refine GL (some 20) rfl rfl Try.func34 #[.slice A0_8 l0_8.length c0_8, .int .i64 t683] rfl ?_; (with_reducible refine (laws_heldIntS.calls k _ _ l0_8 t683 t684 _ ?side1 ?side2 A15.out).mono ?_); (case side1 => exact CC (Kd.C_below HR0_8.out HB.out)); (case side2 => exact HC0_8.out); rintro e w' ⟨rfl, ⟨nd, rfl⟩⟩; refine ⟨_, rfl, ?_⟩) | ((with_reducible refine gate_callee (f := 23) rfl ?_); refine GL (some 26) rfl rfl Try.func23 #[.slice A0_9 l0_9.length c0_9, .int .i64 t684] rfl ?_; (with_reducible refine (laws_heldStringS.calls k _ _ l0_9 t684 t685 _ ?side1 ?side2 A23.out).mono ?_); (case side1 => repeat (first | exact (Kd.C_below HR0_9.out (BB1 HB.out GE681.out)) | (with_reducible refine Kd.C_alloc ?_ _) | (with_reducible refine Kd.C_drewN ?_ _) | (with_reducible refine Kd.C_drew ?_))); (case side2 => exact HC0_9.out); rintro e w49 ⟨rfl, hb⟩; refine ⟨_, rfl, ?_⟩; replace BK681 := Aside0.mk (KB BK681.out hb); replace HB := Aside0.mk (below_step (BB1 HB.out GE681.out) hb); (try clear hb); have hcz50 := blk_cell BK681.out; have hfz50 := blk_frozen BK681.out) | ((with_reducible refine gate_callee (f := 90) rfl ?_); refine GL (some 32) rfl rfl Try.func90 #[.slice A0_10 l0_10.length c0_10, .int .i64 t685] rfl ?_; (with_reducible refine (laws_heldSizeS.calls k _ _ l0_10 t685 t686 _ ?side1 ?side2 A32.out).mono ?_); (case side1 => exact CC (Kd.C_below HR0_10.out HB.out)); (case side2 => exact HC0_10.out); rintro e w51 ⟨rfl, hb⟩; refine ⟨_, rfl, ?_⟩; replace BK681 := Aside0.mk (KB BK681.out hb); replace HB := Aside0.mk (below_step (BB1 HB.out GE681.out) hb); (try clear hb)))
            go_ret
            exact ⟨ER, (BB1 HB.out GE681.out)⟩

end Go.Proofs.Ytfgnaneajonapaa.Pr

namespace Go.Proofs.Ytfgnaneajonapaa.Pure
open Go.RowKit Go.Proofs.YtfgnaneajonapaaW.PrintWords Go.Proofs.YtfgnaneajonapaaW.PrintLast Go.Proofs.YtfgnaneajonapaaW.PrintMore Go.Proofs.Ytfgnaneajonapaa.Pr Go.Proofs.Ytfgnaneajonapaa.Evs Go.Proofs.Ytfgnaneajonapaa.Lw Go.Proofs.Ytfgnaneajonapaa.SFnExactWorldNew Go.Proofs.Ytfgnaneajonapaa.Pu
set_option linter.unusedVariables false
set_option linter.unusedSimpArgs false
theorem box_cell {w : World} {b : Nat} {cs : Array Value} {t : TypeId} {f : Nat × Nat} (h : w.heap[b]? = some (.cells cs t f)) (j : Nat) {v : Value} (hv : cs[j]? = some v) : w.cell? ⟨b, j, none⟩ = some v := by simp [World.cell?, h, hv]
set_option maxHeartbeats 16000000 in
set_option maxRecDepth 100000 in
theorem worldNew_walk (L1 : List S135) (L4 : List S192) (L5 : List S120) (L7 : List S97) (L8 : List Int) (L9 : List ByteArray) (L0 : List S168) (qS qI qq qh : Nat) (hS : spec_WorldNew.f qS = some (true, L1, 2, 1, L4, L5, 0, L7, L8, L9, L0)) (hI : impl_WorldNew.f qI = some (true, L1, 2, 1, L4, L5, 0, L7, L8, L9, L0)) (hq : laws_eqWorld.f qq true L1 2 1 L4 L5 0 L7 L8 L9 L0 true L1 2 1 L4 L5 0 L7 L8 L9 L0 = some true)
    (M1 : List S135) (M4 : List S192) (M5 : List S120) (M7 : List S97) (M8 : List Int) (M9 : List ByteArray) (M0 : List S168) (n2 n3 n4 n5 R : Int) (e1 : M1 = mkInodeS L1 1) (e4 : M4 = mkFileS L4 (1 + cntInodeS L1)) (e5 : M5 = mkLeaseS L5 (1 + cntInodeS L1 + 3 * (L4.length : Int))) (e2 : n2 = 1 + cntInodeS L1 + 3 * (L4.length : Int) + 3 * (L5.length : Int)) (hcnt : 1 + cntInodeS L1 + 3 * (L4.length : Int) + 3 * (L5.length : Int) < 9223372036854775000)
    (g2 : 0 ≤ n2) (b2 : n2 + cntHostS L7 < 9223372036854775000) (e3 : n3 = n2 + cntHostS L7) (e7 : M7 = mkHostS L7 n2) (hm8 : Ev (fun k => laws_markIntS.f k L8 n3) (n4, M8)) (hm9 : Ev (fun k => laws_markStringS.f k L9 n4) (n5, M9)) (hm0 : Ev (fun k => laws_markSizeS.f k L0 n5) (R, M0))
    (hR : 0 ≤ R) (hh : laws_heldWorld.f qh true M1 2 1 M4 M5 0 M7 M8 M9 M0 1 = some R) : SFnExactWorldNew.Direct := by
  intro w
  have hd : decide (R < 0) = false := decide_eq_false (by omega)
  clear hR
  have E1 := Aside0.mk e1
  have E4 := Aside0.mk e4
  have E5 := Aside0.mk e5
  have E2 := Aside0.mk e2
  have E3 := Aside0.mk e3
  have E7 := Aside0.mk e7
  have HCN := Aside0.mk hcnt
  have B2 := Aside0.mk b2
  have G2 := Aside0.mk g2
  have HM8 := Aside0.mk hm8
  have HM9 := Aside0.mk hm9
  have HM0 := Aside0.mk hm0
  clear e1 e4 e5 e2 e3 e7 hcnt b2 g2 hm8 hm9 hm0
  go_enter Try.func8, Try.ntmps8
  have HB := Aside0.mk (Below.refl w.heap.size w)
  go_wp2_with fail
  refine (spec_WorldNew.calls qS true L1 2 1 L4 L5 0 L7 L8 L9 L0 w hS).mono ?_
  rintro e w1 ⟨v1, v4, v5, v7, v8, v9, v0, rfl, o1, o4, o5, o7, o8, o9, o0, hb⟩
  obtain ⟨Ax1, cx1, rfl⟩ := Kd.S_slice o1
  obtain ⟨Ax4, cx4, rfl⟩ := Kd.R_slice o4
  obtain ⟨Ax5, cx5, rfl⟩ := Kd.R_slice o5
  obtain ⟨Ax7, cx7, rfl⟩ := Kd.S_slice o7
  obtain ⟨Ax8, cx8, rfl⟩ := Kd.R_slice o8
  obtain ⟨Ax9, cx9, rfl⟩ := Kd.R_slice o9
  obtain ⟨Ax0, cx0, rfl⟩ := Kd.R_slice o0
  have Hx1 := Aside0.mk (Kd.S_lower (Kd.S_mono (Kd.S_bound o1) (ok' := (fun k_ => (w.heap.size ≤ k_ ∧ k_ < w1.heap.size) ∧ ∃ q, q ∈ 135 :: Kd.E (k135) ∧ ∃ cells, w1.heap[k_]? = some (.cells cells q (0, 0)))) (fun k hk => ⟨⟨hk.2.1, hk.2.2.1⟩, hk.2.2.2⟩)) HB.out.size)
  have Hx4 := Aside0.mk (Kd.R_lower (Kd.R_mono (Kd.R_bound o4) (ok' := (fun k_ => (w.heap.size ≤ k_ ∧ k_ < w1.heap.size) ∧ ∃ q, q ∈ 192 :: Kd.E (k192) ∧ ∃ cells, w1.heap[k_]? = some (.cells cells q (0, 0)))) (fun k hk => ⟨⟨hk.2.1, hk.2.2.1⟩, hk.2.2.2⟩)) HB.out.size)
  have Hx5 := Aside0.mk (Kd.R_lower (Kd.R_mono (Kd.R_bound o5) (ok' := (fun k_ => (w.heap.size ≤ k_ ∧ k_ < w1.heap.size) ∧ ∃ q, q ∈ 120 :: Kd.E (k120) ∧ ∃ cells, w1.heap[k_]? = some (.cells cells q (0, 0)))) (fun k hk => ⟨⟨hk.2.1, hk.2.2.1⟩, hk.2.2.2⟩)) HB.out.size)
  have Hx7 := Aside0.mk (Kd.S_lower (Kd.S_mono (Kd.S_bound o7) (ok' := (fun k_ => (w.heap.size ≤ k_ ∧ k_ < w1.heap.size) ∧ ∃ q, q ∈ 97 :: Kd.E (k97) ∧ ∃ cells, w1.heap[k_]? = some (.cells cells q (0, 0)))) (fun k hk => ⟨⟨hk.2.1, hk.2.2.1⟩, hk.2.2.2⟩)) HB.out.size)
  have Hx8 := Aside0.mk (Kd.R_lower (Kd.R_mono (Kd.R_bound o8) (ok' := (fun k_ => (w.heap.size ≤ k_ ∧ k_ < w1.heap.size) ∧ ∃ q, q ∈ 3 :: Kd.E ((Kd.int .i64)) ∧ ∃ cells, w1.heap[k_]? = some (.cells cells q (0, 0)))) (fun k hk => ⟨⟨hk.2.1, hk.2.2.1⟩, hk.2.2.2⟩)) HB.out.size)
  have Hx9 := Aside0.mk (Kd.R_lower (Kd.R_mono (Kd.R_bound o9) (ok' := (fun k_ => (w.heap.size ≤ k_ ∧ k_ < w1.heap.size) ∧ ∃ q, q ∈ 9 :: Kd.E (Kd.string) ∧ ∃ cells, w1.heap[k_]? = some (.cells cells q (0, 0)))) (fun k hk => ⟨⟨hk.2.1, hk.2.2.1⟩, hk.2.2.2⟩)) HB.out.size)
  have Hx0 := Aside0.mk (Kd.R_lower (Kd.R_mono (Kd.R_bound o0) (ok' := (fun k_ => (w.heap.size ≤ k_ ∧ k_ < w1.heap.size) ∧ ∃ q, q ∈ 168 :: Kd.E (k168) ∧ ∃ cells, w1.heap[k_]? = some (.cells cells q (0, 0)))) (fun k hk => ⟨⟨hk.2.1, hk.2.2.1⟩, hk.2.2.2⟩)) HB.out.size)
  have HZw1 := Aside0.mk hb.size
  replace HB := Aside0.mk (HB.out.trans (hb.mono HB.out.size))
  clear hb o1 o4 o5 o7 o8 o9 o0
  go_wp2_with fail
  obtain ⟨w2, hw⟩ : ∃ w_, w_ = w1.alloc (.cells #[.bool true, .slice Ax1 L1.length cx1, .int .i64 2, .int .i64 1, .slice Ax4 L4.length cx4, .slice Ax5 L5.length cx5, .int .i64 0, .slice Ax7 L7.length cx7, .slice Ax8 L8.length cx8, .slice Ax9 L9.length cx9, .slice Ax0 L0.length cx0] 77) := ⟨_, rfl⟩
  rw [← hw]
  have hb : Below w1.heap.size w1 w2 := hw ▸ (Below.refl w1.heap.size w1).alloc (Nat.le_refl _) _
  have Bx := Aside0.mk (show w2.heap[w1.heap.size]? = some (.cells #[.bool true, .slice Ax1 L1.length cx1, .int .i64 2, .int .i64 1, .slice Ax4 L4.length cx4, .slice Ax5 L5.length cx5, .int .i64 0, .slice Ax7 L7.length cx7, .slice Ax8 L8.length cx8, .slice Ax9 L9.length cx9, .slice Ax0 L0.length cx0] 77 (0, 0)) by rw [hw]; exact Array.getElem?_push_size)
  have Lx := Aside0.mk (show w1.heap.size < w2.heap.size by rw [hw]; exact Nat.lt_of_lt_of_eq (Nat.lt_succ_self _) (Array.size_push _).symm)
  replace Hx1 := Aside0.mk (Kd.S_below Hx1.out hb)
  replace Hx4 := Aside0.mk (Kd.R_below Hx4.out hb)
  replace Hx5 := Aside0.mk (Kd.R_below Hx5.out hb)
  replace Hx7 := Aside0.mk (Kd.S_below Hx7.out hb)
  replace Hx8 := Aside0.mk (Kd.R_below Hx8.out hb)
  replace Hx9 := Aside0.mk (Kd.R_below Hx9.out hb)
  replace Hx0 := Aside0.mk (Kd.R_below Hx0.out hb)
  have HZw2 := Aside0.mk hb.size
  replace HB := Aside0.mk (HB.out.trans (hb.mono HB.out.size))
  clear hb hw
  refine (impl_WorldNew.calls qI true L1 2 1 L4 L5 0 L7 L8 L9 L0 w2 hI).mono ?_
  rintro e w3 ⟨v1, v4, v5, v7, v8, v9, v0, rfl, o1, o4, o5, o7, o8, o9, o0, hb⟩
  obtain ⟨Ay1, cy1, rfl⟩ := Kd.S_slice o1
  obtain ⟨Ay4, cy4, rfl⟩ := Kd.R_slice o4
  obtain ⟨Ay5, cy5, rfl⟩ := Kd.R_slice o5
  obtain ⟨Ay7, cy7, rfl⟩ := Kd.S_slice o7
  obtain ⟨Ay8, cy8, rfl⟩ := Kd.R_slice o8
  obtain ⟨Ay9, cy9, rfl⟩ := Kd.R_slice o9
  obtain ⟨Ay0, cy0, rfl⟩ := Kd.R_slice o0
  have Hy1 := Aside0.mk (Kd.S_lower (Kd.S_mono (Kd.S_bound o1) (ok' := (fun k_ => (w2.heap.size ≤ k_ ∧ k_ < w3.heap.size) ∧ ∃ q, q ∈ 135 :: Kd.E (k135) ∧ ∃ cells, w3.heap[k_]? = some (.cells cells q (0, 0)))) (fun k hk => ⟨⟨hk.2.1, hk.2.2.1⟩, hk.2.2.2⟩)) HB.out.size)
  have Hy4 := Aside0.mk (Kd.R_lower (Kd.R_mono (Kd.R_bound o4) (ok' := (fun k_ => (w2.heap.size ≤ k_ ∧ k_ < w3.heap.size) ∧ ∃ q, q ∈ 192 :: Kd.E (k192) ∧ ∃ cells, w3.heap[k_]? = some (.cells cells q (0, 0)))) (fun k hk => ⟨⟨hk.2.1, hk.2.2.1⟩, hk.2.2.2⟩)) HB.out.size)
  have Hy5 := Aside0.mk (Kd.R_lower (Kd.R_mono (Kd.R_bound o5) (ok' := (fun k_ => (w2.heap.size ≤ k_ ∧ k_ < w3.heap.size) ∧ ∃ q, q ∈ 120 :: Kd.E (k120) ∧ ∃ cells, w3.heap[k_]? = some (.cells cells q (0, 0)))) (fun k hk => ⟨⟨hk.2.1, hk.2.2.1⟩, hk.2.2.2⟩)) HB.out.size)
  have Hy7 := Aside0.mk (Kd.S_lower (Kd.S_mono (Kd.S_bound o7) (ok' := (fun k_ => (w2.heap.size ≤ k_ ∧ k_ < w3.heap.size) ∧ ∃ q, q ∈ 97 :: Kd.E (k97) ∧ ∃ cells, w3.heap[k_]? = some (.cells cells q (0, 0)))) (fun k hk => ⟨⟨hk.2.1, hk.2.2.1⟩, hk.2.2.2⟩)) HB.out.size)
  have Hy8 := Aside0.mk (Kd.R_lower (Kd.R_mono (Kd.R_bound o8) (ok' := (fun k_ => (w2.heap.size ≤ k_ ∧ k_ < w3.heap.size) ∧ ∃ q, q ∈ 3 :: Kd.E ((Kd.int .i64)) ∧ ∃ cells, w3.heap[k_]? = some (.cells cells q (0, 0)))) (fun k hk => ⟨⟨hk.2.1, hk.2.2.1⟩, hk.2.2.2⟩)) HB.out.size)
  have Hy9 := Aside0.mk (Kd.R_lower (Kd.R_mono (Kd.R_bound o9) (ok' := (fun k_ => (w2.heap.size ≤ k_ ∧ k_ < w3.heap.size) ∧ ∃ q, q ∈ 9 :: Kd.E (Kd.string) ∧ ∃ cells, w3.heap[k_]? = some (.cells cells q (0, 0)))) (fun k hk => ⟨⟨hk.2.1, hk.2.2.1⟩, hk.2.2.2⟩)) HB.out.size)
  have Hy0 := Aside0.mk (Kd.R_lower (Kd.R_mono (Kd.R_bound o0) (ok' := (fun k_ => (w2.heap.size ≤ k_ ∧ k_ < w3.heap.size) ∧ ∃ q, q ∈ 168 :: Kd.E (k168) ∧ ∃ cells, w3.heap[k_]? = some (.cells cells q (0, 0)))) (fun k hk => ⟨⟨hk.2.1, hk.2.2.1⟩, hk.2.2.2⟩)) HB.out.size)
  replace Bx := Aside0.mk ((hb.block _ (by have := HZw1.out; have := HZw2.out; have := Lx.out; omega)).trans Bx.out)
  replace Hx1 := Aside0.mk (Kd.S_below Hx1.out hb)
  replace Hx4 := Aside0.mk (Kd.R_below Hx4.out hb)
  replace Hx5 := Aside0.mk (Kd.R_below Hx5.out hb)
  replace Hx7 := Aside0.mk (Kd.S_below Hx7.out hb)
  replace Hx8 := Aside0.mk (Kd.R_below Hx8.out hb)
  replace Hx9 := Aside0.mk (Kd.R_below Hx9.out hb)
  replace Hx0 := Aside0.mk (Kd.R_below Hx0.out hb)
  have HZw3 := Aside0.mk hb.size
  replace HB := Aside0.mk (HB.out.trans (hb.mono HB.out.size))
  clear hb o1 o4 o5 o7 o8 o9 o0
  have fx0 : w3.cell? ⟨w1.heap.size, 0, none⟩ = some (.bool true) := box_cell Bx.out 0 rfl
  have fx1 : w3.cell? ⟨w1.heap.size, 1, none⟩ = some (.slice Ax1 L1.length cx1) := box_cell Bx.out 1 rfl
  have fx2 : w3.cell? ⟨w1.heap.size, 2, none⟩ = some (.int .i64 2) := box_cell Bx.out 2 rfl
  have fx3 : w3.cell? ⟨w1.heap.size, 3, none⟩ = some (.int .i64 1) := box_cell Bx.out 3 rfl
  have fx4 : w3.cell? ⟨w1.heap.size, 4, none⟩ = some (.slice Ax4 L4.length cx4) := box_cell Bx.out 4 rfl
  have fx5 : w3.cell? ⟨w1.heap.size, 5, none⟩ = some (.slice Ax5 L5.length cx5) := box_cell Bx.out 5 rfl
  have fx6 : w3.cell? ⟨w1.heap.size, 6, none⟩ = some (.int .i64 0) := box_cell Bx.out 6 rfl
  have fx7 : w3.cell? ⟨w1.heap.size, 7, none⟩ = some (.slice Ax7 L7.length cx7) := box_cell Bx.out 7 rfl
  have fx8 : w3.cell? ⟨w1.heap.size, 8, none⟩ = some (.slice Ax8 L8.length cx8) := box_cell Bx.out 8 rfl
  have fx9 : w3.cell? ⟨w1.heap.size, 9, none⟩ = some (.slice Ax9 L9.length cx9) := box_cell Bx.out 9 rfl
  have fx10 : w3.cell? ⟨w1.heap.size, 10, none⟩ = some (.slice Ax0 L0.length cx0) := box_cell Bx.out 10 rfl
  have lx : w1.heap.size < w3.heap.size := by have := HZw1.out; have := HZw2.out; have := Lx.out; have := HZw3.out; omega
  go_wp2_with fail
  obtain ⟨w4, hw⟩ : ∃ w_, w_ = w3.alloc (.cells #[.bool true, .slice Ay1 L1.length cy1, .int .i64 2, .int .i64 1, .slice Ay4 L4.length cy4, .slice Ay5 L5.length cy5, .int .i64 0, .slice Ay7 L7.length cy7, .slice Ay8 L8.length cy8, .slice Ay9 L9.length cy9, .slice Ay0 L0.length cy0] 77) := ⟨_, rfl⟩
  rw [← hw]
  have hb : Below w3.heap.size w3 w4 := hw ▸ (Below.refl w3.heap.size w3).alloc (Nat.le_refl _) _
  have By := Aside0.mk (show w4.heap[w3.heap.size]? = some (.cells #[.bool true, .slice Ay1 L1.length cy1, .int .i64 2, .int .i64 1, .slice Ay4 L4.length cy4, .slice Ay5 L5.length cy5, .int .i64 0, .slice Ay7 L7.length cy7, .slice Ay8 L8.length cy8, .slice Ay9 L9.length cy9, .slice Ay0 L0.length cy0] 77 (0, 0)) by rw [hw]; exact Array.getElem?_push_size)
  have Ly := Aside0.mk (show w3.heap.size < w4.heap.size by rw [hw]; exact Nat.lt_of_lt_of_eq (Nat.lt_succ_self _) (Array.size_push _).symm)
  clear fx0 fx1 fx2 fx3 fx4 fx5 fx6 fx7 fx8 fx9 fx10 lx
  replace Bx := Aside0.mk ((hb.block _ (by have := HZw1.out; have := HZw2.out; have := Lx.out; have := HZw3.out; omega)).trans Bx.out)
  replace Hx1 := Aside0.mk (Kd.S_below Hx1.out hb)
  replace Hx4 := Aside0.mk (Kd.R_below Hx4.out hb)
  replace Hx5 := Aside0.mk (Kd.R_below Hx5.out hb)
  replace Hx7 := Aside0.mk (Kd.S_below Hx7.out hb)
  replace Hx8 := Aside0.mk (Kd.R_below Hx8.out hb)
  replace Hx9 := Aside0.mk (Kd.R_below Hx9.out hb)
  replace Hx0 := Aside0.mk (Kd.R_below Hx0.out hb)
  replace Hy1 := Aside0.mk (Kd.S_below Hy1.out hb)
  replace Hy4 := Aside0.mk (Kd.R_below Hy4.out hb)
  replace Hy5 := Aside0.mk (Kd.R_below Hy5.out hb)
  replace Hy7 := Aside0.mk (Kd.S_below Hy7.out hb)
  replace Hy8 := Aside0.mk (Kd.R_below Hy8.out hb)
  replace Hy9 := Aside0.mk (Kd.R_below Hy9.out hb)
  replace Hy0 := Aside0.mk (Kd.R_below Hy0.out hb)
  have HZw4 := Aside0.mk hb.size
  replace HB := Aside0.mk (HB.out.trans (hb.mono HB.out.size))
  clear hb hw
  have hcall := laws_eqWorld.calls qq true Ay1 cy1 L1 2 1 Ay4 cy4 L4 Ay5 cy5 L5 0 Ay7 cy7 L7 Ay8 cy8 L8 Ay9 cy9 L9 Ay0 cy0 L0 true Ax1 cx1 L1 2 1 Ax4 cx4 L4 Ax5 cx5 L5 0 Ax7 cx7 L7 Ax8 cx8 L8 Ax9 cx9 L9 Ax0 cx0 L0 true w4 (Kd.S_reads' Hy1.out).2.2 ((Kd.S_reads' Hy1.out).1 ▸ (Kd.S_reads' Hy1.out).2.1) (Kd.R_reads' Hy4.out).2.2 ((Kd.R_reads' Hy4.out).1 ▸ (Kd.R_reads' Hy4.out).2.1) (Kd.R_reads' Hy5.out).2.2 ((Kd.R_reads' Hy5.out).1 ▸ (Kd.R_reads' Hy5.out).2.1) (Kd.S_reads' Hy7.out).2.2 ((Kd.S_reads' Hy7.out).1 ▸ (Kd.S_reads' Hy7.out).2.1) (Kd.R_reads' Hy8.out).2.2 ((Kd.R_reads' Hy8.out).1 ▸ (Kd.R_reads' Hy8.out).2.1) (Kd.R_reads' Hy9.out).2.2 ((Kd.R_reads' Hy9.out).1 ▸ (Kd.R_reads' Hy9.out).2.1) (Kd.R_reads' Hy0.out).2.2 ((Kd.R_reads' Hy0.out).1 ▸ (Kd.R_reads' Hy0.out).2.1) (Kd.S_reads' Hx1.out).2.2 ((Kd.S_reads' Hx1.out).1 ▸ (Kd.S_reads' Hx1.out).2.1) (Kd.R_reads' Hx4.out).2.2 ((Kd.R_reads' Hx4.out).1 ▸ (Kd.R_reads' Hx4.out).2.1) (Kd.R_reads' Hx5.out).2.2 ((Kd.R_reads' Hx5.out).1 ▸ (Kd.R_reads' Hx5.out).2.1) (Kd.S_reads' Hx7.out).2.2 ((Kd.S_reads' Hx7.out).1 ▸ (Kd.S_reads' Hx7.out).2.1) (Kd.R_reads' Hx8.out).2.2 ((Kd.R_reads' Hx8.out).1 ▸ (Kd.R_reads' Hx8.out).2.1) (Kd.R_reads' Hx9.out).2.2 ((Kd.R_reads' Hx9.out).1 ▸ (Kd.R_reads' Hx9.out).2.1) (Kd.R_reads' Hx0.out).2.2 ((Kd.R_reads' Hx0.out).1 ▸ (Kd.R_reads' Hx0.out).2.1) hq
  refine hcall.mono ?_
  clear hcall
  rintro e w5 ⟨rfl, hb⟩
  replace Bx := Aside0.mk ((hb.block _ (by have := HZw1.out; have := HZw2.out; have := Lx.out; have := HZw3.out; have := HZw4.out; have := Ly.out; omega)).trans Bx.out)
  replace By := Aside0.mk ((hb.block _ (by have := HZw1.out; have := HZw2.out; have := Lx.out; have := HZw3.out; have := HZw4.out; have := Ly.out; omega)).trans By.out)
  replace Hx1 := Aside0.mk (Kd.S_below Hx1.out hb)
  replace Hx4 := Aside0.mk (Kd.R_below Hx4.out hb)
  replace Hx5 := Aside0.mk (Kd.R_below Hx5.out hb)
  replace Hx7 := Aside0.mk (Kd.S_below Hx7.out hb)
  replace Hx8 := Aside0.mk (Kd.R_below Hx8.out hb)
  replace Hx9 := Aside0.mk (Kd.R_below Hx9.out hb)
  replace Hx0 := Aside0.mk (Kd.R_below Hx0.out hb)
  replace Hy1 := Aside0.mk (Kd.S_below Hy1.out hb)
  replace Hy4 := Aside0.mk (Kd.R_below Hy4.out hb)
  replace Hy5 := Aside0.mk (Kd.R_below Hy5.out hb)
  replace Hy7 := Aside0.mk (Kd.S_below Hy7.out hb)
  replace Hy8 := Aside0.mk (Kd.R_below Hy8.out hb)
  replace Hy9 := Aside0.mk (Kd.R_below Hy9.out hb)
  replace Hy0 := Aside0.mk (Kd.R_below Hy0.out hb)
  have HZw5 := Aside0.mk hb.size
  replace HB := Aside0.mk (HB.out.trans (hb.mono HB.out.size))
  clear hb
  have fy0 : w5.cell? ⟨w3.heap.size, 0, none⟩ = some (.bool true) := box_cell By.out 0 rfl
  have fy1 : w5.cell? ⟨w3.heap.size, 1, none⟩ = some (.slice Ay1 L1.length cy1) := box_cell By.out 1 rfl
  have fy2 : w5.cell? ⟨w3.heap.size, 2, none⟩ = some (.int .i64 2) := box_cell By.out 2 rfl
  have fy3 : w5.cell? ⟨w3.heap.size, 3, none⟩ = some (.int .i64 1) := box_cell By.out 3 rfl
  have fy4 : w5.cell? ⟨w3.heap.size, 4, none⟩ = some (.slice Ay4 L4.length cy4) := box_cell By.out 4 rfl
  have fy5 : w5.cell? ⟨w3.heap.size, 5, none⟩ = some (.slice Ay5 L5.length cy5) := box_cell By.out 5 rfl
  have fy6 : w5.cell? ⟨w3.heap.size, 6, none⟩ = some (.int .i64 0) := box_cell By.out 6 rfl
  have fy7 : w5.cell? ⟨w3.heap.size, 7, none⟩ = some (.slice Ay7 L7.length cy7) := box_cell By.out 7 rfl
  have fy8 : w5.cell? ⟨w3.heap.size, 8, none⟩ = some (.slice Ay8 L8.length cy8) := box_cell By.out 8 rfl
  have fy9 : w5.cell? ⟨w3.heap.size, 9, none⟩ = some (.slice Ay9 L9.length cy9) := box_cell By.out 9 rfl
  have fy10 : w5.cell? ⟨w3.heap.size, 10, none⟩ = some (.slice Ay0 L0.length cy0) := box_cell By.out 10 rfl
  go_wp2_with (first | (go_at_call 44; go_in))
  obtain ⟨w6, hw⟩ : ∃ w_, w_ = w5.alloc (.cells #[.bool true, .slice Ay1 L1.length cy1, .int .i64 2, .int .i64 1, .slice Ay4 L4.length cy4, .slice Ay5 L5.length cy5, .int .i64 0, .slice Ay7 L7.length cy7, .slice Ay8 L8.length cy8, .slice Ay9 L9.length cy9, .slice Ay0 L0.length cy0] 77) := ⟨_, rfl⟩
  rw [← hw]
  have hb : Below w5.heap.size w5 w6 := hw ▸ (Below.refl w5.heap.size w5).alloc (Nat.le_refl _) _
  have Bm := Aside0.mk (show w6.heap[w5.heap.size]? = some (.cells #[.bool true, .slice Ay1 L1.length cy1, .int .i64 2, .int .i64 1, .slice Ay4 L4.length cy4, .slice Ay5 L5.length cy5, .int .i64 0, .slice Ay7 L7.length cy7, .slice Ay8 L8.length cy8, .slice Ay9 L9.length cy9, .slice Ay0 L0.length cy0] 77 (0, 0)) by rw [hw]; exact Array.getElem?_push_size)
  have Lm := Aside0.mk (show w5.heap.size < w6.heap.size by rw [hw]; exact Nat.lt_of_lt_of_eq (Nat.lt_succ_self _) (Array.size_push _).symm)
  clear fy0 fy1 fy2 fy3 fy4 fy5 fy6 fy7 fy8 fy9 fy10
  replace Bx := Aside0.mk ((hb.block _ (by have := HZw1.out; have := HZw2.out; have := Lx.out; have := HZw3.out; have := HZw4.out; have := Ly.out; have := HZw5.out; omega)).trans Bx.out)
  replace By := Aside0.mk ((hb.block _ (by have := HZw1.out; have := HZw2.out; have := Lx.out; have := HZw3.out; have := HZw4.out; have := Ly.out; have := HZw5.out; omega)).trans By.out)
  replace Hx1 := Aside0.mk (Kd.S_below Hx1.out hb)
  replace Hx4 := Aside0.mk (Kd.R_below Hx4.out hb)
  replace Hx5 := Aside0.mk (Kd.R_below Hx5.out hb)
  replace Hx7 := Aside0.mk (Kd.S_below Hx7.out hb)
  replace Hx8 := Aside0.mk (Kd.R_below Hx8.out hb)
  replace Hx9 := Aside0.mk (Kd.R_below Hx9.out hb)
  replace Hx0 := Aside0.mk (Kd.R_below Hx0.out hb)
  replace Hy1 := Aside0.mk (Kd.S_below Hy1.out hb)
  replace Hy4 := Aside0.mk (Kd.R_below Hy4.out hb)
  replace Hy5 := Aside0.mk (Kd.R_below Hy5.out hb)
  replace Hy7 := Aside0.mk (Kd.S_below Hy7.out hb)
  replace Hy8 := Aside0.mk (Kd.R_below Hy8.out hb)
  replace Hy9 := Aside0.mk (Kd.R_below Hy9.out hb)
  replace Hy0 := Aside0.mk (Kd.R_below Hy0.out hb)
  have HZw6 := Aside0.mk hb.size
  replace HB := Aside0.mk (HB.out.trans (hb.mono HB.out.size))
  clear hb hw
  have hcall := laws_markServer.calls (fun k_ => (w2.heap.size ≤ k_ ∧ k_ < w3.heap.size) ∧ ∃ q, q ∈ 135 :: Kd.E (k135) ∧ ∃ cells, w3.heap[k_]? = some (.cells cells q (0, 0))) (fun k_ => (w2.heap.size ≤ k_ ∧ k_ < w3.heap.size) ∧ ∃ q, q ∈ 192 :: Kd.E (k192) ∧ ∃ cells, w3.heap[k_]? = some (.cells cells q (0, 0))) (fun k_ => (w2.heap.size ≤ k_ ∧ k_ < w3.heap.size) ∧ ∃ q, q ∈ 120 :: Kd.E (k120) ∧ ∃ cells, w3.heap[k_]? = some (.cells cells q (0, 0))) true (.slice Ay1 L1.length cy1) L1 2 1 (.slice Ay4 L4.length cy4) L4 (.slice Ay5 L5.length cy5) L5 0 1 w w6 HB.out Hy1.out Hy4.out Hy5.out (fun k ho hm => (by obtain ⟨q1, m1, c1, e1⟩ := ho.2; obtain ⟨q2, m2, c2, e2⟩ := hm.2; rw [e1] at e2; exact (by decide : ∀ q, q ∈ 135 :: Kd.E (k135) → ∀ q', q' ∈ 192 :: Kd.E (k192) → q ≠ q') q1 m1 q2 m2 (by injection e2 with e2; injection e2))) (fun k ho hm => (by obtain ⟨q1, m1, c1, e1⟩ := ho.2; obtain ⟨q2, m2, c2, e2⟩ := hm.2; rw [e1] at e2; exact (by decide : ∀ q, q ∈ 135 :: Kd.E (k135) → ∀ q', q' ∈ 120 :: Kd.E (k120) → q ≠ q') q1 m1 q2 m2 (by injection e2 with e2; injection e2))) (fun k ho hm => (by obtain ⟨q1, m1, c1, e1⟩ := ho.2; obtain ⟨q2, m2, c2, e2⟩ := hm.2; rw [e1] at e2; exact (by decide : ∀ q, q ∈ 192 :: Kd.E (k192) → ∀ q', q' ∈ 120 :: Kd.E (k120) → q ≠ q') q1 m1 q2 m2 (by injection e2 with e2; injection e2))) (by decide) HCN.out
  rw [← E2.out, ← E1.out, ← E4.out, ← E5.out] at hcall
  refine hcall.mono ?_
  clear hcall
  rintro e w7 ⟨rfl, ry1, ry4, ry5, hb, hk⟩
  replace Bx := Aside0.mk ((hk.2 _ (by have := HZw1.out; have := HZw2.out; have := Lx.out; have := HZw3.out; have := HZw4.out; have := Ly.out; have := HZw5.out; have := HZw6.out; have := Lm.out; omega) (fun hm => hm.elim (fun hm => (by have h3 := hm.1.1; have h4 := hm.1.2; have := HZw1.out; have := HZw2.out; have := Lx.out; have := HZw3.out; have := HZw4.out; have := Ly.out; have := HZw5.out; have := HZw6.out; have := Lm.out; omega)) (fun hm => hm.elim (fun hm => (by have h3 := hm.1.1; have h4 := hm.1.2; have := HZw1.out; have := HZw2.out; have := Lx.out; have := HZw3.out; have := HZw4.out; have := Ly.out; have := HZw5.out; have := HZw6.out; have := Lm.out; omega)) (fun hm => (by have h3 := hm.1.1; have h4 := hm.1.2; have := HZw1.out; have := HZw2.out; have := Lx.out; have := HZw3.out; have := HZw4.out; have := Ly.out; have := HZw5.out; have := HZw6.out; have := Lm.out; omega))))).trans Bx.out)
  replace By := Aside0.mk ((hk.2 _ (by have := HZw1.out; have := HZw2.out; have := Lx.out; have := HZw3.out; have := HZw4.out; have := Ly.out; have := HZw5.out; have := HZw6.out; have := Lm.out; omega) (fun hm => hm.elim (fun hm => (by have h3 := hm.1.1; have h4 := hm.1.2; have := HZw1.out; have := HZw2.out; have := Lx.out; have := HZw3.out; have := HZw4.out; have := Ly.out; have := HZw5.out; have := HZw6.out; have := Lm.out; omega)) (fun hm => hm.elim (fun hm => (by have h3 := hm.1.1; have h4 := hm.1.2; have := HZw1.out; have := HZw2.out; have := Lx.out; have := HZw3.out; have := HZw4.out; have := Ly.out; have := HZw5.out; have := HZw6.out; have := Lm.out; omega)) (fun hm => (by have h3 := hm.1.1; have h4 := hm.1.2; have := HZw1.out; have := HZw2.out; have := Lx.out; have := HZw3.out; have := HZw4.out; have := Ly.out; have := HZw5.out; have := HZw6.out; have := Lm.out; omega))))).trans By.out)
  replace Bm := Aside0.mk ((hk.2 _ (by have := HZw1.out; have := HZw2.out; have := Lx.out; have := HZw3.out; have := HZw4.out; have := Ly.out; have := HZw5.out; have := HZw6.out; have := Lm.out; omega) (fun hm => hm.elim (fun hm => (by have h3 := hm.1.1; have h4 := hm.1.2; have := HZw1.out; have := HZw2.out; have := Lx.out; have := HZw3.out; have := HZw4.out; have := Ly.out; have := HZw5.out; have := HZw6.out; have := Lm.out; omega)) (fun hm => hm.elim (fun hm => (by have h3 := hm.1.1; have h4 := hm.1.2; have := HZw1.out; have := HZw2.out; have := Lx.out; have := HZw3.out; have := HZw4.out; have := Ly.out; have := HZw5.out; have := HZw6.out; have := Lm.out; omega)) (fun hm => (by have h3 := hm.1.1; have h4 := hm.1.2; have := HZw1.out; have := HZw2.out; have := Lx.out; have := HZw3.out; have := HZw4.out; have := Ly.out; have := HZw5.out; have := HZw6.out; have := Lm.out; omega))))).trans Bm.out)
  replace Hx1 := Aside0.mk (Kd.S_step Hx1.out (fun k ho hlt => hk.2 k hlt (fun hm => hm.elim (fun hm => (by have h1 := ho.1.1; have h2 := ho.1.2; have h3 := hm.1.1; have h4 := hm.1.2; have := HZw1.out; have := HZw2.out; have := Lx.out; have := HZw3.out; have := HZw4.out; have := Ly.out; have := HZw5.out; have := HZw6.out; have := Lm.out; omega)) (fun hm => hm.elim (fun hm => (by have h1 := ho.1.1; have h2 := ho.1.2; have h3 := hm.1.1; have h4 := hm.1.2; have := HZw1.out; have := HZw2.out; have := Lx.out; have := HZw3.out; have := HZw4.out; have := Ly.out; have := HZw5.out; have := HZw6.out; have := Lm.out; omega)) (fun hm => (by have h1 := ho.1.1; have h2 := ho.1.2; have h3 := hm.1.1; have h4 := hm.1.2; have := HZw1.out; have := HZw2.out; have := Lx.out; have := HZw3.out; have := HZw4.out; have := Ly.out; have := HZw5.out; have := HZw6.out; have := Lm.out; omega))))))
  replace Hx4 := Aside0.mk (Kd.R_step Hx4.out (fun k ho hlt => hk.2 k hlt (fun hm => hm.elim (fun hm => (by have h1 := ho.1.1; have h2 := ho.1.2; have h3 := hm.1.1; have h4 := hm.1.2; have := HZw1.out; have := HZw2.out; have := Lx.out; have := HZw3.out; have := HZw4.out; have := Ly.out; have := HZw5.out; have := HZw6.out; have := Lm.out; omega)) (fun hm => hm.elim (fun hm => (by have h1 := ho.1.1; have h2 := ho.1.2; have h3 := hm.1.1; have h4 := hm.1.2; have := HZw1.out; have := HZw2.out; have := Lx.out; have := HZw3.out; have := HZw4.out; have := Ly.out; have := HZw5.out; have := HZw6.out; have := Lm.out; omega)) (fun hm => (by have h1 := ho.1.1; have h2 := ho.1.2; have h3 := hm.1.1; have h4 := hm.1.2; have := HZw1.out; have := HZw2.out; have := Lx.out; have := HZw3.out; have := HZw4.out; have := Ly.out; have := HZw5.out; have := HZw6.out; have := Lm.out; omega))))))
  replace Hx5 := Aside0.mk (Kd.R_step Hx5.out (fun k ho hlt => hk.2 k hlt (fun hm => hm.elim (fun hm => (by have h1 := ho.1.1; have h2 := ho.1.2; have h3 := hm.1.1; have h4 := hm.1.2; have := HZw1.out; have := HZw2.out; have := Lx.out; have := HZw3.out; have := HZw4.out; have := Ly.out; have := HZw5.out; have := HZw6.out; have := Lm.out; omega)) (fun hm => hm.elim (fun hm => (by have h1 := ho.1.1; have h2 := ho.1.2; have h3 := hm.1.1; have h4 := hm.1.2; have := HZw1.out; have := HZw2.out; have := Lx.out; have := HZw3.out; have := HZw4.out; have := Ly.out; have := HZw5.out; have := HZw6.out; have := Lm.out; omega)) (fun hm => (by have h1 := ho.1.1; have h2 := ho.1.2; have h3 := hm.1.1; have h4 := hm.1.2; have := HZw1.out; have := HZw2.out; have := Lx.out; have := HZw3.out; have := HZw4.out; have := Ly.out; have := HZw5.out; have := HZw6.out; have := Lm.out; omega))))))
  replace Hx7 := Aside0.mk (Kd.S_step Hx7.out (fun k ho hlt => hk.2 k hlt (fun hm => hm.elim (fun hm => (by have h1 := ho.1.1; have h2 := ho.1.2; have h3 := hm.1.1; have h4 := hm.1.2; have := HZw1.out; have := HZw2.out; have := Lx.out; have := HZw3.out; have := HZw4.out; have := Ly.out; have := HZw5.out; have := HZw6.out; have := Lm.out; omega)) (fun hm => hm.elim (fun hm => (by have h1 := ho.1.1; have h2 := ho.1.2; have h3 := hm.1.1; have h4 := hm.1.2; have := HZw1.out; have := HZw2.out; have := Lx.out; have := HZw3.out; have := HZw4.out; have := Ly.out; have := HZw5.out; have := HZw6.out; have := Lm.out; omega)) (fun hm => (by have h1 := ho.1.1; have h2 := ho.1.2; have h3 := hm.1.1; have h4 := hm.1.2; have := HZw1.out; have := HZw2.out; have := Lx.out; have := HZw3.out; have := HZw4.out; have := Ly.out; have := HZw5.out; have := HZw6.out; have := Lm.out; omega))))))
  replace Hx8 := Aside0.mk (Kd.R_step Hx8.out (fun k ho hlt => hk.2 k hlt (fun hm => hm.elim (fun hm => (by have h1 := ho.1.1; have h2 := ho.1.2; have h3 := hm.1.1; have h4 := hm.1.2; have := HZw1.out; have := HZw2.out; have := Lx.out; have := HZw3.out; have := HZw4.out; have := Ly.out; have := HZw5.out; have := HZw6.out; have := Lm.out; omega)) (fun hm => hm.elim (fun hm => (by have h1 := ho.1.1; have h2 := ho.1.2; have h3 := hm.1.1; have h4 := hm.1.2; have := HZw1.out; have := HZw2.out; have := Lx.out; have := HZw3.out; have := HZw4.out; have := Ly.out; have := HZw5.out; have := HZw6.out; have := Lm.out; omega)) (fun hm => (by have h1 := ho.1.1; have h2 := ho.1.2; have h3 := hm.1.1; have h4 := hm.1.2; have := HZw1.out; have := HZw2.out; have := Lx.out; have := HZw3.out; have := HZw4.out; have := Ly.out; have := HZw5.out; have := HZw6.out; have := Lm.out; omega))))))
  replace Hx9 := Aside0.mk (Kd.R_step Hx9.out (fun k ho hlt => hk.2 k hlt (fun hm => hm.elim (fun hm => (by have h1 := ho.1.1; have h2 := ho.1.2; have h3 := hm.1.1; have h4 := hm.1.2; have := HZw1.out; have := HZw2.out; have := Lx.out; have := HZw3.out; have := HZw4.out; have := Ly.out; have := HZw5.out; have := HZw6.out; have := Lm.out; omega)) (fun hm => hm.elim (fun hm => (by have h1 := ho.1.1; have h2 := ho.1.2; have h3 := hm.1.1; have h4 := hm.1.2; have := HZw1.out; have := HZw2.out; have := Lx.out; have := HZw3.out; have := HZw4.out; have := Ly.out; have := HZw5.out; have := HZw6.out; have := Lm.out; omega)) (fun hm => (by have h1 := ho.1.1; have h2 := ho.1.2; have h3 := hm.1.1; have h4 := hm.1.2; have := HZw1.out; have := HZw2.out; have := Lx.out; have := HZw3.out; have := HZw4.out; have := Ly.out; have := HZw5.out; have := HZw6.out; have := Lm.out; omega))))))
  replace Hx0 := Aside0.mk (Kd.R_step Hx0.out (fun k ho hlt => hk.2 k hlt (fun hm => hm.elim (fun hm => (by have h1 := ho.1.1; have h2 := ho.1.2; have h3 := hm.1.1; have h4 := hm.1.2; have := HZw1.out; have := HZw2.out; have := Lx.out; have := HZw3.out; have := HZw4.out; have := Ly.out; have := HZw5.out; have := HZw6.out; have := Lm.out; omega)) (fun hm => hm.elim (fun hm => (by have h1 := ho.1.1; have h2 := ho.1.2; have h3 := hm.1.1; have h4 := hm.1.2; have := HZw1.out; have := HZw2.out; have := Lx.out; have := HZw3.out; have := HZw4.out; have := Ly.out; have := HZw5.out; have := HZw6.out; have := Lm.out; omega)) (fun hm => (by have h1 := ho.1.1; have h2 := ho.1.2; have h3 := hm.1.1; have h4 := hm.1.2; have := HZw1.out; have := HZw2.out; have := Lx.out; have := HZw3.out; have := HZw4.out; have := Ly.out; have := HZw5.out; have := HZw6.out; have := Lm.out; omega))))))
  replace Hy7 := Aside0.mk (Kd.S_step Hy7.out (fun k ho hlt => hk.2 k hlt (fun hm => hm.elim (fun hm => (by obtain ⟨q1, m1, c1, e1⟩ := ho.2; obtain ⟨q2, m2, c2, e2⟩ := hm.2; rw [e1] at e2; exact (by decide : ∀ q, q ∈ 97 :: Kd.E (k97) → ∀ q', q' ∈ 135 :: Kd.E (k135) → q ≠ q') q1 m1 q2 m2 (by injection e2 with e2; injection e2))) (fun hm => hm.elim (fun hm => (by obtain ⟨q1, m1, c1, e1⟩ := ho.2; obtain ⟨q2, m2, c2, e2⟩ := hm.2; rw [e1] at e2; exact (by decide : ∀ q, q ∈ 97 :: Kd.E (k97) → ∀ q', q' ∈ 192 :: Kd.E (k192) → q ≠ q') q1 m1 q2 m2 (by injection e2 with e2; injection e2))) (fun hm => (by obtain ⟨q1, m1, c1, e1⟩ := ho.2; obtain ⟨q2, m2, c2, e2⟩ := hm.2; rw [e1] at e2; exact (by decide : ∀ q, q ∈ 97 :: Kd.E (k97) → ∀ q', q' ∈ 120 :: Kd.E (k120) → q ≠ q') q1 m1 q2 m2 (by injection e2 with e2; injection e2)))))))
  replace Hy8 := Aside0.mk (Kd.R_step Hy8.out (fun k ho hlt => hk.2 k hlt (fun hm => hm.elim (fun hm => (by obtain ⟨q1, m1, c1, e1⟩ := ho.2; obtain ⟨q2, m2, c2, e2⟩ := hm.2; rw [e1] at e2; exact (by decide : ∀ q, q ∈ 3 :: Kd.E ((Kd.int .i64)) → ∀ q', q' ∈ 135 :: Kd.E (k135) → q ≠ q') q1 m1 q2 m2 (by injection e2 with e2; injection e2))) (fun hm => hm.elim (fun hm => (by obtain ⟨q1, m1, c1, e1⟩ := ho.2; obtain ⟨q2, m2, c2, e2⟩ := hm.2; rw [e1] at e2; exact (by decide : ∀ q, q ∈ 3 :: Kd.E ((Kd.int .i64)) → ∀ q', q' ∈ 192 :: Kd.E (k192) → q ≠ q') q1 m1 q2 m2 (by injection e2 with e2; injection e2))) (fun hm => (by obtain ⟨q1, m1, c1, e1⟩ := ho.2; obtain ⟨q2, m2, c2, e2⟩ := hm.2; rw [e1] at e2; exact (by decide : ∀ q, q ∈ 3 :: Kd.E ((Kd.int .i64)) → ∀ q', q' ∈ 120 :: Kd.E (k120) → q ≠ q') q1 m1 q2 m2 (by injection e2 with e2; injection e2)))))))
  replace Hy9 := Aside0.mk (Kd.R_step Hy9.out (fun k ho hlt => hk.2 k hlt (fun hm => hm.elim (fun hm => (by obtain ⟨q1, m1, c1, e1⟩ := ho.2; obtain ⟨q2, m2, c2, e2⟩ := hm.2; rw [e1] at e2; exact (by decide : ∀ q, q ∈ 9 :: Kd.E (Kd.string) → ∀ q', q' ∈ 135 :: Kd.E (k135) → q ≠ q') q1 m1 q2 m2 (by injection e2 with e2; injection e2))) (fun hm => hm.elim (fun hm => (by obtain ⟨q1, m1, c1, e1⟩ := ho.2; obtain ⟨q2, m2, c2, e2⟩ := hm.2; rw [e1] at e2; exact (by decide : ∀ q, q ∈ 9 :: Kd.E (Kd.string) → ∀ q', q' ∈ 192 :: Kd.E (k192) → q ≠ q') q1 m1 q2 m2 (by injection e2 with e2; injection e2))) (fun hm => (by obtain ⟨q1, m1, c1, e1⟩ := ho.2; obtain ⟨q2, m2, c2, e2⟩ := hm.2; rw [e1] at e2; exact (by decide : ∀ q, q ∈ 9 :: Kd.E (Kd.string) → ∀ q', q' ∈ 120 :: Kd.E (k120) → q ≠ q') q1 m1 q2 m2 (by injection e2 with e2; injection e2)))))))
  replace Hy0 := Aside0.mk (Kd.R_step Hy0.out (fun k ho hlt => hk.2 k hlt (fun hm => hm.elim (fun hm => (by obtain ⟨q1, m1, c1, e1⟩ := ho.2; obtain ⟨q2, m2, c2, e2⟩ := hm.2; rw [e1] at e2; exact (by decide : ∀ q, q ∈ 168 :: Kd.E (k168) → ∀ q', q' ∈ 135 :: Kd.E (k135) → q ≠ q') q1 m1 q2 m2 (by injection e2 with e2; injection e2))) (fun hm => hm.elim (fun hm => (by obtain ⟨q1, m1, c1, e1⟩ := ho.2; obtain ⟨q2, m2, c2, e2⟩ := hm.2; rw [e1] at e2; exact (by decide : ∀ q, q ∈ 168 :: Kd.E (k168) → ∀ q', q' ∈ 192 :: Kd.E (k192) → q ≠ q') q1 m1 q2 m2 (by injection e2 with e2; injection e2))) (fun hm => (by obtain ⟨q1, m1, c1, e1⟩ := ho.2; obtain ⟨q2, m2, c2, e2⟩ := hm.2; rw [e1] at e2; exact (by decide : ∀ q, q ∈ 168 :: Kd.E (k168) → ∀ q', q' ∈ 120 :: Kd.E (k120) → q ≠ q') q1 m1 q2 m2 (by injection e2 with e2; injection e2)))))))
  replace Hy1 := Aside0.mk ry1
  replace Hy4 := Aside0.mk ry4
  replace Hy5 := Aside0.mk ry5
  have HZw7 := Aside0.mk hk.1
  replace HB := Aside0.mk hb
  clear hb hk ry1 ry4 ry5
  have fm0 : w7.cell? ⟨w5.heap.size, 0, none⟩ = some (.bool true) := box_cell Bm.out 0 rfl
  have fm1 : w7.cell? ⟨w5.heap.size, 1, none⟩ = some (.slice Ay1 L1.length cy1) := box_cell Bm.out 1 rfl
  have fm2 : w7.cell? ⟨w5.heap.size, 2, none⟩ = some (.int .i64 2) := box_cell Bm.out 2 rfl
  have fm3 : w7.cell? ⟨w5.heap.size, 3, none⟩ = some (.int .i64 1) := box_cell Bm.out 3 rfl
  have fm4 : w7.cell? ⟨w5.heap.size, 4, none⟩ = some (.slice Ay4 L4.length cy4) := box_cell Bm.out 4 rfl
  have fm5 : w7.cell? ⟨w5.heap.size, 5, none⟩ = some (.slice Ay5 L5.length cy5) := box_cell Bm.out 5 rfl
  have fm6 : w7.cell? ⟨w5.heap.size, 6, none⟩ = some (.int .i64 0) := box_cell Bm.out 6 rfl
  have fm7 : w7.cell? ⟨w5.heap.size, 7, none⟩ = some (.slice Ay7 L7.length cy7) := box_cell Bm.out 7 rfl
  have fm8 : w7.cell? ⟨w5.heap.size, 8, none⟩ = some (.slice Ay8 L8.length cy8) := box_cell Bm.out 8 rfl
  have fm9 : w7.cell? ⟨w5.heap.size, 9, none⟩ = some (.slice Ay9 L9.length cy9) := box_cell Bm.out 9 rfl
  have fm10 : w7.cell? ⟨w5.heap.size, 10, none⟩ = some (.slice Ay0 L0.length cy0) := box_cell Bm.out 10 rfl
  have hcall := laws_markHostS.calls (fun k_ => (w2.heap.size ≤ k_ ∧ k_ < w3.heap.size) ∧ ∃ q, q ∈ 97 :: Kd.E (k97) ∧ ∃ cells, w3.heap[k_]? = some (.cells cells q (0, 0))) (.slice Ay7 L7.length cy7) L7 n2 w w7 HB.out Hy7.out G2.out B2.out
  rw [← E3.out, ← E7.out] at hcall
  go_wp2_with fail
  refine hcall.mono ?_
  clear hcall
  rintro e w8 ⟨rfl, ry7, hb, hk⟩
  clear fm0 fm1 fm2 fm3 fm4 fm5 fm6 fm7 fm8 fm9 fm10
  replace Bx := Aside0.mk ((hk.2 _ (by have := HZw1.out; have := HZw2.out; have := Lx.out; have := HZw3.out; have := HZw4.out; have := Ly.out; have := HZw5.out; have := HZw6.out; have := Lm.out; have := HZw7.out; omega) (fun hm => (by have h3 := hm.1.1; have h4 := hm.1.2; have := HZw1.out; have := HZw2.out; have := Lx.out; have := HZw3.out; have := HZw4.out; have := Ly.out; have := HZw5.out; have := HZw6.out; have := Lm.out; have := HZw7.out; omega))).trans Bx.out)
  replace By := Aside0.mk ((hk.2 _ (by have := HZw1.out; have := HZw2.out; have := Lx.out; have := HZw3.out; have := HZw4.out; have := Ly.out; have := HZw5.out; have := HZw6.out; have := Lm.out; have := HZw7.out; omega) (fun hm => (by have h3 := hm.1.1; have h4 := hm.1.2; have := HZw1.out; have := HZw2.out; have := Lx.out; have := HZw3.out; have := HZw4.out; have := Ly.out; have := HZw5.out; have := HZw6.out; have := Lm.out; have := HZw7.out; omega))).trans By.out)
  replace Bm := Aside0.mk ((hk.2 _ (by have := HZw1.out; have := HZw2.out; have := Lx.out; have := HZw3.out; have := HZw4.out; have := Ly.out; have := HZw5.out; have := HZw6.out; have := Lm.out; have := HZw7.out; omega) (fun hm => (by have h3 := hm.1.1; have h4 := hm.1.2; have := HZw1.out; have := HZw2.out; have := Lx.out; have := HZw3.out; have := HZw4.out; have := Ly.out; have := HZw5.out; have := HZw6.out; have := Lm.out; have := HZw7.out; omega))).trans Bm.out)
  replace Hx1 := Aside0.mk (Kd.S_step Hx1.out (fun k ho hlt => hk.2 k hlt (fun hm => (by have h1 := ho.1.1; have h2 := ho.1.2; have h3 := hm.1.1; have h4 := hm.1.2; have := HZw1.out; have := HZw2.out; have := Lx.out; have := HZw3.out; have := HZw4.out; have := Ly.out; have := HZw5.out; have := HZw6.out; have := Lm.out; have := HZw7.out; omega))))
  replace Hx4 := Aside0.mk (Kd.R_step Hx4.out (fun k ho hlt => hk.2 k hlt (fun hm => (by have h1 := ho.1.1; have h2 := ho.1.2; have h3 := hm.1.1; have h4 := hm.1.2; have := HZw1.out; have := HZw2.out; have := Lx.out; have := HZw3.out; have := HZw4.out; have := Ly.out; have := HZw5.out; have := HZw6.out; have := Lm.out; have := HZw7.out; omega))))
  replace Hx5 := Aside0.mk (Kd.R_step Hx5.out (fun k ho hlt => hk.2 k hlt (fun hm => (by have h1 := ho.1.1; have h2 := ho.1.2; have h3 := hm.1.1; have h4 := hm.1.2; have := HZw1.out; have := HZw2.out; have := Lx.out; have := HZw3.out; have := HZw4.out; have := Ly.out; have := HZw5.out; have := HZw6.out; have := Lm.out; have := HZw7.out; omega))))
  replace Hx7 := Aside0.mk (Kd.S_step Hx7.out (fun k ho hlt => hk.2 k hlt (fun hm => (by have h1 := ho.1.1; have h2 := ho.1.2; have h3 := hm.1.1; have h4 := hm.1.2; have := HZw1.out; have := HZw2.out; have := Lx.out; have := HZw3.out; have := HZw4.out; have := Ly.out; have := HZw5.out; have := HZw6.out; have := Lm.out; have := HZw7.out; omega))))
  replace Hx8 := Aside0.mk (Kd.R_step Hx8.out (fun k ho hlt => hk.2 k hlt (fun hm => (by have h1 := ho.1.1; have h2 := ho.1.2; have h3 := hm.1.1; have h4 := hm.1.2; have := HZw1.out; have := HZw2.out; have := Lx.out; have := HZw3.out; have := HZw4.out; have := Ly.out; have := HZw5.out; have := HZw6.out; have := Lm.out; have := HZw7.out; omega))))
  replace Hx9 := Aside0.mk (Kd.R_step Hx9.out (fun k ho hlt => hk.2 k hlt (fun hm => (by have h1 := ho.1.1; have h2 := ho.1.2; have h3 := hm.1.1; have h4 := hm.1.2; have := HZw1.out; have := HZw2.out; have := Lx.out; have := HZw3.out; have := HZw4.out; have := Ly.out; have := HZw5.out; have := HZw6.out; have := Lm.out; have := HZw7.out; omega))))
  replace Hx0 := Aside0.mk (Kd.R_step Hx0.out (fun k ho hlt => hk.2 k hlt (fun hm => (by have h1 := ho.1.1; have h2 := ho.1.2; have h3 := hm.1.1; have h4 := hm.1.2; have := HZw1.out; have := HZw2.out; have := Lx.out; have := HZw3.out; have := HZw4.out; have := Ly.out; have := HZw5.out; have := HZw6.out; have := Lm.out; have := HZw7.out; omega))))
  replace Hy1 := Aside0.mk (Kd.S_step Hy1.out (fun k ho hlt => hk.2 k hlt (fun hm => (by obtain ⟨q1, m1, c1, e1⟩ := ho.2; obtain ⟨q2, m2, c2, e2⟩ := hm.2; rw [e1] at e2; exact (by decide : ∀ q, q ∈ 135 :: Kd.E (k135) → ∀ q', q' ∈ 97 :: Kd.E (k97) → q ≠ q') q1 m1 q2 m2 (by injection e2 with e2; injection e2)))))
  replace Hy4 := Aside0.mk (Kd.R_step Hy4.out (fun k ho hlt => hk.2 k hlt (fun hm => (by obtain ⟨q1, m1, c1, e1⟩ := ho.2; obtain ⟨q2, m2, c2, e2⟩ := hm.2; rw [e1] at e2; exact (by decide : ∀ q, q ∈ 192 :: Kd.E (k192) → ∀ q', q' ∈ 97 :: Kd.E (k97) → q ≠ q') q1 m1 q2 m2 (by injection e2 with e2; injection e2)))))
  replace Hy5 := Aside0.mk (Kd.R_step Hy5.out (fun k ho hlt => hk.2 k hlt (fun hm => (by obtain ⟨q1, m1, c1, e1⟩ := ho.2; obtain ⟨q2, m2, c2, e2⟩ := hm.2; rw [e1] at e2; exact (by decide : ∀ q, q ∈ 120 :: Kd.E (k120) → ∀ q', q' ∈ 97 :: Kd.E (k97) → q ≠ q') q1 m1 q2 m2 (by injection e2 with e2; injection e2)))))
  replace Hy8 := Aside0.mk (Kd.R_step Hy8.out (fun k ho hlt => hk.2 k hlt (fun hm => (by obtain ⟨q1, m1, c1, e1⟩ := ho.2; obtain ⟨q2, m2, c2, e2⟩ := hm.2; rw [e1] at e2; exact (by decide : ∀ q, q ∈ 3 :: Kd.E ((Kd.int .i64)) → ∀ q', q' ∈ 97 :: Kd.E (k97) → q ≠ q') q1 m1 q2 m2 (by injection e2 with e2; injection e2)))))
  replace Hy9 := Aside0.mk (Kd.R_step Hy9.out (fun k ho hlt => hk.2 k hlt (fun hm => (by obtain ⟨q1, m1, c1, e1⟩ := ho.2; obtain ⟨q2, m2, c2, e2⟩ := hm.2; rw [e1] at e2; exact (by decide : ∀ q, q ∈ 9 :: Kd.E (Kd.string) → ∀ q', q' ∈ 97 :: Kd.E (k97) → q ≠ q') q1 m1 q2 m2 (by injection e2 with e2; injection e2)))))
  replace Hy0 := Aside0.mk (Kd.R_step Hy0.out (fun k ho hlt => hk.2 k hlt (fun hm => (by obtain ⟨q1, m1, c1, e1⟩ := ho.2; obtain ⟨q2, m2, c2, e2⟩ := hm.2; rw [e1] at e2; exact (by decide : ∀ q, q ∈ 168 :: Kd.E (k168) → ∀ q', q' ∈ 97 :: Kd.E (k97) → q ≠ q') q1 m1 q2 m2 (by injection e2 with e2; injection e2)))))
  replace Hy7 := Aside0.mk ry7
  have HZw8 := Aside0.mk hk.1
  replace HB := Aside0.mk hb
  clear hb hk ry7
  have fm0 : w8.cell? ⟨w5.heap.size, 0, none⟩ = some (.bool true) := box_cell Bm.out 0 rfl
  have fm1 : w8.cell? ⟨w5.heap.size, 1, none⟩ = some (.slice Ay1 L1.length cy1) := box_cell Bm.out 1 rfl
  have fm2 : w8.cell? ⟨w5.heap.size, 2, none⟩ = some (.int .i64 2) := box_cell Bm.out 2 rfl
  have fm3 : w8.cell? ⟨w5.heap.size, 3, none⟩ = some (.int .i64 1) := box_cell Bm.out 3 rfl
  have fm4 : w8.cell? ⟨w5.heap.size, 4, none⟩ = some (.slice Ay4 L4.length cy4) := box_cell Bm.out 4 rfl
  have fm5 : w8.cell? ⟨w5.heap.size, 5, none⟩ = some (.slice Ay5 L5.length cy5) := box_cell Bm.out 5 rfl
  have fm6 : w8.cell? ⟨w5.heap.size, 6, none⟩ = some (.int .i64 0) := box_cell Bm.out 6 rfl
  have fm7 : w8.cell? ⟨w5.heap.size, 7, none⟩ = some (.slice Ay7 L7.length cy7) := box_cell Bm.out 7 rfl
  have fm8 : w8.cell? ⟨w5.heap.size, 8, none⟩ = some (.slice Ay8 L8.length cy8) := box_cell Bm.out 8 rfl
  have fm9 : w8.cell? ⟨w5.heap.size, 9, none⟩ = some (.slice Ay9 L9.length cy9) := box_cell Bm.out 9 rfl
  have fm10 : w8.cell? ⟨w5.heap.size, 10, none⟩ = some (.slice Ay0 L0.length cy0) := box_cell Bm.out 10 rfl
  obtain ⟨fu9, hfu9⟩ := ev_rounds (HM8.out)
  have hcall := laws_markIntS.calls fu9 (fun k_ => (w2.heap.size ≤ k_ ∧ k_ < w3.heap.size) ∧ ∃ q, q ∈ 3 :: Kd.E ((Kd.int .i64)) ∧ ∃ cells, w3.heap[k_]? = some (.cells cells q (0, 0))) (.slice Ay8 L8.length cy8) L8 n3 n4 M8 w w8 HB.out Hy8.out hfu9
  go_wp2_with fail
  refine hcall.mono ?_
  clear hcall
  rintro e w9 ⟨rfl, ry8, hb, hk⟩
  clear fm0 fm1 fm2 fm3 fm4 fm5 fm6 fm7 fm8 fm9 fm10
  replace Bx := Aside0.mk ((hk.2 _ (by have := HZw1.out; have := HZw2.out; have := Lx.out; have := HZw3.out; have := HZw4.out; have := Ly.out; have := HZw5.out; have := HZw6.out; have := Lm.out; have := HZw7.out; have := HZw8.out; omega) (fun hm => (by have h3 := hm.1.1; have h4 := hm.1.2; have := HZw1.out; have := HZw2.out; have := Lx.out; have := HZw3.out; have := HZw4.out; have := Ly.out; have := HZw5.out; have := HZw6.out; have := Lm.out; have := HZw7.out; have := HZw8.out; omega))).trans Bx.out)
  replace By := Aside0.mk ((hk.2 _ (by have := HZw1.out; have := HZw2.out; have := Lx.out; have := HZw3.out; have := HZw4.out; have := Ly.out; have := HZw5.out; have := HZw6.out; have := Lm.out; have := HZw7.out; have := HZw8.out; omega) (fun hm => (by have h3 := hm.1.1; have h4 := hm.1.2; have := HZw1.out; have := HZw2.out; have := Lx.out; have := HZw3.out; have := HZw4.out; have := Ly.out; have := HZw5.out; have := HZw6.out; have := Lm.out; have := HZw7.out; have := HZw8.out; omega))).trans By.out)
  replace Bm := Aside0.mk ((hk.2 _ (by have := HZw1.out; have := HZw2.out; have := Lx.out; have := HZw3.out; have := HZw4.out; have := Ly.out; have := HZw5.out; have := HZw6.out; have := Lm.out; have := HZw7.out; have := HZw8.out; omega) (fun hm => (by have h3 := hm.1.1; have h4 := hm.1.2; have := HZw1.out; have := HZw2.out; have := Lx.out; have := HZw3.out; have := HZw4.out; have := Ly.out; have := HZw5.out; have := HZw6.out; have := Lm.out; have := HZw7.out; have := HZw8.out; omega))).trans Bm.out)
  replace Hx1 := Aside0.mk (Kd.S_step Hx1.out (fun k ho hlt => hk.2 k hlt (fun hm => (by have h1 := ho.1.1; have h2 := ho.1.2; have h3 := hm.1.1; have h4 := hm.1.2; have := HZw1.out; have := HZw2.out; have := Lx.out; have := HZw3.out; have := HZw4.out; have := Ly.out; have := HZw5.out; have := HZw6.out; have := Lm.out; have := HZw7.out; have := HZw8.out; omega))))
  replace Hx4 := Aside0.mk (Kd.R_step Hx4.out (fun k ho hlt => hk.2 k hlt (fun hm => (by have h1 := ho.1.1; have h2 := ho.1.2; have h3 := hm.1.1; have h4 := hm.1.2; have := HZw1.out; have := HZw2.out; have := Lx.out; have := HZw3.out; have := HZw4.out; have := Ly.out; have := HZw5.out; have := HZw6.out; have := Lm.out; have := HZw7.out; have := HZw8.out; omega))))
  replace Hx5 := Aside0.mk (Kd.R_step Hx5.out (fun k ho hlt => hk.2 k hlt (fun hm => (by have h1 := ho.1.1; have h2 := ho.1.2; have h3 := hm.1.1; have h4 := hm.1.2; have := HZw1.out; have := HZw2.out; have := Lx.out; have := HZw3.out; have := HZw4.out; have := Ly.out; have := HZw5.out; have := HZw6.out; have := Lm.out; have := HZw7.out; have := HZw8.out; omega))))
  replace Hx7 := Aside0.mk (Kd.S_step Hx7.out (fun k ho hlt => hk.2 k hlt (fun hm => (by have h1 := ho.1.1; have h2 := ho.1.2; have h3 := hm.1.1; have h4 := hm.1.2; have := HZw1.out; have := HZw2.out; have := Lx.out; have := HZw3.out; have := HZw4.out; have := Ly.out; have := HZw5.out; have := HZw6.out; have := Lm.out; have := HZw7.out; have := HZw8.out; omega))))
  replace Hx8 := Aside0.mk (Kd.R_step Hx8.out (fun k ho hlt => hk.2 k hlt (fun hm => (by have h1 := ho.1.1; have h2 := ho.1.2; have h3 := hm.1.1; have h4 := hm.1.2; have := HZw1.out; have := HZw2.out; have := Lx.out; have := HZw3.out; have := HZw4.out; have := Ly.out; have := HZw5.out; have := HZw6.out; have := Lm.out; have := HZw7.out; have := HZw8.out; omega))))
  replace Hx9 := Aside0.mk (Kd.R_step Hx9.out (fun k ho hlt => hk.2 k hlt (fun hm => (by have h1 := ho.1.1; have h2 := ho.1.2; have h3 := hm.1.1; have h4 := hm.1.2; have := HZw1.out; have := HZw2.out; have := Lx.out; have := HZw3.out; have := HZw4.out; have := Ly.out; have := HZw5.out; have := HZw6.out; have := Lm.out; have := HZw7.out; have := HZw8.out; omega))))
  replace Hx0 := Aside0.mk (Kd.R_step Hx0.out (fun k ho hlt => hk.2 k hlt (fun hm => (by have h1 := ho.1.1; have h2 := ho.1.2; have h3 := hm.1.1; have h4 := hm.1.2; have := HZw1.out; have := HZw2.out; have := Lx.out; have := HZw3.out; have := HZw4.out; have := Ly.out; have := HZw5.out; have := HZw6.out; have := Lm.out; have := HZw7.out; have := HZw8.out; omega))))
  replace Hy1 := Aside0.mk (Kd.S_step Hy1.out (fun k ho hlt => hk.2 k hlt (fun hm => (by obtain ⟨q1, m1, c1, e1⟩ := ho.2; obtain ⟨q2, m2, c2, e2⟩ := hm.2; rw [e1] at e2; exact (by decide : ∀ q, q ∈ 135 :: Kd.E (k135) → ∀ q', q' ∈ 3 :: Kd.E ((Kd.int .i64)) → q ≠ q') q1 m1 q2 m2 (by injection e2 with e2; injection e2)))))
  replace Hy4 := Aside0.mk (Kd.R_step Hy4.out (fun k ho hlt => hk.2 k hlt (fun hm => (by obtain ⟨q1, m1, c1, e1⟩ := ho.2; obtain ⟨q2, m2, c2, e2⟩ := hm.2; rw [e1] at e2; exact (by decide : ∀ q, q ∈ 192 :: Kd.E (k192) → ∀ q', q' ∈ 3 :: Kd.E ((Kd.int .i64)) → q ≠ q') q1 m1 q2 m2 (by injection e2 with e2; injection e2)))))
  replace Hy5 := Aside0.mk (Kd.R_step Hy5.out (fun k ho hlt => hk.2 k hlt (fun hm => (by obtain ⟨q1, m1, c1, e1⟩ := ho.2; obtain ⟨q2, m2, c2, e2⟩ := hm.2; rw [e1] at e2; exact (by decide : ∀ q, q ∈ 120 :: Kd.E (k120) → ∀ q', q' ∈ 3 :: Kd.E ((Kd.int .i64)) → q ≠ q') q1 m1 q2 m2 (by injection e2 with e2; injection e2)))))
  replace Hy7 := Aside0.mk (Kd.S_step Hy7.out (fun k ho hlt => hk.2 k hlt (fun hm => (by obtain ⟨q1, m1, c1, e1⟩ := ho.2; obtain ⟨q2, m2, c2, e2⟩ := hm.2; rw [e1] at e2; exact (by decide : ∀ q, q ∈ 97 :: Kd.E (k97) → ∀ q', q' ∈ 3 :: Kd.E ((Kd.int .i64)) → q ≠ q') q1 m1 q2 m2 (by injection e2 with e2; injection e2)))))
  replace Hy9 := Aside0.mk (Kd.R_step Hy9.out (fun k ho hlt => hk.2 k hlt (fun hm => (by obtain ⟨q1, m1, c1, e1⟩ := ho.2; obtain ⟨q2, m2, c2, e2⟩ := hm.2; rw [e1] at e2; exact (by decide : ∀ q, q ∈ 9 :: Kd.E (Kd.string) → ∀ q', q' ∈ 3 :: Kd.E ((Kd.int .i64)) → q ≠ q') q1 m1 q2 m2 (by injection e2 with e2; injection e2)))))
  replace Hy0 := Aside0.mk (Kd.R_step Hy0.out (fun k ho hlt => hk.2 k hlt (fun hm => (by obtain ⟨q1, m1, c1, e1⟩ := ho.2; obtain ⟨q2, m2, c2, e2⟩ := hm.2; rw [e1] at e2; exact (by decide : ∀ q, q ∈ 168 :: Kd.E (k168) → ∀ q', q' ∈ 3 :: Kd.E ((Kd.int .i64)) → q ≠ q') q1 m1 q2 m2 (by injection e2 with e2; injection e2)))))
  replace Hy8 := Aside0.mk (R_reok ry8 (fun k hk => Hy8.out.1 k hk) (fun _ _ x cs hM => hM))
  have HZw9 := Aside0.mk hk.1
  replace HB := Aside0.mk hb
  clear hb hk ry8
  have fm0 : w9.cell? ⟨w5.heap.size, 0, none⟩ = some (.bool true) := box_cell Bm.out 0 rfl
  have fm1 : w9.cell? ⟨w5.heap.size, 1, none⟩ = some (.slice Ay1 L1.length cy1) := box_cell Bm.out 1 rfl
  have fm2 : w9.cell? ⟨w5.heap.size, 2, none⟩ = some (.int .i64 2) := box_cell Bm.out 2 rfl
  have fm3 : w9.cell? ⟨w5.heap.size, 3, none⟩ = some (.int .i64 1) := box_cell Bm.out 3 rfl
  have fm4 : w9.cell? ⟨w5.heap.size, 4, none⟩ = some (.slice Ay4 L4.length cy4) := box_cell Bm.out 4 rfl
  have fm5 : w9.cell? ⟨w5.heap.size, 5, none⟩ = some (.slice Ay5 L5.length cy5) := box_cell Bm.out 5 rfl
  have fm6 : w9.cell? ⟨w5.heap.size, 6, none⟩ = some (.int .i64 0) := box_cell Bm.out 6 rfl
  have fm7 : w9.cell? ⟨w5.heap.size, 7, none⟩ = some (.slice Ay7 L7.length cy7) := box_cell Bm.out 7 rfl
  have fm8 : w9.cell? ⟨w5.heap.size, 8, none⟩ = some (.slice Ay8 L8.length cy8) := box_cell Bm.out 8 rfl
  have fm9 : w9.cell? ⟨w5.heap.size, 9, none⟩ = some (.slice Ay9 L9.length cy9) := box_cell Bm.out 9 rfl
  have fm10 : w9.cell? ⟨w5.heap.size, 10, none⟩ = some (.slice Ay0 L0.length cy0) := box_cell Bm.out 10 rfl
  obtain ⟨fu10, hfu10⟩ := ev_rounds (HM9.out)
  have hcall := laws_markStringS.calls fu10 (fun k_ => (w2.heap.size ≤ k_ ∧ k_ < w3.heap.size) ∧ ∃ q, q ∈ 9 :: Kd.E (Kd.string) ∧ ∃ cells, w3.heap[k_]? = some (.cells cells q (0, 0))) (.slice Ay9 L9.length cy9) L9 n4 n5 M9 w w9 HB.out Hy9.out hfu10
  go_wp2_with fail
  refine hcall.mono ?_
  clear hcall
  rintro e w10 ⟨rfl, ry9, hb, hk⟩
  clear fm0 fm1 fm2 fm3 fm4 fm5 fm6 fm7 fm8 fm9 fm10
  replace Bx := Aside0.mk ((hk.2 _ (by have := HZw1.out; have := HZw2.out; have := Lx.out; have := HZw3.out; have := HZw4.out; have := Ly.out; have := HZw5.out; have := HZw6.out; have := Lm.out; have := HZw7.out; have := HZw8.out; have := HZw9.out; omega) (fun hm => (by have h3 := hm.1.1; have h4 := hm.1.2; have := HZw1.out; have := HZw2.out; have := Lx.out; have := HZw3.out; have := HZw4.out; have := Ly.out; have := HZw5.out; have := HZw6.out; have := Lm.out; have := HZw7.out; have := HZw8.out; have := HZw9.out; omega))).trans Bx.out)
  replace By := Aside0.mk ((hk.2 _ (by have := HZw1.out; have := HZw2.out; have := Lx.out; have := HZw3.out; have := HZw4.out; have := Ly.out; have := HZw5.out; have := HZw6.out; have := Lm.out; have := HZw7.out; have := HZw8.out; have := HZw9.out; omega) (fun hm => (by have h3 := hm.1.1; have h4 := hm.1.2; have := HZw1.out; have := HZw2.out; have := Lx.out; have := HZw3.out; have := HZw4.out; have := Ly.out; have := HZw5.out; have := HZw6.out; have := Lm.out; have := HZw7.out; have := HZw8.out; have := HZw9.out; omega))).trans By.out)
  replace Bm := Aside0.mk ((hk.2 _ (by have := HZw1.out; have := HZw2.out; have := Lx.out; have := HZw3.out; have := HZw4.out; have := Ly.out; have := HZw5.out; have := HZw6.out; have := Lm.out; have := HZw7.out; have := HZw8.out; have := HZw9.out; omega) (fun hm => (by have h3 := hm.1.1; have h4 := hm.1.2; have := HZw1.out; have := HZw2.out; have := Lx.out; have := HZw3.out; have := HZw4.out; have := Ly.out; have := HZw5.out; have := HZw6.out; have := Lm.out; have := HZw7.out; have := HZw8.out; have := HZw9.out; omega))).trans Bm.out)
  replace Hx1 := Aside0.mk (Kd.S_step Hx1.out (fun k ho hlt => hk.2 k hlt (fun hm => (by have h1 := ho.1.1; have h2 := ho.1.2; have h3 := hm.1.1; have h4 := hm.1.2; have := HZw1.out; have := HZw2.out; have := Lx.out; have := HZw3.out; have := HZw4.out; have := Ly.out; have := HZw5.out; have := HZw6.out; have := Lm.out; have := HZw7.out; have := HZw8.out; have := HZw9.out; omega))))
  replace Hx4 := Aside0.mk (Kd.R_step Hx4.out (fun k ho hlt => hk.2 k hlt (fun hm => (by have h1 := ho.1.1; have h2 := ho.1.2; have h3 := hm.1.1; have h4 := hm.1.2; have := HZw1.out; have := HZw2.out; have := Lx.out; have := HZw3.out; have := HZw4.out; have := Ly.out; have := HZw5.out; have := HZw6.out; have := Lm.out; have := HZw7.out; have := HZw8.out; have := HZw9.out; omega))))
  replace Hx5 := Aside0.mk (Kd.R_step Hx5.out (fun k ho hlt => hk.2 k hlt (fun hm => (by have h1 := ho.1.1; have h2 := ho.1.2; have h3 := hm.1.1; have h4 := hm.1.2; have := HZw1.out; have := HZw2.out; have := Lx.out; have := HZw3.out; have := HZw4.out; have := Ly.out; have := HZw5.out; have := HZw6.out; have := Lm.out; have := HZw7.out; have := HZw8.out; have := HZw9.out; omega))))
  replace Hx7 := Aside0.mk (Kd.S_step Hx7.out (fun k ho hlt => hk.2 k hlt (fun hm => (by have h1 := ho.1.1; have h2 := ho.1.2; have h3 := hm.1.1; have h4 := hm.1.2; have := HZw1.out; have := HZw2.out; have := Lx.out; have := HZw3.out; have := HZw4.out; have := Ly.out; have := HZw5.out; have := HZw6.out; have := Lm.out; have := HZw7.out; have := HZw8.out; have := HZw9.out; omega))))
  replace Hx8 := Aside0.mk (Kd.R_step Hx8.out (fun k ho hlt => hk.2 k hlt (fun hm => (by have h1 := ho.1.1; have h2 := ho.1.2; have h3 := hm.1.1; have h4 := hm.1.2; have := HZw1.out; have := HZw2.out; have := Lx.out; have := HZw3.out; have := HZw4.out; have := Ly.out; have := HZw5.out; have := HZw6.out; have := Lm.out; have := HZw7.out; have := HZw8.out; have := HZw9.out; omega))))
  replace Hx9 := Aside0.mk (Kd.R_step Hx9.out (fun k ho hlt => hk.2 k hlt (fun hm => (by have h1 := ho.1.1; have h2 := ho.1.2; have h3 := hm.1.1; have h4 := hm.1.2; have := HZw1.out; have := HZw2.out; have := Lx.out; have := HZw3.out; have := HZw4.out; have := Ly.out; have := HZw5.out; have := HZw6.out; have := Lm.out; have := HZw7.out; have := HZw8.out; have := HZw9.out; omega))))
  replace Hx0 := Aside0.mk (Kd.R_step Hx0.out (fun k ho hlt => hk.2 k hlt (fun hm => (by have h1 := ho.1.1; have h2 := ho.1.2; have h3 := hm.1.1; have h4 := hm.1.2; have := HZw1.out; have := HZw2.out; have := Lx.out; have := HZw3.out; have := HZw4.out; have := Ly.out; have := HZw5.out; have := HZw6.out; have := Lm.out; have := HZw7.out; have := HZw8.out; have := HZw9.out; omega))))
  replace Hy1 := Aside0.mk (Kd.S_step Hy1.out (fun k ho hlt => hk.2 k hlt (fun hm => (by obtain ⟨q1, m1, c1, e1⟩ := ho.2; obtain ⟨q2, m2, c2, e2⟩ := hm.2; rw [e1] at e2; exact (by decide : ∀ q, q ∈ 135 :: Kd.E (k135) → ∀ q', q' ∈ 9 :: Kd.E (Kd.string) → q ≠ q') q1 m1 q2 m2 (by injection e2 with e2; injection e2)))))
  replace Hy4 := Aside0.mk (Kd.R_step Hy4.out (fun k ho hlt => hk.2 k hlt (fun hm => (by obtain ⟨q1, m1, c1, e1⟩ := ho.2; obtain ⟨q2, m2, c2, e2⟩ := hm.2; rw [e1] at e2; exact (by decide : ∀ q, q ∈ 192 :: Kd.E (k192) → ∀ q', q' ∈ 9 :: Kd.E (Kd.string) → q ≠ q') q1 m1 q2 m2 (by injection e2 with e2; injection e2)))))
  replace Hy5 := Aside0.mk (Kd.R_step Hy5.out (fun k ho hlt => hk.2 k hlt (fun hm => (by obtain ⟨q1, m1, c1, e1⟩ := ho.2; obtain ⟨q2, m2, c2, e2⟩ := hm.2; rw [e1] at e2; exact (by decide : ∀ q, q ∈ 120 :: Kd.E (k120) → ∀ q', q' ∈ 9 :: Kd.E (Kd.string) → q ≠ q') q1 m1 q2 m2 (by injection e2 with e2; injection e2)))))
  replace Hy7 := Aside0.mk (Kd.S_step Hy7.out (fun k ho hlt => hk.2 k hlt (fun hm => (by obtain ⟨q1, m1, c1, e1⟩ := ho.2; obtain ⟨q2, m2, c2, e2⟩ := hm.2; rw [e1] at e2; exact (by decide : ∀ q, q ∈ 97 :: Kd.E (k97) → ∀ q', q' ∈ 9 :: Kd.E (Kd.string) → q ≠ q') q1 m1 q2 m2 (by injection e2 with e2; injection e2)))))
  replace Hy8 := Aside0.mk (Kd.R_step Hy8.out (fun k ho hlt => hk.2 k hlt (fun hm => (by obtain ⟨q1, m1, c1, e1⟩ := ho.2; obtain ⟨q2, m2, c2, e2⟩ := hm.2; rw [e1] at e2; exact (by decide : ∀ q, q ∈ 3 :: Kd.E ((Kd.int .i64)) → ∀ q', q' ∈ 9 :: Kd.E (Kd.string) → q ≠ q') q1 m1 q2 m2 (by injection e2 with e2; injection e2)))))
  replace Hy0 := Aside0.mk (Kd.R_step Hy0.out (fun k ho hlt => hk.2 k hlt (fun hm => (by obtain ⟨q1, m1, c1, e1⟩ := ho.2; obtain ⟨q2, m2, c2, e2⟩ := hm.2; rw [e1] at e2; exact (by decide : ∀ q, q ∈ 168 :: Kd.E (k168) → ∀ q', q' ∈ 9 :: Kd.E (Kd.string) → q ≠ q') q1 m1 q2 m2 (by injection e2 with e2; injection e2)))))
  replace Hy9 := Aside0.mk (R_reok ry9 (fun k hk => Hy9.out.1 k hk) (fun _ _ x cs hM => hM))
  have HZw10 := Aside0.mk hk.1
  replace HB := Aside0.mk hb
  clear hb hk ry9
  have fm0 : w10.cell? ⟨w5.heap.size, 0, none⟩ = some (.bool true) := box_cell Bm.out 0 rfl
  have fm1 : w10.cell? ⟨w5.heap.size, 1, none⟩ = some (.slice Ay1 L1.length cy1) := box_cell Bm.out 1 rfl
  have fm2 : w10.cell? ⟨w5.heap.size, 2, none⟩ = some (.int .i64 2) := box_cell Bm.out 2 rfl
  have fm3 : w10.cell? ⟨w5.heap.size, 3, none⟩ = some (.int .i64 1) := box_cell Bm.out 3 rfl
  have fm4 : w10.cell? ⟨w5.heap.size, 4, none⟩ = some (.slice Ay4 L4.length cy4) := box_cell Bm.out 4 rfl
  have fm5 : w10.cell? ⟨w5.heap.size, 5, none⟩ = some (.slice Ay5 L5.length cy5) := box_cell Bm.out 5 rfl
  have fm6 : w10.cell? ⟨w5.heap.size, 6, none⟩ = some (.int .i64 0) := box_cell Bm.out 6 rfl
  have fm7 : w10.cell? ⟨w5.heap.size, 7, none⟩ = some (.slice Ay7 L7.length cy7) := box_cell Bm.out 7 rfl
  have fm8 : w10.cell? ⟨w5.heap.size, 8, none⟩ = some (.slice Ay8 L8.length cy8) := box_cell Bm.out 8 rfl
  have fm9 : w10.cell? ⟨w5.heap.size, 9, none⟩ = some (.slice Ay9 L9.length cy9) := box_cell Bm.out 9 rfl
  have fm10 : w10.cell? ⟨w5.heap.size, 10, none⟩ = some (.slice Ay0 L0.length cy0) := box_cell Bm.out 10 rfl
  obtain ⟨fu11, hfu11⟩ := ev_rounds (HM0.out)
  have hcall := laws_markSizeS.calls fu11 (fun k_ => (w2.heap.size ≤ k_ ∧ k_ < w3.heap.size) ∧ ∃ q, q ∈ 168 :: Kd.E (k168) ∧ ∃ cells, w3.heap[k_]? = some (.cells cells q (0, 0))) (.slice Ay0 L0.length cy0) L0 n5 R M0 w w10 HB.out Hy0.out hfu11
  go_wp2_with fail
  refine hcall.mono ?_
  clear hcall
  rintro e w11 ⟨rfl, ry0, hb, hk⟩
  clear fm0 fm1 fm2 fm3 fm4 fm5 fm6 fm7 fm8 fm9 fm10
  replace Bx := Aside0.mk ((hk.2 _ (by have := HZw1.out; have := HZw2.out; have := Lx.out; have := HZw3.out; have := HZw4.out; have := Ly.out; have := HZw5.out; have := HZw6.out; have := Lm.out; have := HZw7.out; have := HZw8.out; have := HZw9.out; have := HZw10.out; omega) (fun hm => (by have h3 := hm.1.1; have h4 := hm.1.2; have := HZw1.out; have := HZw2.out; have := Lx.out; have := HZw3.out; have := HZw4.out; have := Ly.out; have := HZw5.out; have := HZw6.out; have := Lm.out; have := HZw7.out; have := HZw8.out; have := HZw9.out; have := HZw10.out; omega))).trans Bx.out)
  replace By := Aside0.mk ((hk.2 _ (by have := HZw1.out; have := HZw2.out; have := Lx.out; have := HZw3.out; have := HZw4.out; have := Ly.out; have := HZw5.out; have := HZw6.out; have := Lm.out; have := HZw7.out; have := HZw8.out; have := HZw9.out; have := HZw10.out; omega) (fun hm => (by have h3 := hm.1.1; have h4 := hm.1.2; have := HZw1.out; have := HZw2.out; have := Lx.out; have := HZw3.out; have := HZw4.out; have := Ly.out; have := HZw5.out; have := HZw6.out; have := Lm.out; have := HZw7.out; have := HZw8.out; have := HZw9.out; have := HZw10.out; omega))).trans By.out)
  replace Bm := Aside0.mk ((hk.2 _ (by have := HZw1.out; have := HZw2.out; have := Lx.out; have := HZw3.out; have := HZw4.out; have := Ly.out; have := HZw5.out; have := HZw6.out; have := Lm.out; have := HZw7.out; have := HZw8.out; have := HZw9.out; have := HZw10.out; omega) (fun hm => (by have h3 := hm.1.1; have h4 := hm.1.2; have := HZw1.out; have := HZw2.out; have := Lx.out; have := HZw3.out; have := HZw4.out; have := Ly.out; have := HZw5.out; have := HZw6.out; have := Lm.out; have := HZw7.out; have := HZw8.out; have := HZw9.out; have := HZw10.out; omega))).trans Bm.out)
  replace Hx1 := Aside0.mk (Kd.S_step Hx1.out (fun k ho hlt => hk.2 k hlt (fun hm => (by have h1 := ho.1.1; have h2 := ho.1.2; have h3 := hm.1.1; have h4 := hm.1.2; have := HZw1.out; have := HZw2.out; have := Lx.out; have := HZw3.out; have := HZw4.out; have := Ly.out; have := HZw5.out; have := HZw6.out; have := Lm.out; have := HZw7.out; have := HZw8.out; have := HZw9.out; have := HZw10.out; omega))))
  replace Hx4 := Aside0.mk (Kd.R_step Hx4.out (fun k ho hlt => hk.2 k hlt (fun hm => (by have h1 := ho.1.1; have h2 := ho.1.2; have h3 := hm.1.1; have h4 := hm.1.2; have := HZw1.out; have := HZw2.out; have := Lx.out; have := HZw3.out; have := HZw4.out; have := Ly.out; have := HZw5.out; have := HZw6.out; have := Lm.out; have := HZw7.out; have := HZw8.out; have := HZw9.out; have := HZw10.out; omega))))
  replace Hx5 := Aside0.mk (Kd.R_step Hx5.out (fun k ho hlt => hk.2 k hlt (fun hm => (by have h1 := ho.1.1; have h2 := ho.1.2; have h3 := hm.1.1; have h4 := hm.1.2; have := HZw1.out; have := HZw2.out; have := Lx.out; have := HZw3.out; have := HZw4.out; have := Ly.out; have := HZw5.out; have := HZw6.out; have := Lm.out; have := HZw7.out; have := HZw8.out; have := HZw9.out; have := HZw10.out; omega))))
  replace Hx7 := Aside0.mk (Kd.S_step Hx7.out (fun k ho hlt => hk.2 k hlt (fun hm => (by have h1 := ho.1.1; have h2 := ho.1.2; have h3 := hm.1.1; have h4 := hm.1.2; have := HZw1.out; have := HZw2.out; have := Lx.out; have := HZw3.out; have := HZw4.out; have := Ly.out; have := HZw5.out; have := HZw6.out; have := Lm.out; have := HZw7.out; have := HZw8.out; have := HZw9.out; have := HZw10.out; omega))))
  replace Hx8 := Aside0.mk (Kd.R_step Hx8.out (fun k ho hlt => hk.2 k hlt (fun hm => (by have h1 := ho.1.1; have h2 := ho.1.2; have h3 := hm.1.1; have h4 := hm.1.2; have := HZw1.out; have := HZw2.out; have := Lx.out; have := HZw3.out; have := HZw4.out; have := Ly.out; have := HZw5.out; have := HZw6.out; have := Lm.out; have := HZw7.out; have := HZw8.out; have := HZw9.out; have := HZw10.out; omega))))
  replace Hx9 := Aside0.mk (Kd.R_step Hx9.out (fun k ho hlt => hk.2 k hlt (fun hm => (by have h1 := ho.1.1; have h2 := ho.1.2; have h3 := hm.1.1; have h4 := hm.1.2; have := HZw1.out; have := HZw2.out; have := Lx.out; have := HZw3.out; have := HZw4.out; have := Ly.out; have := HZw5.out; have := HZw6.out; have := Lm.out; have := HZw7.out; have := HZw8.out; have := HZw9.out; have := HZw10.out; omega))))
  replace Hx0 := Aside0.mk (Kd.R_step Hx0.out (fun k ho hlt => hk.2 k hlt (fun hm => (by have h1 := ho.1.1; have h2 := ho.1.2; have h3 := hm.1.1; have h4 := hm.1.2; have := HZw1.out; have := HZw2.out; have := Lx.out; have := HZw3.out; have := HZw4.out; have := Ly.out; have := HZw5.out; have := HZw6.out; have := Lm.out; have := HZw7.out; have := HZw8.out; have := HZw9.out; have := HZw10.out; omega))))
  replace Hy1 := Aside0.mk (Kd.S_step Hy1.out (fun k ho hlt => hk.2 k hlt (fun hm => (by obtain ⟨q1, m1, c1, e1⟩ := ho.2; obtain ⟨q2, m2, c2, e2⟩ := hm.2; rw [e1] at e2; exact (by decide : ∀ q, q ∈ 135 :: Kd.E (k135) → ∀ q', q' ∈ 168 :: Kd.E (k168) → q ≠ q') q1 m1 q2 m2 (by injection e2 with e2; injection e2)))))
  replace Hy4 := Aside0.mk (Kd.R_step Hy4.out (fun k ho hlt => hk.2 k hlt (fun hm => (by obtain ⟨q1, m1, c1, e1⟩ := ho.2; obtain ⟨q2, m2, c2, e2⟩ := hm.2; rw [e1] at e2; exact (by decide : ∀ q, q ∈ 192 :: Kd.E (k192) → ∀ q', q' ∈ 168 :: Kd.E (k168) → q ≠ q') q1 m1 q2 m2 (by injection e2 with e2; injection e2)))))
  replace Hy5 := Aside0.mk (Kd.R_step Hy5.out (fun k ho hlt => hk.2 k hlt (fun hm => (by obtain ⟨q1, m1, c1, e1⟩ := ho.2; obtain ⟨q2, m2, c2, e2⟩ := hm.2; rw [e1] at e2; exact (by decide : ∀ q, q ∈ 120 :: Kd.E (k120) → ∀ q', q' ∈ 168 :: Kd.E (k168) → q ≠ q') q1 m1 q2 m2 (by injection e2 with e2; injection e2)))))
  replace Hy7 := Aside0.mk (Kd.S_step Hy7.out (fun k ho hlt => hk.2 k hlt (fun hm => (by obtain ⟨q1, m1, c1, e1⟩ := ho.2; obtain ⟨q2, m2, c2, e2⟩ := hm.2; rw [e1] at e2; exact (by decide : ∀ q, q ∈ 97 :: Kd.E (k97) → ∀ q', q' ∈ 168 :: Kd.E (k168) → q ≠ q') q1 m1 q2 m2 (by injection e2 with e2; injection e2)))))
  replace Hy8 := Aside0.mk (Kd.R_step Hy8.out (fun k ho hlt => hk.2 k hlt (fun hm => (by obtain ⟨q1, m1, c1, e1⟩ := ho.2; obtain ⟨q2, m2, c2, e2⟩ := hm.2; rw [e1] at e2; exact (by decide : ∀ q, q ∈ 3 :: Kd.E ((Kd.int .i64)) → ∀ q', q' ∈ 168 :: Kd.E (k168) → q ≠ q') q1 m1 q2 m2 (by injection e2 with e2; injection e2)))))
  replace Hy9 := Aside0.mk (Kd.R_step Hy9.out (fun k ho hlt => hk.2 k hlt (fun hm => (by obtain ⟨q1, m1, c1, e1⟩ := ho.2; obtain ⟨q2, m2, c2, e2⟩ := hm.2; rw [e1] at e2; exact (by decide : ∀ q, q ∈ 9 :: Kd.E (Kd.string) → ∀ q', q' ∈ 168 :: Kd.E (k168) → q ≠ q') q1 m1 q2 m2 (by injection e2 with e2; injection e2)))))
  replace Hy0 := Aside0.mk (R_reok ry0 (fun k hk => Hy0.out.1 k hk) (fun _ _ x cs hM => by obtain rfl := k168_openM hM; exact k168_mkM _ _ _ x))
  have HZw11 := Aside0.mk hk.1
  replace HB := Aside0.mk hb
  clear hb hk ry0
  clear E1 E4 E5 E2 E3 E7 HCN B2 G2 HM8 HM9 HM0
  have fy0 : w11.cell? ⟨w3.heap.size, 0, none⟩ = some (.bool true) := box_cell By.out 0 rfl
  have fy1 : w11.cell? ⟨w3.heap.size, 1, none⟩ = some (.slice Ay1 L1.length cy1) := box_cell By.out 1 rfl
  have fy2 : w11.cell? ⟨w3.heap.size, 2, none⟩ = some (.int .i64 2) := box_cell By.out 2 rfl
  have fy3 : w11.cell? ⟨w3.heap.size, 3, none⟩ = some (.int .i64 1) := box_cell By.out 3 rfl
  have fy4 : w11.cell? ⟨w3.heap.size, 4, none⟩ = some (.slice Ay4 L4.length cy4) := box_cell By.out 4 rfl
  have fy5 : w11.cell? ⟨w3.heap.size, 5, none⟩ = some (.slice Ay5 L5.length cy5) := box_cell By.out 5 rfl
  have fy6 : w11.cell? ⟨w3.heap.size, 6, none⟩ = some (.int .i64 0) := box_cell By.out 6 rfl
  have fy7 : w11.cell? ⟨w3.heap.size, 7, none⟩ = some (.slice Ay7 L7.length cy7) := box_cell By.out 7 rfl
  have fy8 : w11.cell? ⟨w3.heap.size, 8, none⟩ = some (.slice Ay8 L8.length cy8) := box_cell By.out 8 rfl
  have fy9 : w11.cell? ⟨w3.heap.size, 9, none⟩ = some (.slice Ay9 L9.length cy9) := box_cell By.out 9 rfl
  have fy10 : w11.cell? ⟨w3.heap.size, 10, none⟩ = some (.slice Ay0 L0.length cy0) := box_cell By.out 10 rfl
  have hcall := laws_heldWorld.calls qh true Ay1 cy1 M1 2 1 Ay4 cy4 M4 Ay5 cy5 M5 0 Ay7 cy7 M7 Ay8 cy8 M8 Ay9 cy9 M9 Ay0 cy0 M0 1 R w11 (Kd.S_reads' Hy1.out).2.2 ((Kd.S_reads' Hy1.out).1 ▸ (Kd.S_reads' Hy1.out).2.1) (Kd.R_reads' Hy4.out).2.2 ((Kd.R_reads' Hy4.out).1 ▸ (Kd.R_reads' Hy4.out).2.1) (Kd.R_reads' Hy5.out).2.2 ((Kd.R_reads' Hy5.out).1 ▸ (Kd.R_reads' Hy5.out).2.1) (Kd.S_reads' Hy7.out).2.2 ((Kd.S_reads' Hy7.out).1 ▸ (Kd.S_reads' Hy7.out).2.1) (Kd.R_reads' Hy8.out).2.2 ((Kd.R_reads' Hy8.out).1 ▸ (Kd.R_reads' Hy8.out).2.1) (Kd.R_reads' Hy9.out).2.2 ((Kd.R_reads' Hy9.out).1 ▸ (Kd.R_reads' Hy9.out).2.1) (Kd.R_reads' Hy0.out).2.2 ((Kd.R_reads' Hy0.out).1 ▸ (Kd.R_reads' Hy0.out).2.1) hh
  rw [← (Kd.S_reads' Hy1.out).1] at hcall
  rw [← (Kd.R_reads' Hy4.out).1] at hcall
  rw [← (Kd.R_reads' Hy5.out).1] at hcall
  rw [← (Kd.S_reads' Hy7.out).1] at hcall
  rw [← (Kd.R_reads' Hy8.out).1] at hcall
  rw [← (Kd.R_reads' Hy9.out).1] at hcall
  rw [← (Kd.R_reads' Hy0.out).1] at hcall
  go_wp2_with fail
  refine hcall.mono ?_
  clear hcall
  rintro e w12 ⟨rfl, hb⟩
  clear fy0 fy1 fy2 fy3 fy4 fy5 fy6 fy7 fy8 fy9 fy10
  replace Bx := Aside0.mk ((hb.block _ (by have := HZw1.out; have := HZw2.out; have := Lx.out; have := HZw3.out; have := HZw4.out; have := Ly.out; have := HZw5.out; have := HZw6.out; have := Lm.out; have := HZw7.out; have := HZw8.out; have := HZw9.out; have := HZw10.out; have := HZw11.out; omega)).trans Bx.out)
  replace By := Aside0.mk ((hb.block _ (by have := HZw1.out; have := HZw2.out; have := Lx.out; have := HZw3.out; have := HZw4.out; have := Ly.out; have := HZw5.out; have := HZw6.out; have := Lm.out; have := HZw7.out; have := HZw8.out; have := HZw9.out; have := HZw10.out; have := HZw11.out; omega)).trans By.out)
  replace Bm := Aside0.mk ((hb.block _ (by have := HZw1.out; have := HZw2.out; have := Lx.out; have := HZw3.out; have := HZw4.out; have := Ly.out; have := HZw5.out; have := HZw6.out; have := Lm.out; have := HZw7.out; have := HZw8.out; have := HZw9.out; have := HZw10.out; have := HZw11.out; omega)).trans Bm.out)
  replace Hx1 := Aside0.mk (Kd.S_below Hx1.out hb)
  replace Hx4 := Aside0.mk (Kd.R_below Hx4.out hb)
  replace Hx5 := Aside0.mk (Kd.R_below Hx5.out hb)
  replace Hx7 := Aside0.mk (Kd.S_below Hx7.out hb)
  replace Hx8 := Aside0.mk (Kd.R_below Hx8.out hb)
  replace Hx9 := Aside0.mk (Kd.R_below Hx9.out hb)
  replace Hx0 := Aside0.mk (Kd.R_below Hx0.out hb)
  replace Hy1 := Aside0.mk (Kd.S_below Hy1.out hb)
  replace Hy4 := Aside0.mk (Kd.R_below Hy4.out hb)
  replace Hy5 := Aside0.mk (Kd.R_below Hy5.out hb)
  replace Hy7 := Aside0.mk (Kd.S_below Hy7.out hb)
  replace Hy8 := Aside0.mk (Kd.R_below Hy8.out hb)
  replace Hy9 := Aside0.mk (Kd.R_below Hy9.out hb)
  replace Hy0 := Aside0.mk (Kd.R_below Hy0.out hb)
  have HZw12 := Aside0.mk hb.size
  replace HB := Aside0.mk (HB.out.trans (hb.mono HB.out.size))
  clear hb
  go_wp2_with fail
  refine (impl_WorldNew.calls qI true L1 2 1 L4 L5 0 L7 L8 L9 L0 w12 hI).mono ?_
  rintro e w13 ⟨v1, v4, v5, v7, v8, v9, v0, rfl, o1, o4, o5, o7, o8, o9, o0, hb⟩
  obtain ⟨Az1, cz1, rfl⟩ := Kd.S_slice o1
  obtain ⟨Az4, cz4, rfl⟩ := Kd.R_slice o4
  obtain ⟨Az5, cz5, rfl⟩ := Kd.R_slice o5
  obtain ⟨Az7, cz7, rfl⟩ := Kd.S_slice o7
  obtain ⟨Az8, cz8, rfl⟩ := Kd.R_slice o8
  obtain ⟨Az9, cz9, rfl⟩ := Kd.R_slice o9
  obtain ⟨Az0, cz0, rfl⟩ := Kd.R_slice o0
  have Hz1 := Aside0.mk (Kd.S_lower (Kd.S_mono (Kd.S_bound o1) (ok' := (fun k_ => (w12.heap.size ≤ k_ ∧ k_ < w13.heap.size) ∧ ∃ q, q ∈ 135 :: Kd.E (k135) ∧ ∃ cells, w13.heap[k_]? = some (.cells cells q (0, 0)))) (fun k hk => ⟨⟨hk.2.1, hk.2.2.1⟩, hk.2.2.2⟩)) HB.out.size)
  have Hz4 := Aside0.mk (Kd.R_lower (Kd.R_mono (Kd.R_bound o4) (ok' := (fun k_ => (w12.heap.size ≤ k_ ∧ k_ < w13.heap.size) ∧ ∃ q, q ∈ 192 :: Kd.E (k192) ∧ ∃ cells, w13.heap[k_]? = some (.cells cells q (0, 0)))) (fun k hk => ⟨⟨hk.2.1, hk.2.2.1⟩, hk.2.2.2⟩)) HB.out.size)
  have Hz5 := Aside0.mk (Kd.R_lower (Kd.R_mono (Kd.R_bound o5) (ok' := (fun k_ => (w12.heap.size ≤ k_ ∧ k_ < w13.heap.size) ∧ ∃ q, q ∈ 120 :: Kd.E (k120) ∧ ∃ cells, w13.heap[k_]? = some (.cells cells q (0, 0)))) (fun k hk => ⟨⟨hk.2.1, hk.2.2.1⟩, hk.2.2.2⟩)) HB.out.size)
  have Hz7 := Aside0.mk (Kd.S_lower (Kd.S_mono (Kd.S_bound o7) (ok' := (fun k_ => (w12.heap.size ≤ k_ ∧ k_ < w13.heap.size) ∧ ∃ q, q ∈ 97 :: Kd.E (k97) ∧ ∃ cells, w13.heap[k_]? = some (.cells cells q (0, 0)))) (fun k hk => ⟨⟨hk.2.1, hk.2.2.1⟩, hk.2.2.2⟩)) HB.out.size)
  have Hz8 := Aside0.mk (Kd.R_lower (Kd.R_mono (Kd.R_bound o8) (ok' := (fun k_ => (w12.heap.size ≤ k_ ∧ k_ < w13.heap.size) ∧ ∃ q, q ∈ 3 :: Kd.E ((Kd.int .i64)) ∧ ∃ cells, w13.heap[k_]? = some (.cells cells q (0, 0)))) (fun k hk => ⟨⟨hk.2.1, hk.2.2.1⟩, hk.2.2.2⟩)) HB.out.size)
  have Hz9 := Aside0.mk (Kd.R_lower (Kd.R_mono (Kd.R_bound o9) (ok' := (fun k_ => (w12.heap.size ≤ k_ ∧ k_ < w13.heap.size) ∧ ∃ q, q ∈ 9 :: Kd.E (Kd.string) ∧ ∃ cells, w13.heap[k_]? = some (.cells cells q (0, 0)))) (fun k hk => ⟨⟨hk.2.1, hk.2.2.1⟩, hk.2.2.2⟩)) HB.out.size)
  have Hz0 := Aside0.mk (Kd.R_lower (Kd.R_mono (Kd.R_bound o0) (ok' := (fun k_ => (w12.heap.size ≤ k_ ∧ k_ < w13.heap.size) ∧ ∃ q, q ∈ 168 :: Kd.E (k168) ∧ ∃ cells, w13.heap[k_]? = some (.cells cells q (0, 0)))) (fun k hk => ⟨⟨hk.2.1, hk.2.2.1⟩, hk.2.2.2⟩)) HB.out.size)
  replace Bx := Aside0.mk ((hb.block _ (by have := HZw1.out; have := HZw2.out; have := Lx.out; have := HZw3.out; have := HZw4.out; have := Ly.out; have := HZw5.out; have := HZw6.out; have := Lm.out; have := HZw7.out; have := HZw8.out; have := HZw9.out; have := HZw10.out; have := HZw11.out; have := HZw12.out; omega)).trans Bx.out)
  replace By := Aside0.mk ((hb.block _ (by have := HZw1.out; have := HZw2.out; have := Lx.out; have := HZw3.out; have := HZw4.out; have := Ly.out; have := HZw5.out; have := HZw6.out; have := Lm.out; have := HZw7.out; have := HZw8.out; have := HZw9.out; have := HZw10.out; have := HZw11.out; have := HZw12.out; omega)).trans By.out)
  replace Bm := Aside0.mk ((hb.block _ (by have := HZw1.out; have := HZw2.out; have := Lx.out; have := HZw3.out; have := HZw4.out; have := Ly.out; have := HZw5.out; have := HZw6.out; have := Lm.out; have := HZw7.out; have := HZw8.out; have := HZw9.out; have := HZw10.out; have := HZw11.out; have := HZw12.out; omega)).trans Bm.out)
  replace Hx1 := Aside0.mk (Kd.S_below Hx1.out hb)
  replace Hx4 := Aside0.mk (Kd.R_below Hx4.out hb)
  replace Hx5 := Aside0.mk (Kd.R_below Hx5.out hb)
  replace Hx7 := Aside0.mk (Kd.S_below Hx7.out hb)
  replace Hx8 := Aside0.mk (Kd.R_below Hx8.out hb)
  replace Hx9 := Aside0.mk (Kd.R_below Hx9.out hb)
  replace Hx0 := Aside0.mk (Kd.R_below Hx0.out hb)
  replace Hy1 := Aside0.mk (Kd.S_below Hy1.out hb)
  replace Hy4 := Aside0.mk (Kd.R_below Hy4.out hb)
  replace Hy5 := Aside0.mk (Kd.R_below Hy5.out hb)
  replace Hy7 := Aside0.mk (Kd.S_below Hy7.out hb)
  replace Hy8 := Aside0.mk (Kd.R_below Hy8.out hb)
  replace Hy9 := Aside0.mk (Kd.R_below Hy9.out hb)
  replace Hy0 := Aside0.mk (Kd.R_below Hy0.out hb)
  have HZw13 := Aside0.mk hb.size
  replace HB := Aside0.mk (HB.out.trans (hb.mono HB.out.size))
  clear hb o1 o4 o5 o7 o8 o9 o0
  have fx0 : w13.cell? ⟨w1.heap.size, 0, none⟩ = some (.bool true) := box_cell Bx.out 0 rfl
  have fx1 : w13.cell? ⟨w1.heap.size, 1, none⟩ = some (.slice Ax1 L1.length cx1) := box_cell Bx.out 1 rfl
  have fx2 : w13.cell? ⟨w1.heap.size, 2, none⟩ = some (.int .i64 2) := box_cell Bx.out 2 rfl
  have fx3 : w13.cell? ⟨w1.heap.size, 3, none⟩ = some (.int .i64 1) := box_cell Bx.out 3 rfl
  have fx4 : w13.cell? ⟨w1.heap.size, 4, none⟩ = some (.slice Ax4 L4.length cx4) := box_cell Bx.out 4 rfl
  have fx5 : w13.cell? ⟨w1.heap.size, 5, none⟩ = some (.slice Ax5 L5.length cx5) := box_cell Bx.out 5 rfl
  have fx6 : w13.cell? ⟨w1.heap.size, 6, none⟩ = some (.int .i64 0) := box_cell Bx.out 6 rfl
  have fx7 : w13.cell? ⟨w1.heap.size, 7, none⟩ = some (.slice Ax7 L7.length cx7) := box_cell Bx.out 7 rfl
  have fx8 : w13.cell? ⟨w1.heap.size, 8, none⟩ = some (.slice Ax8 L8.length cx8) := box_cell Bx.out 8 rfl
  have fx9 : w13.cell? ⟨w1.heap.size, 9, none⟩ = some (.slice Ax9 L9.length cx9) := box_cell Bx.out 9 rfl
  have fx10 : w13.cell? ⟨w1.heap.size, 10, none⟩ = some (.slice Ax0 L0.length cx0) := box_cell Bx.out 10 rfl
  have lx : w1.heap.size < w13.heap.size := by have := HZw1.out; have := HZw2.out; have := Lx.out; have := HZw3.out; have := HZw4.out; have := Ly.out; have := HZw5.out; have := HZw6.out; have := Lm.out; have := HZw7.out; have := HZw8.out; have := HZw9.out; have := HZw10.out; have := HZw11.out; have := HZw12.out; have := HZw13.out; omega
  go_wp2_with fail
  obtain ⟨w14, hw⟩ : ∃ w_, w_ = w13.alloc (.cells #[.bool true, .slice Az1 L1.length cz1, .int .i64 2, .int .i64 1, .slice Az4 L4.length cz4, .slice Az5 L5.length cz5, .int .i64 0, .slice Az7 L7.length cz7, .slice Az8 L8.length cz8, .slice Az9 L9.length cz9, .slice Az0 L0.length cz0] 77) := ⟨_, rfl⟩
  rw [← hw]
  have hb : Below w13.heap.size w13 w14 := hw ▸ (Below.refl w13.heap.size w13).alloc (Nat.le_refl _) _
  have Bz := Aside0.mk (show w14.heap[w13.heap.size]? = some (.cells #[.bool true, .slice Az1 L1.length cz1, .int .i64 2, .int .i64 1, .slice Az4 L4.length cz4, .slice Az5 L5.length cz5, .int .i64 0, .slice Az7 L7.length cz7, .slice Az8 L8.length cz8, .slice Az9 L9.length cz9, .slice Az0 L0.length cz0] 77 (0, 0)) by rw [hw]; exact Array.getElem?_push_size)
  have Lz := Aside0.mk (show w13.heap.size < w14.heap.size by rw [hw]; exact Nat.lt_of_lt_of_eq (Nat.lt_succ_self _) (Array.size_push _).symm)
  clear fx0 fx1 fx2 fx3 fx4 fx5 fx6 fx7 fx8 fx9 fx10 lx
  replace Bx := Aside0.mk ((hb.block _ (by have := HZw1.out; have := HZw2.out; have := Lx.out; have := HZw3.out; have := HZw4.out; have := Ly.out; have := HZw5.out; have := HZw6.out; have := Lm.out; have := HZw7.out; have := HZw8.out; have := HZw9.out; have := HZw10.out; have := HZw11.out; have := HZw12.out; have := HZw13.out; omega)).trans Bx.out)
  replace By := Aside0.mk ((hb.block _ (by have := HZw1.out; have := HZw2.out; have := Lx.out; have := HZw3.out; have := HZw4.out; have := Ly.out; have := HZw5.out; have := HZw6.out; have := Lm.out; have := HZw7.out; have := HZw8.out; have := HZw9.out; have := HZw10.out; have := HZw11.out; have := HZw12.out; have := HZw13.out; omega)).trans By.out)
  replace Bm := Aside0.mk ((hb.block _ (by have := HZw1.out; have := HZw2.out; have := Lx.out; have := HZw3.out; have := HZw4.out; have := Ly.out; have := HZw5.out; have := HZw6.out; have := Lm.out; have := HZw7.out; have := HZw8.out; have := HZw9.out; have := HZw10.out; have := HZw11.out; have := HZw12.out; have := HZw13.out; omega)).trans Bm.out)
  replace Hx1 := Aside0.mk (Kd.S_below Hx1.out hb)
  replace Hx4 := Aside0.mk (Kd.R_below Hx4.out hb)
  replace Hx5 := Aside0.mk (Kd.R_below Hx5.out hb)
  replace Hx7 := Aside0.mk (Kd.S_below Hx7.out hb)
  replace Hx8 := Aside0.mk (Kd.R_below Hx8.out hb)
  replace Hx9 := Aside0.mk (Kd.R_below Hx9.out hb)
  replace Hx0 := Aside0.mk (Kd.R_below Hx0.out hb)
  replace Hy1 := Aside0.mk (Kd.S_below Hy1.out hb)
  replace Hy4 := Aside0.mk (Kd.R_below Hy4.out hb)
  replace Hy5 := Aside0.mk (Kd.R_below Hy5.out hb)
  replace Hy7 := Aside0.mk (Kd.S_below Hy7.out hb)
  replace Hy8 := Aside0.mk (Kd.R_below Hy8.out hb)
  replace Hy9 := Aside0.mk (Kd.R_below Hy9.out hb)
  replace Hy0 := Aside0.mk (Kd.R_below Hy0.out hb)
  replace Hz1 := Aside0.mk (Kd.S_below Hz1.out hb)
  replace Hz4 := Aside0.mk (Kd.R_below Hz4.out hb)
  replace Hz5 := Aside0.mk (Kd.R_below Hz5.out hb)
  replace Hz7 := Aside0.mk (Kd.S_below Hz7.out hb)
  replace Hz8 := Aside0.mk (Kd.R_below Hz8.out hb)
  replace Hz9 := Aside0.mk (Kd.R_below Hz9.out hb)
  replace Hz0 := Aside0.mk (Kd.R_below Hz0.out hb)
  have HZw14 := Aside0.mk hb.size
  replace HB := Aside0.mk (HB.out.trans (hb.mono HB.out.size))
  clear hb hw
  have hcall := laws_eqWorld.calls qq true Az1 cz1 L1 2 1 Az4 cz4 L4 Az5 cz5 L5 0 Az7 cz7 L7 Az8 cz8 L8 Az9 cz9 L9 Az0 cz0 L0 true Ax1 cx1 L1 2 1 Ax4 cx4 L4 Ax5 cx5 L5 0 Ax7 cx7 L7 Ax8 cx8 L8 Ax9 cx9 L9 Ax0 cx0 L0 true w14 (Kd.S_reads' Hz1.out).2.2 ((Kd.S_reads' Hz1.out).1 ▸ (Kd.S_reads' Hz1.out).2.1) (Kd.R_reads' Hz4.out).2.2 ((Kd.R_reads' Hz4.out).1 ▸ (Kd.R_reads' Hz4.out).2.1) (Kd.R_reads' Hz5.out).2.2 ((Kd.R_reads' Hz5.out).1 ▸ (Kd.R_reads' Hz5.out).2.1) (Kd.S_reads' Hz7.out).2.2 ((Kd.S_reads' Hz7.out).1 ▸ (Kd.S_reads' Hz7.out).2.1) (Kd.R_reads' Hz8.out).2.2 ((Kd.R_reads' Hz8.out).1 ▸ (Kd.R_reads' Hz8.out).2.1) (Kd.R_reads' Hz9.out).2.2 ((Kd.R_reads' Hz9.out).1 ▸ (Kd.R_reads' Hz9.out).2.1) (Kd.R_reads' Hz0.out).2.2 ((Kd.R_reads' Hz0.out).1 ▸ (Kd.R_reads' Hz0.out).2.1) (Kd.S_reads' Hx1.out).2.2 ((Kd.S_reads' Hx1.out).1 ▸ (Kd.S_reads' Hx1.out).2.1) (Kd.R_reads' Hx4.out).2.2 ((Kd.R_reads' Hx4.out).1 ▸ (Kd.R_reads' Hx4.out).2.1) (Kd.R_reads' Hx5.out).2.2 ((Kd.R_reads' Hx5.out).1 ▸ (Kd.R_reads' Hx5.out).2.1) (Kd.S_reads' Hx7.out).2.2 ((Kd.S_reads' Hx7.out).1 ▸ (Kd.S_reads' Hx7.out).2.1) (Kd.R_reads' Hx8.out).2.2 ((Kd.R_reads' Hx8.out).1 ▸ (Kd.R_reads' Hx8.out).2.1) (Kd.R_reads' Hx9.out).2.2 ((Kd.R_reads' Hx9.out).1 ▸ (Kd.R_reads' Hx9.out).2.1) (Kd.R_reads' Hx0.out).2.2 ((Kd.R_reads' Hx0.out).1 ▸ (Kd.R_reads' Hx0.out).2.1) hq
  refine hcall.mono ?_
  clear hcall
  rintro e w15 ⟨rfl, hb⟩
  replace Bx := Aside0.mk ((hb.block _ (by have := HZw1.out; have := HZw2.out; have := Lx.out; have := HZw3.out; have := HZw4.out; have := Ly.out; have := HZw5.out; have := HZw6.out; have := Lm.out; have := HZw7.out; have := HZw8.out; have := HZw9.out; have := HZw10.out; have := HZw11.out; have := HZw12.out; have := HZw13.out; have := HZw14.out; have := Lz.out; omega)).trans Bx.out)
  replace By := Aside0.mk ((hb.block _ (by have := HZw1.out; have := HZw2.out; have := Lx.out; have := HZw3.out; have := HZw4.out; have := Ly.out; have := HZw5.out; have := HZw6.out; have := Lm.out; have := HZw7.out; have := HZw8.out; have := HZw9.out; have := HZw10.out; have := HZw11.out; have := HZw12.out; have := HZw13.out; have := HZw14.out; have := Lz.out; omega)).trans By.out)
  replace Bm := Aside0.mk ((hb.block _ (by have := HZw1.out; have := HZw2.out; have := Lx.out; have := HZw3.out; have := HZw4.out; have := Ly.out; have := HZw5.out; have := HZw6.out; have := Lm.out; have := HZw7.out; have := HZw8.out; have := HZw9.out; have := HZw10.out; have := HZw11.out; have := HZw12.out; have := HZw13.out; have := HZw14.out; have := Lz.out; omega)).trans Bm.out)
  replace Bz := Aside0.mk ((hb.block _ (by have := HZw1.out; have := HZw2.out; have := Lx.out; have := HZw3.out; have := HZw4.out; have := Ly.out; have := HZw5.out; have := HZw6.out; have := Lm.out; have := HZw7.out; have := HZw8.out; have := HZw9.out; have := HZw10.out; have := HZw11.out; have := HZw12.out; have := HZw13.out; have := HZw14.out; have := Lz.out; omega)).trans Bz.out)
  replace Hx1 := Aside0.mk (Kd.S_below Hx1.out hb)
  replace Hx4 := Aside0.mk (Kd.R_below Hx4.out hb)
  replace Hx5 := Aside0.mk (Kd.R_below Hx5.out hb)
  replace Hx7 := Aside0.mk (Kd.S_below Hx7.out hb)
  replace Hx8 := Aside0.mk (Kd.R_below Hx8.out hb)
  replace Hx9 := Aside0.mk (Kd.R_below Hx9.out hb)
  replace Hx0 := Aside0.mk (Kd.R_below Hx0.out hb)
  replace Hy1 := Aside0.mk (Kd.S_below Hy1.out hb)
  replace Hy4 := Aside0.mk (Kd.R_below Hy4.out hb)
  replace Hy5 := Aside0.mk (Kd.R_below Hy5.out hb)
  replace Hy7 := Aside0.mk (Kd.S_below Hy7.out hb)
  replace Hy8 := Aside0.mk (Kd.R_below Hy8.out hb)
  replace Hy9 := Aside0.mk (Kd.R_below Hy9.out hb)
  replace Hy0 := Aside0.mk (Kd.R_below Hy0.out hb)
  replace Hz1 := Aside0.mk (Kd.S_below Hz1.out hb)
  replace Hz4 := Aside0.mk (Kd.R_below Hz4.out hb)
  replace Hz5 := Aside0.mk (Kd.R_below Hz5.out hb)
  replace Hz7 := Aside0.mk (Kd.S_below Hz7.out hb)
  replace Hz8 := Aside0.mk (Kd.R_below Hz8.out hb)
  replace Hz9 := Aside0.mk (Kd.R_below Hz9.out hb)
  replace Hz0 := Aside0.mk (Kd.R_below Hz0.out hb)
  have HZw15 := Aside0.mk hb.size
  replace HB := Aside0.mk (HB.out.trans (hb.mono HB.out.size))
  clear hb
  have fy0 : w15.cell? ⟨w3.heap.size, 0, none⟩ = some (.bool true) := box_cell By.out 0 rfl
  have fy1 : w15.cell? ⟨w3.heap.size, 1, none⟩ = some (.slice Ay1 L1.length cy1) := box_cell By.out 1 rfl
  have fy2 : w15.cell? ⟨w3.heap.size, 2, none⟩ = some (.int .i64 2) := box_cell By.out 2 rfl
  have fy3 : w15.cell? ⟨w3.heap.size, 3, none⟩ = some (.int .i64 1) := box_cell By.out 3 rfl
  have fy4 : w15.cell? ⟨w3.heap.size, 4, none⟩ = some (.slice Ay4 L4.length cy4) := box_cell By.out 4 rfl
  have fy5 : w15.cell? ⟨w3.heap.size, 5, none⟩ = some (.slice Ay5 L5.length cy5) := box_cell By.out 5 rfl
  have fy6 : w15.cell? ⟨w3.heap.size, 6, none⟩ = some (.int .i64 0) := box_cell By.out 6 rfl
  have fy7 : w15.cell? ⟨w3.heap.size, 7, none⟩ = some (.slice Ay7 L7.length cy7) := box_cell By.out 7 rfl
  have fy8 : w15.cell? ⟨w3.heap.size, 8, none⟩ = some (.slice Ay8 L8.length cy8) := box_cell By.out 8 rfl
  have fy9 : w15.cell? ⟨w3.heap.size, 9, none⟩ = some (.slice Ay9 L9.length cy9) := box_cell By.out 9 rfl
  have fy10 : w15.cell? ⟨w3.heap.size, 10, none⟩ = some (.slice Ay0 L0.length cy0) := box_cell By.out 10 rfl
  have hcall := laws_heldWorld.calls qh true Ay1 cy1 M1 2 1 Ay4 cy4 M4 Ay5 cy5 M5 0 Ay7 cy7 M7 Ay8 cy8 M8 Ay9 cy9 M9 Ay0 cy0 M0 1 R w15 (Kd.S_reads' Hy1.out).2.2 ((Kd.S_reads' Hy1.out).1 ▸ (Kd.S_reads' Hy1.out).2.1) (Kd.R_reads' Hy4.out).2.2 ((Kd.R_reads' Hy4.out).1 ▸ (Kd.R_reads' Hy4.out).2.1) (Kd.R_reads' Hy5.out).2.2 ((Kd.R_reads' Hy5.out).1 ▸ (Kd.R_reads' Hy5.out).2.1) (Kd.S_reads' Hy7.out).2.2 ((Kd.S_reads' Hy7.out).1 ▸ (Kd.S_reads' Hy7.out).2.1) (Kd.R_reads' Hy8.out).2.2 ((Kd.R_reads' Hy8.out).1 ▸ (Kd.R_reads' Hy8.out).2.1) (Kd.R_reads' Hy9.out).2.2 ((Kd.R_reads' Hy9.out).1 ▸ (Kd.R_reads' Hy9.out).2.1) (Kd.R_reads' Hy0.out).2.2 ((Kd.R_reads' Hy0.out).1 ▸ (Kd.R_reads' Hy0.out).2.1) hh
  rw [← (Kd.S_reads' Hy1.out).1] at hcall
  rw [← (Kd.R_reads' Hy4.out).1] at hcall
  rw [← (Kd.R_reads' Hy5.out).1] at hcall
  rw [← (Kd.S_reads' Hy7.out).1] at hcall
  rw [← (Kd.R_reads' Hy8.out).1] at hcall
  rw [← (Kd.R_reads' Hy9.out).1] at hcall
  rw [← (Kd.R_reads' Hy0.out).1] at hcall
  go_wp2_with fail
  refine hcall.mono ?_
  clear hcall
  rintro e w16 ⟨rfl, hb⟩
  clear fy0 fy1 fy2 fy3 fy4 fy5 fy6 fy7 fy8 fy9 fy10
  replace Bx := Aside0.mk ((hb.block _ (by have := HZw1.out; have := HZw2.out; have := Lx.out; have := HZw3.out; have := HZw4.out; have := Ly.out; have := HZw5.out; have := HZw6.out; have := Lm.out; have := HZw7.out; have := HZw8.out; have := HZw9.out; have := HZw10.out; have := HZw11.out; have := HZw12.out; have := HZw13.out; have := HZw14.out; have := Lz.out; have := HZw15.out; omega)).trans Bx.out)
  replace By := Aside0.mk ((hb.block _ (by have := HZw1.out; have := HZw2.out; have := Lx.out; have := HZw3.out; have := HZw4.out; have := Ly.out; have := HZw5.out; have := HZw6.out; have := Lm.out; have := HZw7.out; have := HZw8.out; have := HZw9.out; have := HZw10.out; have := HZw11.out; have := HZw12.out; have := HZw13.out; have := HZw14.out; have := Lz.out; have := HZw15.out; omega)).trans By.out)
  replace Bm := Aside0.mk ((hb.block _ (by have := HZw1.out; have := HZw2.out; have := Lx.out; have := HZw3.out; have := HZw4.out; have := Ly.out; have := HZw5.out; have := HZw6.out; have := Lm.out; have := HZw7.out; have := HZw8.out; have := HZw9.out; have := HZw10.out; have := HZw11.out; have := HZw12.out; have := HZw13.out; have := HZw14.out; have := Lz.out; have := HZw15.out; omega)).trans Bm.out)
  replace Bz := Aside0.mk ((hb.block _ (by have := HZw1.out; have := HZw2.out; have := Lx.out; have := HZw3.out; have := HZw4.out; have := Ly.out; have := HZw5.out; have := HZw6.out; have := Lm.out; have := HZw7.out; have := HZw8.out; have := HZw9.out; have := HZw10.out; have := HZw11.out; have := HZw12.out; have := HZw13.out; have := HZw14.out; have := Lz.out; have := HZw15.out; omega)).trans Bz.out)
  replace Hx1 := Aside0.mk (Kd.S_below Hx1.out hb)
  replace Hx4 := Aside0.mk (Kd.R_below Hx4.out hb)
  replace Hx5 := Aside0.mk (Kd.R_below Hx5.out hb)
  replace Hx7 := Aside0.mk (Kd.S_below Hx7.out hb)
  replace Hx8 := Aside0.mk (Kd.R_below Hx8.out hb)
  replace Hx9 := Aside0.mk (Kd.R_below Hx9.out hb)
  replace Hx0 := Aside0.mk (Kd.R_below Hx0.out hb)
  replace Hy1 := Aside0.mk (Kd.S_below Hy1.out hb)
  replace Hy4 := Aside0.mk (Kd.R_below Hy4.out hb)
  replace Hy5 := Aside0.mk (Kd.R_below Hy5.out hb)
  replace Hy7 := Aside0.mk (Kd.S_below Hy7.out hb)
  replace Hy8 := Aside0.mk (Kd.R_below Hy8.out hb)
  replace Hy9 := Aside0.mk (Kd.R_below Hy9.out hb)
  replace Hy0 := Aside0.mk (Kd.R_below Hy0.out hb)
  replace Hz1 := Aside0.mk (Kd.S_below Hz1.out hb)
  replace Hz4 := Aside0.mk (Kd.R_below Hz4.out hb)
  replace Hz5 := Aside0.mk (Kd.R_below Hz5.out hb)
  replace Hz7 := Aside0.mk (Kd.S_below Hz7.out hb)
  replace Hz8 := Aside0.mk (Kd.R_below Hz8.out hb)
  replace Hz9 := Aside0.mk (Kd.R_below Hz9.out hb)
  replace Hz0 := Aside0.mk (Kd.R_below Hz0.out hb)
  have HZw16 := Aside0.mk hb.size
  replace HB := Aside0.mk (HB.out.trans (hb.mono HB.out.size))
  clear hb
  go_wp2
  go_ret
  exact ⟨rfl, HB.out⟩
theorem heldWorld_ev (L1 : List S135) (L7 : List S97) (h1 : L1.length < 1000) (h7 : L7.length < 1000) (c1 : cntInodeS L1 < 100000) (c7 : cntHostS L7 < 100000) :
    Ev (fun k => laws_heldWorld.f k true (mkInodeS L1 1) 2 1 (mkFileS [] (1 + cntInodeS L1)) (mkLeaseS [] (1 + cntInodeS L1 + 3 * (([] : List S192).length : Int))) 0 (mkHostS L7 (1 + cntInodeS L1 + 3 * (([] : List S192).length : Int) + 3 * (([] : List S120).length : Int))) (mkIntS [] (1 + cntInodeS L1 + 3 * (([] : List S192).length : Int) + 3 * (([] : List S120).length : Int) + cntHostS L7)) (mkStringS [] (1 + cntInodeS L1 + 3 * (([] : List S192).length : Int) + 3 * (([] : List S120).length : Int) + cntHostS L7 + (([] : List Int).length : Int))) (mkSizeS [] (1 + cntInodeS L1 + 3 * (([] : List S192).length : Int) + 3 * (([] : List S120).length : Int) + cntHostS L7 + (([] : List Int).length : Int) + (([] : List ByteArray).length : Int))) 1)
      (1 + cntInodeS L1 + 3 * (([] : List S192).length : Int) + 3 * (([] : List S120).length : Int) + cntHostS L7 + (([] : List Int).length : Int) + (([] : List ByteArray).length : Int) + 2 * (([] : List S168).length : Int)) := by
  have p1 := cntInodeS_pos L1
  have p7 := cntHostS_pos L7
  have z1 : ((([] : List S192).length : Nat) : Int) = 0 := rfl
  have z2 : ((([] : List S120).length : Nat) : Int) = 0 := rfl
  have z3 : ((([] : List Int).length : Nat) : Int) = 0 := rfl
  have z4 : ((([] : List ByteArray).length : Nat) : Int) = 0 := rfl
  have z5 : ((([] : List S168).length : Nat) : Int) = 0 := rfl
  unfold laws_heldWorld.f
  refine ev_bind (heldServer_ev true L1 2 1 [] [] 0 1 (by decide) (by omega) (by omega)) (ev_neg (by omega) ?_)
  refine ev_bind (heldHostS_ev L7 _ (by omega) (by omega) (by omega)) (ev_neg (by omega) ?_)
  refine ev_bind (heldIntS_ev [] _ (by omega) (by omega)) (ev_neg (by omega) ?_)
  refine ev_bind (heldStringS_ev [] _ (by omega) (by omega)) (ev_neg (by omega) ?_)
  exact ev_bind (heldSizeS_ev [] _ (by omega) (by omega)) (ev_neg (by omega) (ev_some _))
def hosts7 : List S97 := [⟨1, true, []⟩, ⟨2, true, []⟩, ⟨3, true, []⟩, ⟨4, true, []⟩, ⟨5, true, []⟩, ⟨6, true, []⟩, ⟨7, true, []⟩]
def node1 : List S135 := [⟨1, 0, ⟨#[]⟩, true, 1, 0, 0, [], 0⟩]
theorem FnExactWorldNew : SFnExactWorldNew.Direct := by
  have c1 : cntInodeS node1 = 8 := rfl
  have c7 : cntHostS hosts7 = 14 := rfl
  have z1 : ((([] : List S192).length : Nat) : Int) = 0 := rfl
  have z2 : ((([] : List S120).length : Nat) : Int) = 0 := rfl
  have z3 : ((([] : List Int).length : Nat) : Int) = 0 := rfl
  have z4 : ((([] : List ByteArray).length : Nat) : Int) = 0 := rfl
  have z5 : ((([] : List S168).length : Nat) : Int) = 0 := rfl
  obtain ⟨qq, hq⟩ := ev_rounds (eqWorld_refl ⟨⟨true, ⟨node1, 2⟩, 1, ⟨[]⟩, [], 0⟩, hosts7, [], [], []⟩ (by simp [lnWorld, lnServer, lnTree, lnDisk, lnInode, lnHost, node1, hosts7]; done))
  obtain ⟨qh, hh⟩ := ev_rounds (heldWorld_ev node1 hosts7 (by decide) (by decide) (by omega) (by omega))
  exact worldNew_walk node1 [] [] hosts7 [] [] [] 10 10 qq qh (by simp [spec_WorldNew.f, spec_WorldNew.l0, spec_ServerNew.f, spec_TreeNew.f, wrap64, node1, hosts7]) (by simp [impl_WorldNew.f, impl_WorldNew.l0, impl_ServerNew.f, impl_TreeNew.f, wrap64, node1, hosts7]) hq _ _ _ _ _ _ _ _ _ _ _ _ rfl rfl rfl rfl (by omega) (by omega) (by omega) rfl rfl (markIntS_ev [] _ (by omega) (by omega)) (markStringS_ev [] _ (by omega) (by omega)) (markSizeS_ev [] _ (by omega) (by omega)) (by omega) hh
end Go.Proofs.Ytfgnaneajonapaa.Pure
