/- A part of the proof of the law FnUnitsOf: its texts, one behind the other. -/
import Derived.Shelf.Abstract
import Derived.WalkLawsBesides
import Derived.Test.YtaejgompckpmfaaBFnUnitsOf1
import Derived.Test.YtaejgompckpmfaaBFnUnitsOf2
set_option linter.unusedVariables false
set_option linter.unusedSimpArgs false
namespace Go.Proofs.Ytaejgompckpmfaa.Pr
open Go.RowKit Go.Proofs.YtaejgompckpmfaaW.PrintWords Go.Proofs.YtaejgompckpmfaaW.PrintLast Go.Proofs.YtaejgompckpmfaaW.PrintMore
attribute [local go_sem] max2_int min2_int max_two min_two max_three min_three max_four min_four
mutual
def spec_PutUnit.l0 : Nat → List (S60) → Int → Int → Bool → List (S60) → Int → Int → ByteArray → Int → Int → Bool → List (S60) → Option (Int × Bool × (List (S60)) × Bool)
 | 0, _, _, _, _, _, _, _, _, _, _, _, _ => none
 | k + 1, x7, x8, x154000, x154001, x154002, x155000, x155001, x155002, x155003, x162000, x162001, x162002 => if x8 < (x154002.length : Int) then (if 0 ≤ x8 then ((spec_l14Ahead.f ((rd_T60 x154002 x8).f0) ((rd_T60 x154002 x8).f1) ((rd_T60 x154002 x8).f2) ((rd_T60 x154002 x8).f3) x155000 x155001 x155002 x155003).bind fun t167 => (if t167 = true then (if x7.length < 3518437208883 then (spec_PutUnit.l0 k (x7 ++ [(⟨(rd_T60 x154002 x8).f0, (rd_T60 x154002 x8).f1, (rd_T60 x154002 x8).f2, (rd_T60 x154002 x8).f3⟩ : S60)]) (wrap64 (x8 + 1)) x154000 x154001 x154002 x155000 x155001 x155002 x155003 x162000 x162001 x162002) else (none)) else (spec_PutUnit.l0 k x7 (wrap64 (x8 + 1)) x154000 x154001 x154002 x155000 x155001 x155002 x155003 x162000 x162001 x162002))) else (none)) else (if x7.length < 3518437208883 then (spec_PutUnit.l1 k (x7 ++ [(⟨x155000, x155001, x155002, x155003⟩ : S60)]) 0 x154000 x154001 x154002 x155000 x155001 x155002 x155003 x162000 x162001 x162002) else (none))
def spec_PutUnit.l1 : Nat → List (S60) → Int → Int → Bool → List (S60) → Int → Int → ByteArray → Int → Int → Bool → List (S60) → Option (Int × Bool × (List (S60)) × Bool)
 | 0, _, _, _, _, _, _, _, _, _, _, _, _ => none
 | k + 1, x7, x9, x154000, x154001, x154002, x155000, x155001, x155002, x155003, x162000, x162001, x162002 => if x9 < (x154002.length : Int) then (if 0 ≤ x9 then ((spec_l14Ahead.f x155000 x155001 x155002 x155003 ((rd_T60 x154002 x9).f0) ((rd_T60 x154002 x9).f1) ((rd_T60 x154002 x9).f2) ((rd_T60 x154002 x9).f3)).bind fun t176 => (if t176 = true then (if x7.length < 3518437208883 then (spec_PutUnit.l1 k (x7 ++ [(⟨(rd_T60 x154002 x9).f0, (rd_T60 x154002 x9).f1, (rd_T60 x154002 x9).f2, (rd_T60 x154002 x9).f3⟩ : S60)]) (wrap64 (x9 + 1)) x154000 x154001 x154002 x155000 x155001 x155002 x155003 x162000 x162001 x162002) else (none)) else (spec_PutUnit.l1 k x7 (wrap64 (x9 + 1)) x154000 x154001 x154002 x155000 x155001 x155002 x155003 x162000 x162001 x162002))) else (none)) else ((spec_HostOk.f k x154000 x154001 x154002).bind fun t182 => (if t182 = true then (if x154001 = true then ((spec_HostOk.f k x154000 x154001 x7).bind fun t183 => (if t183 = true then (some (x154000, x154001, x7, true)) else (some (x162000, x162001, x162002, false)))) else (some (x162000, x162001, x162002, false))) else (some (x162000, x162001, x162002, false))))
end
def spec_PutUnit.f (k : Nat) (a0_0 : Int) (a0_1 : Bool) (l0_2 : List (S60)) (a1_0 : Int) (a1_1 : Int) (a1_2 : ByteArray) (a1_3 : Int) : Option (Int × Bool × (List (S60)) × Bool) := (spec_l14Copy.f a0_0 a0_1 l0_2).bind fun bt156 => ((spec_SumText.f k a1_2).bind fun t162 => (spec_PutUnit.l0 k (([] : List (S60))) 0 a0_0 a0_1 l0_2 a1_0 a1_1 a1_2 t162 bt156.1 bt156.2.1 bt156.2.2))
set_option maxHeartbeats 8000000 in
set_option maxRecDepth 100000 in
theorem spec_PutUnit.calls (k : Nat) (a0_0 : Int) (a0_1 : Bool) (A0_2 : Option Addr) (c0_2 : Nat) (l0_2 : List (S60)) (a1_0 : Int) (a1_1 : Int) (a1_2 : ByteArray) (a1_3 : Int) (r1 : Int) (r2 : Bool) (r3 : List (S60)) (r4 : Bool) (w : World) (hr0_2 : Kd.C k60 w A0_2 l0_2.length l0_2) (hc0_2 : l0_2.length ≤ c0_2) (h : spec_PutUnit.f k a0_0 a0_1 l0_2 a1_0 a1_1 a1_2 a1_3 = some (r1, r2, r3, r4)) :
  Calls Try.prog 55 #[.agg #[.int .i64 a0_0, .bool a0_1, .slice A0_2 l0_2.length c0_2], .agg #[.int .i64 a1_0, .int .i64 a1_1, .string a1_2, .int .i64 a1_3]] w fun e w' => ∃ v2_ : Value, e = .returned (.tuple #[.agg #[.int .i64 r1, .bool r2, v2_], .bool r4]) ∧ Kd.R k60 60 w' w.heap.size (fun _ => True) v2_ r3 ∧ Below w.heap.size w w' := by
 have hu35 := Try.underlying35
 have hu60 := Try.underlying60
 have HR0_2 := AM hr0_2
 have HC0_2 := AM hc0_2
 clear hr0_2 hc0_2
 have HB := AM (Below.refl w.heap.size w)
 have H : ((spec_l14Copy.f a0_0 a0_1 l0_2).bind fun bt156 => ((spec_SumText.f k a1_2).bind fun t162 => (spec_PutUnit.l0 k (([] : List (S60))) 0 a0_0 a0_1 l0_2 a1_0 a1_1 a1_2 t162 bt156.1 bt156.2.1 bt156.2.2))) = some (r1, r2, r3, r4) := h
 clear h
 replace H := Option.bind_eq_some_iff.mp H
 obtain ⟨⟨t156, t157, t158⟩, A30, H⟩ := H
 replace H : ((spec_SumText.f k a1_2).bind fun t162 => (spec_PutUnit.l0 k (([] : List (S60))) 0 a0_0 a0_1 l0_2 a1_0 a1_1 a1_2 t162 t156 t157 t158)) = some (r1, r2, r3, r4) := H
 have A3 := AM A30
 clear A30
 replace H := Option.bind_eq_some_iff.mp H
 obtain ⟨t162, A40, H⟩ := H
 replace H : (spec_PutUnit.l0 k (([] : List (S60))) 0 a0_0 a0_1 l0_2 a1_0 a1_1 a1_2 t162 t156 t157 t158) = some (r1, r2, r3, r4) := H
 have A4 := AM A40
 clear A40
 obtain ⟨y163, hy163⟩ : ∃ y_ : List (S60), y_ = (([] : List (S60))) := ⟨_, rfl⟩
 replace H : (spec_PutUnit.l0 k y163 0 a0_0 a0_1 l0_2 a1_0 a1_1 a1_2 t162 t156 t157 t158) = some (r1, r2, r3, r4) := by first | (rw [hy163]; first | with_reducible exact H | with_reducible exact OB H) | with_reducible exact OB H | with_reducible exact H | (rw [hy163]; exact H) | exact H
 have Ny163 := AM hy163
 clear hy163
 have H' := AM H
 clear H
 go_enter Try.func55, Try.ntmps55
 go_wp2_with (first | ((with_reducible refine gate_dst (N := 2) rfl ?_); refine BX 2 #[.int .i64 a0_0, .bool a0_1, .slice A0_2 l0_2.length c0_2] 35 ?_; intro gb153 hg w5 hbox hb; have BK153 := AM (hbox); have GW153 : Aside0 (w.heap.size ≤ gb153) := WG hg (BB HB.out); have GE153 := GW153; replace HB := AM (below_step (BB HB.out) hb); clear hb hbox hg) | ((with_reducible refine gate_dst (N := 3) rfl ?_); refine BX 3 #[.int .i64 a1_0, .int .i64 a1_1, .string a1_2, .int .i64 a1_3] 60 ?_; intro gb154 hg w6 hbox hb; have BK154 := AM (hbox); have GW154 : Aside0 (w.heap.size ≤ gb154) := WG hg (BB1 HB.out GE153.out); have GE154 := GW154; have NB153_154 := NL BK153.out hg; have NB154_153 := NG BK153.out hg; replace BK153 := AM (KB BK153.out hb); replace HB := AM (below_step (BB1 HB.out GE153.out) hb); clear hb hbox hg) | ((with_reducible refine gate_dst (N := 4) rfl ?_); refine BX 4 #[.int .i64 0, .bool false, .slice none 0 0] 35 ?_; intro gb155 hg w7 hbox hb; have BK155 := AM (hbox); have GW155 : Aside0 (w.heap.size ≤ gb155) := WG hg (BB2 HB.out GE153.out GE154.out); have GE155 := GW155; have NB153_155 := NL BK153.out hg; have NB155_153 := NG BK153.out hg; have NB154_155 := NL BK154.out hg; have NB155_154 := NG BK154.out hg; replace BK153 := AM (KB BK153.out hb); replace BK154 := AM (KB BK154.out hb); replace HB := AM (below_step (BB2 HB.out GE153.out GE154.out) hb); clear hb hbox hg; have hnb8 := NB153_154.out; have hnc8 := NB154_153.out; have hnb9 := NB153_155.out; have hnc9 := NB155_153.out; have hcz10_0 : w7.cell? ⟨gb153, 0, none⟩ = some (.int .i64 a0_0) := (blk_cell BK153.out 0).trans rfl; have hcz10_1 : w7.cell? ⟨gb153, 1, none⟩ = some (.bool a0_1) := (blk_cell BK153.out 1).trans rfl; have hcz10_2 : w7.cell? ⟨gb153, 2, none⟩ = some (.slice A0_2 l0_2.length c0_2) := (blk_cell BK153.out 2).trans rfl; have hfz10_0 := blk_frozen BK153.out 0; have hfz10_1 := blk_frozen BK153.out 1; have hfz10_2 := blk_frozen BK153.out 2) | ((with_reducible refine gate_callee (f := 79) rfl ?_); refine GL (some 12) rfl rfl Try.func79 #[.agg #[.int .i64 a0_0, .bool a0_1, .slice A0_2 l0_2.length c0_2]] rfl ?_; (with_reducible refine (spec_l14Copy.calls a0_0 a0_1 _ _ l0_2 t156 t157 t158 _ ?side1 ?side2 A3.out).mono ?_); (case side1 => exact CC (Kd.C_below HR0_2.out HB.out)); (case side2 => exact HC0_2.out); rintro e w11 ⟨v159, rfl, ho0, hb⟩; refine ⟨_, rfl, ?_⟩; have n0_ := AM (Kd.R_lower (Kd.R_newB ho0 (g := gb154) (o := .cells #[.int .i64 a1_0, .int .i64 a1_1, .string a1_2, .int .i64 a1_3] 60 (0, 0)) (BD BK154.out)) (below_size (BB3 HB.out GE153.out GE154.out GE155.out))); have n1_ := AM (KB BK153.out hb); have n2_ := AM (KB BK154.out hb); have n3_ := AM (KB BK155.out hb); have n4_ := AM (below_step (BB3 HB.out GE153.out GE154.out GE155.out) hb); clear BK153; clear BK154; clear BK155; clear HB; have HO160 := n0_; have BK153 := n1_; have BK154 := n2_; have BK155 := n3_; have HB := n4_; clear n0_ n1_ n2_ n3_ n4_; (try clear hb); (try clear ho0)) | ((with_reducible refine gate_dst (N := 6) rfl ?_); refine BX 6 #[.int .i64 0, .bool false, .slice none 0 0] 35 ?_; intro gb161 hg w12 hbox hb; have BK161 := AM (hbox); have GW161 : Aside0 (w.heap.size ≤ gb161) := WG hg (BB3 HB.out GE153.out GE154.out GE155.out); have GE161 := GW161; have NB153_161 := NL BK153.out hg; have NB161_153 := NG BK153.out hg; have NB154_161 := NL BK154.out hg; have NB161_154 := NG BK154.out hg; have NB155_161 := NL BK155.out hg; have NB161_155 := NG BK155.out hg; replace HO160 := AM (Kd.R_below (RR HO160.out) hb); replace BK153 := AM (KB BK153.out hb); replace BK154 := AM (KB BK154.out hb); replace BK155 := AM (KB BK155.out hb); replace HB := AM (below_step (BB3 HB.out GE153.out GE154.out GE155.out) hb); clear hb hbox hg; have hnb13 := NB161_153.out; have hnc13 := NB153_161.out; have hnb14 := NB161_154.out; have hnc14 := NB154_161.out; have hnb15 := NB161_155.out; have hnc15 := NB155_161.out; have hcz16_0 : w12.cell? ⟨gb161, 0, none⟩ = some (.int .i64 0) := (blk_cell BK161.out 0).trans rfl; have hcz16_1 : w12.cell? ⟨gb161, 1, none⟩ = some (.bool false) := (blk_cell BK161.out 1).trans rfl; have hcz16_2 : w12.cell? ⟨gb161, 2, none⟩ = some (.slice none 0 0) := (blk_cell BK161.out 2).trans rfl; have hfz16_0 := blk_frozen BK161.out 0; have hfz16_1 := blk_frozen BK161.out 1; have hfz16_2 := blk_frozen BK161.out 2; obtain ⟨Ao17, co17, eo17⟩ := Kd.R_slice HO160.out; subst eo17; have hnb18 := NB154_155.out; have hnc18 := NB155_154.out; have hcz19_0 : w12.cell? ⟨gb154, 0, none⟩ = some (.int .i64 a1_0) := (blk_cell BK154.out 0).trans rfl; have hcz19_1 : w12.cell? ⟨gb154, 1, none⟩ = some (.int .i64 a1_1) := (blk_cell BK154.out 1).trans rfl; have hcz19_2 : w12.cell? ⟨gb154, 2, none⟩ = some (.string a1_2) := (blk_cell BK154.out 2).trans rfl; have hcz19_3 : w12.cell? ⟨gb154, 3, none⟩ = some (.int .i64 a1_3) := (blk_cell BK154.out 3).trans rfl; have hfz19_0 := blk_frozen BK154.out 0; have hfz19_1 := blk_frozen BK154.out 1; have hfz19_2 := blk_frozen BK154.out 2; have hfz19_3 := blk_frozen BK154.out 3) | ((with_reducible refine gate_callee (f := 29) rfl ?_); refine GL (some 15) rfl rfl Try.func29 #[.string a1_2] rfl ?_; (with_reducible refine (spec_SumText.calls k a1_2 t162 _ A4.out).mono ?_); rintro e w' ⟨rfl, ⟨nd, rfl⟩⟩; refine ⟨_, rfl, ?_⟩) | ((with_reducible refine gate_dst (N := 17) rfl ?_); refine Kd.R_lit k60 _ 60 ?hg (N := 17) ?hd (xs := ([] : List (S60))) (inner := []) (ok := fun _ => True) (okp := fun _ => True) ?hr ?hp (fun _ hk => hk) trivial (Below.refl _ _) (Nat.le_refl _) (by simp) ?_; (case hd => rfl); (case hg => rfl); (case hr => first | (go_simp; done) | (go_simp; rfl)); (case hp => exact (Reps.none _ _)); intro v164 w20 ho21 hb hg_ hnew_; clear hg_ hnew_; (first | rw [← Ny163.out] at ho21 | (simp only [Int.reduceToNat] at ho21; rw [← Ny163.out] at ho21)); have n0_ := AM (Kd.R_elder' (by (with_reducible repeat (first | apply Kd.R_alloc | apply Kd.R_drewN | apply Kd.R_drew)); exact (Kd.R_mono (Kd.R_mono (Kd.R_far (p := ⟨gb154, 3, none⟩) (Kd.R_far (p := ⟨gb161, 2, none⟩) (Kd.R_far (p := ⟨gb161, 1, none⟩) (Kd.R_far (p := ⟨gb161, 0, none⟩) (Kd.R_mono (Kd.R_types HO160.out BK161.out (by decide)) (fun k_ hk => (⟨hk, hk.1.2⟩ : _ ∧ k_ ≠ gb154))) (fun _ hk => hk.1.2) (.int .i64 t156)) (fun _ hk => hk.1.2) (.bool t157)) (fun _ hk => hk.1.2) (.slice Ao17 t158.length co17)) (fun _ hk => hk.2) (.int .i64 t162)) (fun _ h_ => h_.1)) (fun _ h_ => h_.1))) (Kd.R_base ho21) hb); have n1_ := AM (Kd.R_lower (Kd.R_newB (Kd.R_new' ho21 (Kd.R_lt (by (with_reducible repeat (first | apply Kd.R_alloc | apply Kd.R_drewN | apply Kd.R_drew)); exact (Kd.R_mono (Kd.R_mono (Kd.R_far (p := ⟨gb154, 3, none⟩) (Kd.R_far (p := ⟨gb161, 2, none⟩) (Kd.R_far (p := ⟨gb161, 1, none⟩) (Kd.R_far (p := ⟨gb161, 0, none⟩) (Kd.R_mono (Kd.R_types HO160.out BK161.out (by decide)) (fun k_ hk => (⟨hk, hk.1.2⟩ : _ ∧ k_ ≠ gb154))) (fun _ hk => hk.1.2) (.int .i64 t156)) (fun _ hk => hk.1.2) (.bool t157)) (fun _ hk => hk.1.2) (.slice Ao17 t158.length co17)) (fun _ hk => hk.2) (.int .i64 t162)) (fun _ h_ => h_.1)) (fun _ h_ => h_.1))))) (g := gb154) (o := .cells #[.int .i64 a1_0, .int .i64 a1_1, .string a1_2, .int .i64 t162] 60 (0, 0)) (by refine BD ?_; refine blk_put (cs := #[.int .i64 a1_0, .int .i64 a1_1, .string a1_2, .int .i64 a1_3]) ?_ 3 _ rfl; refine BD ?_; refine blk_far ?_ NB154_161.out _; refine BD ?_; refine blk_far ?_ NB154_161.out _; refine BD ?_; refine blk_far ?_ NB154_161.out _; refine BD ?_; exact BK154.out)) (below_size (BB4 HB.out GE153.out GE154.out GE155.out GE161.out))); have n2_ := AM (blk_below (g := gb153) (o := .cells #[.int .i64 a0_0, .bool a0_1, .slice A0_2 l0_2.length c0_2] 35 (0, 0)) (by refine BD ?_; refine blk_far ?_ NB153_154.out _; refine BD ?_; refine blk_far ?_ NB153_161.out _; refine BD ?_; refine blk_far ?_ NB153_161.out _; refine BD ?_; refine blk_far ?_ NB153_161.out _; refine BD ?_; exact BK153.out) hb); have n3_ := AM (blk_below (g := gb154) (o := .cells #[.int .i64 a1_0, .int .i64 a1_1, .string a1_2, .int .i64 t162] 60 (0, 0)) (by refine BD ?_; refine blk_put (cs := #[.int .i64 a1_0, .int .i64 a1_1, .string a1_2, .int .i64 a1_3]) ?_ 3 _ rfl; refine BD ?_; refine blk_far ?_ NB154_161.out _; refine BD ?_; refine blk_far ?_ NB154_161.out _; refine BD ?_; refine blk_far ?_ NB154_161.out _; refine BD ?_; exact BK154.out) hb); have n4_ := AM (blk_below (g := gb155) (o := .cells #[.int .i64 0, .bool false, .slice none 0 0] 35 (0, 0)) (by refine BD ?_; refine blk_far ?_ NB155_154.out _; refine BD ?_; refine blk_far ?_ NB155_161.out _; refine BD ?_; refine blk_far ?_ NB155_161.out _; refine BD ?_; refine blk_far ?_ NB155_161.out _; refine BD ?_; exact BK155.out) hb); have n5_ := AM (blk_below (g := gb161) (o := .cells #[.int .i64 t156, .bool t157, .slice Ao17 t158.length co17] 35 (0, 0)) (by refine BD ?_; refine blk_far ?_ NB161_154.out _; refine BD ?_; refine blk_put (cs := #[.int .i64 t156, .bool t157, .slice none 0 0]) ?_ 2 _ rfl; refine BD ?_; refine blk_put (cs := #[.int .i64 t156, .bool false, .slice none 0 0]) ?_ 1 _ rfl; refine BD ?_; refine blk_put (cs := #[.int .i64 0, .bool false, .slice none 0 0]) ?_ 0 _ rfl; refine BD ?_; exact BK161.out) hb); have n6_ := AM (below_step (BB4 HB.out GE153.out GE154.out GE155.out GE161.out) hb); clear HO160; clear BK153; clear BK154; clear BK155; clear BK161; clear HB; have HO160 := n0_; have HO165 := n1_; have BK153 := n2_; have BK154 := n3_; have BK155 := n4_; have BK161 := n5_; have HB := n6_; clear n0_ n1_ n2_ n3_ n4_ n5_ n6_; clear hb ho21))
 go_loopg [7, 8] k (fun kq v7 v8 w' => ∃ (x7_1 : List (S60)) (x8_1 : Int), v8 = .int .i64 x8_1 ∧ Aside0 (spec_PutUnit.l0 kq x7_1 x8_1 a0_0 a0_1 l0_2 a1_0 a1_1 a1_2 t162 t156 t157 t158 = some (r1, r2, r3, r4)) ∧ Aside0 (kq ≤ k) ∧ Aside0 (Kd.R k60 60 w' w.heap.size (fun k_ => some k_ ≠ ((.slice Ao17 t158.length co17) : Value).ownBlock ∧ k_ ≠ gb154) v7 x7_1) ∧ Aside0 (Kd.R k60 60 w' w.heap.size (fun k_ => some k_ ≠ (v7 : Value).ownBlock ∧ k_ ≠ gb154) (.slice Ao17 t158.length co17) t158) ∧ Aside0 (w'.heap[gb153]? = some (.cells #[.int .i64 a0_0, .bool a0_1, (.slice A0_2 l0_2.length c0_2)] 35 (0, 0))) ∧ Aside0 (w'.heap[gb154]? = some (.cells #[.int .i64 a1_0, .int .i64 a1_1, .string a1_2, .int .i64 t162] 60 (0, 0))) ∧ Aside0 (w'.heap[gb155]? = some (.cells #[.int .i64 0, .bool false, (.slice none 0 0)] 35 (0, 0))) ∧ Aside0 (w'.heap[gb161]? = some (.cells #[.int .i64 t156, .bool t157, (.slice Ao17 t158.length co17)] 35 (0, 0))) ∧ Aside0 (Below w.heap.size w w'))
 case atStart => exact ⟨(y163), (0), FR, H', ⟨Nat.le_refl _⟩, ⟨by (with_reducible repeat (first | apply Kd.R_alloc | apply Kd.R_drewN | apply Kd.R_drew)); exact Kd.R_mono HO165.out (fun _ hk => ⟨hk.1.2, hk.2⟩)⟩, ⟨by (with_reducible repeat (first | apply Kd.R_alloc | apply Kd.R_drewN | apply Kd.R_drew)); exact Kd.R_mono HO160.out (fun _ hk => ⟨hk.2, hk.1.2⟩)⟩, ⟨by refine BD ?_; exact BK153.out⟩, ⟨by refine BD ?_; exact BK154.out⟩, ⟨by refine BD ?_; exact BK155.out⟩, ⟨by refine BD ?_; exact BK161.out⟩, ⟨(BB4 HB.out GE153.out GE154.out GE155.out GE161.out)⟩⟩
 case round =>
  clear H'
  try clear c1
  try clear c2
  try clear p2
  try clear c5
  try clear c7
  try clear c8
  try clear c9
  try clear c13
  try clear c14
  try clear c15
  try clear c18
  try clear hcz10_0
  try clear hcz10_1
  try clear hcz10_2
  try clear hcz16_0
  try clear hcz16_1
  try clear hcz16_2
  try clear hcz19_0
  try clear hcz19_1
  try clear hcz19_2
  try clear hcz19_3
  try clear hfz10_0
  try clear hfz10_1
  try clear hfz10_2
  try clear hfz16_0
  try clear hfz16_1
  try clear hfz16_2
  try clear hfz19_0
  try clear hfz19_1
  try clear hfz19_2
  try clear hfz19_3
  obtain ⟨x7_1, x8_1, rfl, HA, HK1, HO_7, HO_162002, BK153, BK154, BK155, BK161, HB⟩ := hrel
  cases gk with
  | zero => exact absurd HA.out (by simp [spec_PutUnit.l0])
  | succ k1 =>
   have H := HA.out
   clear HA
   simp only [spec_PutUnit.l0] at H
   by_cases c22 : x8_1 < (l0_2.length : Int)
   ·rw [if_pos c22] at H
    have c22b0 := decide_eq_true c22
    clear c22
    by_cases c23 : 0 ≤ x8_1
    rotate_left
    ·rw [if_neg c23] at H; exact absurd H (by simp)
    rw [if_pos c23] at H
    have c23b0 := decide_eq_true c23
    clear c23
    replace H := Option.bind_eq_some_iff.mp H
    obtain ⟨t167, A240, H⟩ := H
    replace H : (if t167 = true then (if x7_1.length < 3518437208883 then (spec_PutUnit.l0 k1 (x7_1 ++ [(⟨(rd_T60 l0_2 x8_1).f0, (rd_T60 l0_2 x8_1).f1, (rd_T60 l0_2 x8_1).f2, (rd_T60 l0_2 x8_1).f3⟩ : S60)]) (wrap64 (x8_1 + 1)) a0_0 a0_1 l0_2 a1_0 a1_1 a1_2 t162 t156 t157 t158) else (none)) else (spec_PutUnit.l0 k1 x7_1 (wrap64 (x8_1 + 1)) a0_0 a0_1 l0_2 a1_0 a1_1 a1_2 t162 t156 t157 t158)) = some (r1, r2, r3, r4) := H
    have A24 := AM A240
    clear A240
    by_cases c25 : t167 = true
    ·subst c25
     have H1 : (if x7_1.length < 3518437208883 then (spec_PutUnit.l0 k1 (x7_1 ++ [(⟨(rd_T60 l0_2 x8_1).f0, (rd_T60 l0_2 x8_1).f1, (rd_T60 l0_2 x8_1).f2, (rd_T60 l0_2 x8_1).f3⟩ : S60)]) (wrap64 (x8_1 + 1)) a0_0 a0_1 l0_2 a1_0 a1_1 a1_2 t162 t156 t157 t158) else (none)) = some (r1, r2, r3, r4) := by rw [if_pos rfl] at H; exact H
     clear H
     have H := H1
     clear H1
     by_cases c26 : x7_1.length < 3518437208883
     rotate_left
     ·rw [if_neg c26] at H; exact absurd H (by simp)
     rw [if_pos c26] at H
     have LMc26 := AM c26
     clear c26
     obtain ⟨y169, hy169⟩ : ∃ y_ : List (S60), y_ = (x7_1 ++ [(⟨(rd_T60 l0_2 x8_1).f0, (rd_T60 l0_2 x8_1).f1, (rd_T60 l0_2 x8_1).f2, (rd_T60 l0_2 x8_1).f3⟩ : S60)]) := ⟨_, rfl⟩
     replace H : (spec_PutUnit.l0 k1 y169 (wrap64 (x8_1 + 1)) a0_0 a0_1 l0_2 a1_0 a1_1 a1_2 t162 t156 t157 t158) = some (r1, r2, r3, r4) := by first | (rw [hy169]; first | with_reducible exact H | with_reducible exact OB H) | with_reducible exact OB H | with_reducible exact H | (rw [hy169]; exact H) | exact H
     have Ny169 := AM hy169
     clear hy169
     have H' := AM H
     clear H
     have hnb27 := NB153_154.out
     have hnc27 := NB154_153.out
     have hnb28 := NB153_155.out
     have hnc28 := NB155_153.out
     have hnb29 := NB153_161.out
     have hnc29 := NB161_153.out
     have hcz30_0 : wr.cell? ⟨gb153, 0, none⟩ = some (.int .i64 a0_0) := (blk_cell BK153.out 0).trans rfl
     have hcz30_1 : wr.cell? ⟨gb153, 1, none⟩ = some (.bool a0_1) := (blk_cell BK153.out 1).trans rfl
     have hcz30_2 : wr.cell? ⟨gb153, 2, none⟩ = some (.slice A0_2 l0_2.length c0_2) := (blk_cell BK153.out 2).trans rfl
     have hfz30_0 := blk_frozen BK153.out 0
     have hfz30_1 := blk_frozen BK153.out 1
     have hfz30_2 := blk_frozen BK153.out 2
     try go_wp2
     replace HO_7 := AM (Kd.R_drew HO_7.out); replace HO_162002 := AM (Kd.R_drew HO_162002.out); replace BK153 := AM (blk_drew BK153.out); replace BK154 := AM (blk_drew BK154.out); replace BK155 := AM (blk_drew BK155.out); replace BK161 := AM (blk_drew BK161.out); replace HB := AM (below_drew1 HB.out)
     have p166 : 0 ≤ (x8_1 : Int) := DT
     have q166 : x8_1 < (l0_2.length : Int) := DT
     obtain ⟨ad166, e166, hx166_0, hx166_1, hx166_2, hx166_3⟩ := at_T60 HR0_2.out x8_1 p166 q166
     have hw166_3 := hx166_3
     have hw166_2 := hx166_2
     have hw166_1 := hx166_1
     have hw166_0 := hx166_0
     cases e166
     replace hx166_0 := CX HB.out hx166_0
     replace hx166_1 := CX HB.out hx166_1
     replace hx166_2 := CX HB.out hx166_2
     replace hx166_3 := CX HB.out hx166_3
     replace p166 := eq_true p166
     replace q166 := eq_true q166
     refine start_ (n := 7) (S := fun w' => w'.cell? ⟨gb153, 0, none⟩ = some (.int .i64 a0_0) ∧ w'.cell? ⟨gb153, 1, none⟩ = some (.bool a0_1) ∧ w'.cell? ⟨gb153, 2, none⟩ = some (.slice (some ad166) l0_2.length c0_2) ∧ w'.cell? ⟨gb154, 0, none⟩ = some (.int .i64 a1_0) ∧ w'.cell? ⟨gb154, 1, none⟩ = some (.int .i64 a1_1) ∧ w'.cell? ⟨gb154, 2, none⟩ = some (.string a1_2) ∧ w'.cell? ⟨gb154, 3, none⟩ = some (.int .i64 t162) ∧ w'.cell? (ad166.add ((x8_1).toNat * 4)) = some (.int .i64 ((rd_T60 l0_2 x8_1).f0)) ∧ w'.cell? ⟨(ad166.add ((x8_1).toNat * 4)).block, (ad166.add ((x8_1).toNat * 4)).off + 1, none⟩ = some (.int .i64 ((rd_T60 l0_2 x8_1).f1)) ∧ w'.cell? ⟨(ad166.add ((x8_1).toNat * 4)).block, (ad166.add ((x8_1).toNat * 4)).off + 2, none⟩ = some (.string ((rd_T60 l0_2 x8_1).f2)) ∧ w'.cell? ⟨(ad166.add ((x8_1).toNat * 4)).block, (ad166.add ((x8_1).toNat * 4)).off + 3, none⟩ = some (.int .i64 ((rd_T60 l0_2 x8_1).f3))) (ds := []) (.replicate 7 false) (by kernel_rfl) rfl rfl ⟨(blk_cell BK153.out 0).trans rfl, (blk_cell BK153.out 1).trans rfl, (blk_cell BK153.out 2).trans rfl, (blk_cell BK154.out 0).trans rfl, (blk_cell BK154.out 1).trans rfl, (blk_cell BK154.out 2).trans rfl, (blk_cell BK154.out 3).trans rfl, (CX HB.out hw166_0), (CX HB.out hw166_1), (CX HB.out hw166_2), (CX HB.out hw166_3)⟩ (fun hHeld => ?_)
     generalize wr.drew = w31 at HO_7 HO_162002 BK153 BK154 BK155 BK161 HB hx166_0 hx166_1 hx166_2 hx166_3 hHeld ⊢
     refine PU 0 25 ?_
     refine PU 2 27 ?_
     refine TK 1 26 hHeld ?_
     refine PU 3 28 ?_
     refine TK 4 29 hHeld ?_
     refine TK 5 30 hHeld ?_
     refine one_ (i := 6) (N := some 31) #[true, true, true, true, true, true, true] rfl rfl (by kernel_rfl) (by decide) (fun K hK => ?_)
     refine GO Try.func81 #[.agg #[.int .i64 ((rd_T60 l0_2 x8_1).f0), .int .i64 ((rd_T60 l0_2 x8_1).f1), .string ((rd_T60 l0_2 x8_1).f2), .int .i64 ((rd_T60 l0_2 x8_1).f3)], .agg #[.int .i64 a1_0, .int .i64 a1_1, .string a1_2, .int .i64 t162]] ?_
     with_reducible refine (spec_l14Ahead.calls ((rd_T60 l0_2 x8_1).f0) ((rd_T60 l0_2 x8_1).f1) ((rd_T60 l0_2 x8_1).f2) ((rd_T60 l0_2 x8_1).f3) a1_0 a1_1 a1_2 t162 true _ A24.out).mono ?_
     rintro e w32 ⟨rfl, hb⟩
     refine ⟨_, rfl, ?_⟩
     replace HO_7 := AM (Kd.R_below (RR HO_7.out) hb); replace HO_162002 := AM (Kd.R_below (RR HO_162002.out) hb); replace BK153 := AM (KB BK153.out hb); replace BK154 := AM (KB BK154.out hb); replace BK155 := AM (KB BK155.out hb); replace BK161 := AM (KB BK161.out hb); replace HB := AM (below_step (BB4 HB.out GE153.out GE154.out GE155.out GE161.out) hb)
     (try clear hb)
     (try clear hb2)
     (try clear hk)
     (try clear hi)
     refine hK.out _ _ ⟨(blk_cell BK153.out 0).trans rfl, (blk_cell BK153.out 1).trans rfl, (blk_cell BK153.out 2).trans rfl, (blk_cell BK154.out 0).trans rfl, (blk_cell BK154.out 1).trans rfl, (blk_cell BK154.out 2).trans rfl, (blk_cell BK154.out 3).trans rfl, (CX HB.out hw166_0), (CX HB.out hw166_1), (CX HB.out hw166_2), (CX HB.out hw166_3)⟩ (fun hHeld => ?_)
     clear hK K
     refine NM 31 ?_
     refine done_ (by kernel_rfl) ?_
     have hcz33_0 : w32.cell? ⟨gb153, 0, none⟩ = some (.int .i64 a0_0) := (blk_cell BK153.out 0).trans rfl
     have hcz33_1 : w32.cell? ⟨gb153, 1, none⟩ = some (.bool a0_1) := (blk_cell BK153.out 1).trans rfl
     have hcz33_2 : w32.cell? ⟨gb153, 2, none⟩ = some (.slice (some ad166) l0_2.length c0_2) := (blk_cell BK153.out 2).trans rfl
     have hfz33_0 := blk_frozen BK153.out 0
     have hfz33_1 := blk_frozen BK153.out 1
     have hfz33_2 := blk_frozen BK153.out 2
     have p168 : 0 ≤ (x8_1 : Int) := DT
     have q168 : x8_1 < (l0_2.length : Int) := DT
     obtain ⟨ad168, e168, hx168_0, hx168_1, hx168_2, hx168_3⟩ := at_T60 HR0_2.out x8_1 p168 q168
     obtain rfl : ad166 = ad168 := (by injection e168)
     replace hx168_0 := CX HB.out hx168_0
     replace hx168_1 := CX HB.out hx168_1
     replace hx168_2 := CX HB.out hx168_2
     replace hx168_3 := CX HB.out hx168_3
     replace p168 := eq_true p168
     replace q168 := eq_true q168
     try go_wp2_with (first | ((with_reducible refine gate_builtin (b := .append) (xs := #[.tmp 32, .tmp 38]) rfl ?_); at_builtin; refine Kd.R_append k60 (w0 := w) w.heap.size rfl (.tmp 32) (.tmp 38) 33 60 (.agg #[(.int .i64 0), (.int .i64 0), (.string ⟨#[]⟩), (.int .i64 0)]) 40 rfl Try.underlying33 info60 rfl (by decide) (by omega) u7 x7_1 (⟨(rd_T60 l0_2 x8_1).f0, (rd_T60 l0_2 x8_1).f1, (rd_T60 l0_2 x8_1).f2, (rd_T60 l0_2 x8_1).f3⟩ : S60) [.int .i64 ((rd_T60 l0_2 x8_1).f0), .int .i64 ((rd_T60 l0_2 x8_1).f1), .string ((rd_T60 l0_2 x8_1).f2), .int .i64 ((rd_T60 l0_2 x8_1).f3)] (fun k_ => some k_ ≠ (.slice Ao17 t158.length co17 : Value).ownBlock ∧ k_ ≠ gb154) (fun _ => False) rfl rfl ?aP (fun _ hk => hk.elim) ?aF ?aO ?aB ?aS ?aL ?_; (case aP => exact k60_mkM _ _ _ (⟨(rd_T60 l0_2 x8_1).f0, (rd_T60 l0_2 x8_1).f1, (rd_T60 l0_2 x8_1).f2, (rd_T60 l0_2 x8_1).f3⟩ : S60)); (case aB => exact (BB4 HB.out GE153.out GE154.out GE155.out GE161.out)); (case aF => exact (fun k_ hk => ⟨Kd.fresh' (Kd.R_lt (RR HO_162002.out)) k_ hk, Kd.freshB (g := gb154) (o := .cells #[.int .i64 a1_0, .int .i64 a1_1, .string a1_2, .int .i64 t162] 60 (0, 0)) (BD BK154.out) k_ hk⟩)); (case aO => exact (RR HO_7.out)); (case aS => exact (below_size (BB4 HB.out GE153.out GE154.out GE155.out GE161.out))); (case aL => have := LMc26.out; omega); intro v170 w34 ho hb hg hat; rw [← Ny169.out] at ho; have n0_ := AM (Kd.R_after (ok := (fun k_ => k_ ≠ gb154)) (by (with_reducible repeat (first | apply Kd.R_alloc | apply Kd.R_drewN | apply Kd.R_drew)); exact Kd.R_mono HO_162002.out (fun _ hk => ⟨hk.2, hk.1⟩)) hg hat); have n1_ := AM (blk_grown (g := gb153) (o := .cells #[.int .i64 a0_0, .bool a0_1, .slice (some ad166) l0_2.length c0_2] 35 (0, 0)) (BD BK153.out) hg (Kd.R_ne HO_7.out BK153.out (by decide))); have n2_ := AM (blk_grown (g := gb154) (o := .cells #[.int .i64 a1_0, .int .i64 a1_1, .string a1_2, .int .i64 t162] 60 (0, 0)) (BD BK154.out) hg (Kd.R_away HO_7.out (fun _ hk => hk.2))); have n3_ := AM (blk_grown (g := gb155) (o := .cells #[.int .i64 0, .bool false, .slice none 0 0] 35 (0, 0)) (BD BK155.out) hg (Kd.R_ne HO_7.out BK155.out (by decide))); have n4_ := AM (blk_grown (g := gb161) (o := .cells #[.int .i64 t156, .bool t157, .slice Ao17 t158.length co17] 35 (0, 0)) (BD BK161.out) hg (Kd.R_ne HO_7.out BK161.out (by decide))); have n5_ := AM (hb); have n6_ := AM (ho); clear HO_162002; clear BK153; clear BK154; clear BK155; clear BK161; clear HB; clear HO_7; have HO_162002 := n0_; have BK153 := n1_; have BK154 := n2_; have BK155 := n3_; have BK161 := n4_; have HB := n5_; have HO171 := n6_; clear n0_ n1_ n2_ n3_ n4_ n5_ n6_; clear ho hb hg hat))
     go_roundg k1
     case measure => have := HK1.out; omega
     case rel => exact ⟨(y169), (wrap64 (x8_1 + 1)), FR, H', ⟨by have := HK1.out; omega⟩, ⟨(RR HO171.out)⟩, ⟨by (with_reducible repeat (first | apply Kd.R_alloc | apply Kd.R_drewN | apply Kd.R_drew)); exact Kd.R_mono HO_162002.out (fun _ hk => ⟨hk.2, hk.1⟩)⟩, ⟨by refine BD ?_; exact BK153.out⟩, ⟨by refine BD ?_; exact BK154.out⟩, ⟨by refine BD ?_; exact BK155.out⟩, ⟨by refine BD ?_; exact BK161.out⟩, ⟨(BB4 HB.out GE153.out GE154.out GE155.out GE161.out)⟩⟩
    ·replace c25 := Bool.eq_false_iff.mpr c25
     subst c25
     have H1 : (spec_PutUnit.l0 k1 x7_1 (wrap64 (x8_1 + 1)) a0_0 a0_1 l0_2 a1_0 a1_1 a1_2 t162 t156 t157 t158) = some (r1, r2, r3, r4) := by rw [if_neg (show ¬ (false = true) by decide)] at H; exact H
     clear H
     have H := H1
     clear H1
     have H' := AM H
     clear H
     have hnb35 := NB153_154.out
     have hnc35 := NB154_153.out
     have hnb36 := NB153_155.out
     have hnc36 := NB155_153.out
     have hnb37 := NB153_161.out
     have hnc37 := NB161_153.out
     have hcz38_0 : wr.cell? ⟨gb153, 0, none⟩ = some (.int .i64 a0_0) := (blk_cell BK153.out 0).trans rfl
     have hcz38_1 : wr.cell? ⟨gb153, 1, none⟩ = some (.bool a0_1) := (blk_cell BK153.out 1).trans rfl
     have hcz38_2 : wr.cell? ⟨gb153, 2, none⟩ = some (.slice A0_2 l0_2.length c0_2) := (blk_cell BK153.out 2).trans rfl
     have hfz38_0 := blk_frozen BK153.out 0
     have hfz38_1 := blk_frozen BK153.out 1
     have hfz38_2 := blk_frozen BK153.out 2
     try go_wp2
     replace HO_7 := AM (Kd.R_drew HO_7.out); replace HO_162002 := AM (Kd.R_drew HO_162002.out); replace BK153 := AM (blk_drew BK153.out); replace BK154 := AM (blk_drew BK154.out); replace BK155 := AM (blk_drew BK155.out); replace BK161 := AM (blk_drew BK161.out); replace HB := AM (below_drew1 HB.out)
     have p166 : 0 ≤ (x8_1 : Int) := DT
     have q166 : x8_1 < (l0_2.length : Int) := DT
     obtain ⟨ad166, e166, hx166_0, hx166_1, hx166_2, hx166_3⟩ := at_T60 HR0_2.out x8_1 p166 q166
     have hw166_3 := hx166_3
     have hw166_2 := hx166_2
     have hw166_1 := hx166_1
     have hw166_0 := hx166_0
     cases e166
     replace hx166_0 := CX HB.out hx166_0
     replace hx166_1 := CX HB.out hx166_1
     replace hx166_2 := CX HB.out hx166_2
     replace hx166_3 := CX HB.out hx166_3
     replace p166 := eq_true p166
     replace q166 := eq_true q166
     refine start_ (n := 7) (S := fun w' => w'.cell? ⟨gb153, 0, none⟩ = some (.int .i64 a0_0) ∧ w'.cell? ⟨gb153, 1, none⟩ = some (.bool a0_1) ∧ w'.cell? ⟨gb153, 2, none⟩ = some (.slice (some ad166) l0_2.length c0_2) ∧ w'.cell? ⟨gb154, 0, none⟩ = some (.int .i64 a1_0) ∧ w'.cell? ⟨gb154, 1, none⟩ = some (.int .i64 a1_1) ∧ w'.cell? ⟨gb154, 2, none⟩ = some (.string a1_2) ∧ w'.cell? ⟨gb154, 3, none⟩ = some (.int .i64 t162) ∧ w'.cell? (ad166.add ((x8_1).toNat * 4)) = some (.int .i64 ((rd_T60 l0_2 x8_1).f0)) ∧ w'.cell? ⟨(ad166.add ((x8_1).toNat * 4)).block, (ad166.add ((x8_1).toNat * 4)).off + 1, none⟩ = some (.int .i64 ((rd_T60 l0_2 x8_1).f1)) ∧ w'.cell? ⟨(ad166.add ((x8_1).toNat * 4)).block, (ad166.add ((x8_1).toNat * 4)).off + 2, none⟩ = some (.string ((rd_T60 l0_2 x8_1).f2)) ∧ w'.cell? ⟨(ad166.add ((x8_1).toNat * 4)).block, (ad166.add ((x8_1).toNat * 4)).off + 3, none⟩ = some (.int .i64 ((rd_T60 l0_2 x8_1).f3))) (ds := []) (.replicate 7 false) (by kernel_rfl) rfl rfl ⟨(blk_cell BK153.out 0).trans rfl, (blk_cell BK153.out 1).trans rfl, (blk_cell BK153.out 2).trans rfl, (blk_cell BK154.out 0).trans rfl, (blk_cell BK154.out 1).trans rfl, (blk_cell BK154.out 2).trans rfl, (blk_cell BK154.out 3).trans rfl, (CX HB.out hw166_0), (CX HB.out hw166_1), (CX HB.out hw166_2), (CX HB.out hw166_3)⟩ (fun hHeld => ?_)
     generalize wr.drew = w39 at HO_7 HO_162002 BK153 BK154 BK155 BK161 HB hx166_0 hx166_1 hx166_2 hx166_3 hHeld ⊢
     refine PU 0 25 ?_
     refine PU 2 27 ?_
     refine TK 1 26 hHeld ?_
     refine PU 3 28 ?_
     refine TK 4 29 hHeld ?_
     refine TK 5 30 hHeld ?_
     refine one_ (i := 6) (N := some 31) #[true, true, true, true, true, true, true] rfl rfl (by kernel_rfl) (by decide) (fun K hK => ?_)
     refine GO Try.func81 #[.agg #[.int .i64 ((rd_T60 l0_2 x8_1).f0), .int .i64 ((rd_T60 l0_2 x8_1).f1), .string ((rd_T60 l0_2 x8_1).f2), .int .i64 ((rd_T60 l0_2 x8_1).f3)], .agg #[.int .i64 a1_0, .int .i64 a1_1, .string a1_2, .int .i64 t162]] ?_
     with_reducible refine (spec_l14Ahead.calls ((rd_T60 l0_2 x8_1).f0) ((rd_T60 l0_2 x8_1).f1) ((rd_T60 l0_2 x8_1).f2) ((rd_T60 l0_2 x8_1).f3) a1_0 a1_1 a1_2 t162 false _ A24.out).mono ?_
     rintro e w40 ⟨rfl, hb⟩
     refine ⟨_, rfl, ?_⟩
     replace HO_7 := AM (Kd.R_below (RR HO_7.out) hb); replace HO_162002 := AM (Kd.R_below (RR HO_162002.out) hb); replace BK153 := AM (KB BK153.out hb); replace BK154 := AM (KB BK154.out hb); replace BK155 := AM (KB BK155.out hb); replace BK161 := AM (KB BK161.out hb); replace HB := AM (below_step (BB4 HB.out GE153.out GE154.out GE155.out GE161.out) hb)
     (try clear hb)
     (try clear hb2)
     (try clear hk)
     (try clear hi)
     refine hK.out _ _ ⟨(blk_cell BK153.out 0).trans rfl, (blk_cell BK153.out 1).trans rfl, (blk_cell BK153.out 2).trans rfl, (blk_cell BK154.out 0).trans rfl, (blk_cell BK154.out 1).trans rfl, (blk_cell BK154.out 2).trans rfl, (blk_cell BK154.out 3).trans rfl, (CX HB.out hw166_0), (CX HB.out hw166_1), (CX HB.out hw166_2), (CX HB.out hw166_3)⟩ (fun hHeld => ?_)
     clear hK K
     refine NM 31 ?_
     refine done_ (by kernel_rfl) ?_
     try go_wp2
     go_roundg k1
     case measure => have := HK1.out; omega
     case rel => exact ⟨(x7_1), (wrap64 (x8_1 + 1)), FR, H', ⟨by have := HK1.out; omega⟩, ⟨(RR HO_7.out)⟩, ⟨(RR HO_162002.out)⟩, ⟨by refine BD ?_; exact BK153.out⟩, ⟨by refine BD ?_; exact BK154.out⟩, ⟨by refine BD ?_; exact BK155.out⟩, ⟨by refine BD ?_; exact BK161.out⟩, ⟨(BB4 HB.out GE153.out GE154.out GE155.out GE161.out)⟩⟩
   ·rw [if_neg c22] at H
    have c22b0 := decide_eq_false c22
    clear c22
    by_cases c41 : x7_1.length < 3518437208883
    rotate_left
    ·rw [if_neg c41] at H; exact absurd H (by simp)
    rw [if_pos c41] at H
    have LMc41 := AM c41
    clear c41
    obtain ⟨y172, hy172⟩ : ∃ y_ : List (S60), y_ = (x7_1 ++ [(⟨a1_0, a1_1, a1_2, t162⟩ : S60)]) := ⟨_, rfl⟩
    replace H : (spec_PutUnit.l1 k1 y172 0 a0_0 a0_1 l0_2 a1_0 a1_1 a1_2 t162 t156 t157 t158) = some (r1, r2, r3, r4) := by first | (rw [hy172]; first | with_reducible exact H | with_reducible exact OB H) | with_reducible exact OB H | with_reducible exact H | (rw [hy172]; exact H) | exact H
    have Ny172 := AM hy172
    clear hy172
    have H' := AM H
    clear H
    have hnb42 := NB153_154.out
    have hnc42 := NB154_153.out
    have hnb43 := NB153_155.out
    have hnc43 := NB155_153.out
    have hnb44 := NB153_161.out
    have hnc44 := NB161_153.out
    have hcz45_0 : wr.cell? ⟨gb153, 0, none⟩ = some (.int .i64 a0_0) := (blk_cell BK153.out 0).trans rfl
    have hcz45_1 : wr.cell? ⟨gb153, 1, none⟩ = some (.bool a0_1) := (blk_cell BK153.out 1).trans rfl
    have hcz45_2 : wr.cell? ⟨gb153, 2, none⟩ = some (.slice A0_2 l0_2.length c0_2) := (blk_cell BK153.out 2).trans rfl
    have hfz45_0 := blk_frozen BK153.out 0
    have hfz45_1 := blk_frozen BK153.out 1
    have hfz45_2 := blk_frozen BK153.out 2
    have hnb46 := NB154_155.out
    have hnc46 := NB155_154.out
    have hnb47 := NB154_161.out
    have hnc47 := NB161_154.out
    have hcz48_0 : wr.cell? ⟨gb154, 0, none⟩ = some (.int .i64 a1_0) := (blk_cell BK154.out 0).trans rfl
    have hcz48_1 : wr.cell? ⟨gb154, 1, none⟩ = some (.int .i64 a1_1) := (blk_cell BK154.out 1).trans rfl
    have hcz48_2 : wr.cell? ⟨gb154, 2, none⟩ = some (.string a1_2) := (blk_cell BK154.out 2).trans rfl
    have hcz48_3 : wr.cell? ⟨gb154, 3, none⟩ = some (.int .i64 t162) := (blk_cell BK154.out 3).trans rfl
    have hfz48_0 := blk_frozen BK154.out 0
    have hfz48_1 := blk_frozen BK154.out 1
    have hfz48_2 := blk_frozen BK154.out 2
    have hfz48_3 := blk_frozen BK154.out 3
    go_wp2_with (first | ((with_reducible refine gate_builtin (b := .append) (xs := #[.tmp 40, .tmp 42]) rfl ?_); at_builtin; refine Kd.R_append k60 (w0 := w) w.heap.size rfl (.tmp 40) (.tmp 42) 33 60 (.agg #[(.int .i64 0), (.int .i64 0), (.string ⟨#[]⟩), (.int .i64 0)]) 40 rfl Try.underlying33 info60 rfl (by decide) (by omega) u7 x7_1 (⟨a1_0, a1_1, a1_2, t162⟩ : S60) [.int .i64 a1_0, .int .i64 a1_1, .string a1_2, .int .i64 t162] (fun k_ => some k_ ≠ (.slice Ao17 t158.length co17 : Value).ownBlock ∧ k_ ≠ gb154) (fun _ => False) rfl rfl ?aP (fun _ hk => hk.elim) ?aF ?aO ?aB ?aS ?aL ?_; (case aP => exact k60_mkM _ _ _ (⟨a1_0, a1_1, a1_2, t162⟩ : S60)); (case aB => exact (BB4 HB.out GE153.out GE154.out GE155.out GE161.out)); (case aF => exact (fun k_ hk => ⟨Kd.fresh' (Kd.R_lt (RR HO_162002.out)) k_ hk, Kd.freshB (g := gb154) (o := .cells #[.int .i64 a1_0, .int .i64 a1_1, .string a1_2, .int .i64 t162] 60 (0, 0)) (BD BK154.out) k_ hk⟩)); (case aO => exact (RR HO_7.out)); (case aS => exact (below_size (BB4 HB.out GE153.out GE154.out GE155.out GE161.out))); (case aL => have := LMc41.out; omega); intro v173 w49 ho hb hg hat; rw [← Ny172.out] at ho; have n0_ := AM (Kd.R_after (ok := (fun k_ => k_ ≠ gb154)) (by (with_reducible repeat (first | apply Kd.R_alloc | apply Kd.R_drewN | apply Kd.R_drew)); exact Kd.R_mono HO_162002.out (fun _ hk => ⟨hk.2, hk.1⟩)) hg hat); have n1_ := AM (blk_grown (g := gb153) (o := .cells #[.int .i64 a0_0, .bool a0_1, .slice A0_2 l0_2.length c0_2] 35 (0, 0)) (BD BK153.out) hg (Kd.R_ne HO_7.out BK153.out (by decide))); have n2_ := AM (blk_grown (g := gb154) (o := .cells #[.int .i64 a1_0, .int .i64 a1_1, .string a1_2, .int .i64 t162] 60 (0, 0)) (BD BK154.out) hg (Kd.R_away HO_7.out (fun _ hk => hk.2))); have n3_ := AM (blk_grown (g := gb155) (o := .cells #[.int .i64 0, .bool false, .slice none 0 0] 35 (0, 0)) (BD BK155.out) hg (Kd.R_ne HO_7.out BK155.out (by decide))); have n4_ := AM (blk_grown (g := gb161) (o := .cells #[.int .i64 t156, .bool t157, .slice Ao17 t158.length co17] 35 (0, 0)) (BD BK161.out) hg (Kd.R_ne HO_7.out BK161.out (by decide))); have n5_ := AM (hb); have n6_ := AM (ho); clear HO_162002; clear BK153; clear BK154; clear BK155; clear BK161; clear HB; clear HO_7; have HO_162002 := n0_; have BK153 := n1_; have BK154 := n2_; have BK155 := n3_; have BK161 := n4_; have HB := n5_; have HO174 := n6_; clear n0_ n1_ n2_ n3_ n4_ n5_ n6_; clear ho hb hg hat))
    go_loopg [7, 9] k1 (fun kq v7 v9 w' => ∃ (x7_2 : List (S60)) (x9_2 : Int), v9 = .int .i64 x9_2 ∧ Aside0 (spec_PutUnit.l1 kq x7_2 x9_2 a0_0 a0_1 l0_2 a1_0 a1_1 a1_2 t162 t156 t157 t158 = some (r1, r2, r3, r4)) ∧ Aside0 (kq ≤ k1) ∧ Aside0 (Kd.R k60 60 w' w.heap.size (fun k_ => some k_ ≠ ((.slice Ao17 t158.length co17) : Value).ownBlock ∧ k_ ≠ gb154) v7 x7_2) ∧ Aside0 (Kd.R k60 60 w' w.heap.size (fun k_ => some k_ ≠ (v7 : Value).ownBlock ∧ k_ ≠ gb154) (.slice Ao17 t158.length co17) t158) ∧ Aside0 (w'.heap[gb153]? = some (.cells #[.int .i64 a0_0, .bool a0_1, (.slice A0_2 l0_2.length c0_2)] 35 (0, 0))) ∧ Aside0 (w'.heap[gb154]? = some (.cells #[.int .i64 a1_0, .int .i64 a1_1, .string a1_2, .int .i64 t162] 60 (0, 0))) ∧ Aside0 (w'.heap[gb155]? = some (.cells #[.int .i64 0, .bool false, (.slice none 0 0)] 35 (0, 0))) ∧ Aside0 (w'.heap[gb161]? = some (.cells #[.int .i64 t156, .bool t157, (.slice Ao17 t158.length co17)] 35 (0, 0))) ∧ Aside0 (Below w.heap.size w w'))
    case atStart => exact ⟨(y172), (0), FR, H', ⟨Nat.le_refl _⟩, ⟨(RR HO174.out)⟩, ⟨by (with_reducible repeat (first | apply Kd.R_alloc | apply Kd.R_drewN | apply Kd.R_drew)); exact Kd.R_mono HO_162002.out (fun _ hk => ⟨hk.2, hk.1⟩)⟩, ⟨by refine BD ?_; exact BK153.out⟩, ⟨by refine BD ?_; exact BK154.out⟩, ⟨by refine BD ?_; exact BK155.out⟩, ⟨by refine BD ?_; exact BK161.out⟩, ⟨(BB4 HB.out GE153.out GE154.out GE155.out GE161.out)⟩⟩
    case round =>
     clear H'
     try clear c1
     try clear p1
     try clear q1
     try clear hx1
     try clear c2
     try clear p2
     try clear c3
     try clear c4
     try clear c5
     try clear p6
     try clear c7
     try clear c8
     try clear c9
     try clear c13
     try clear c14
     try clear c15
     try clear p16
     try clear q16
     try clear hx16
     try clear c18
     try clear c22
     try clear c22b0
     try clear c23
     try clear c23b0
     try clear c25
     try clear c26
     try clear c27
     try clear c28
     try clear c29
     try clear c35
     try clear c36
     try clear c37
     try clear c41
     try clear c42
     try clear c43
     try clear c44
     try clear c46
     try clear c47
     try clear hcz10_0
     try clear hcz10_1
     try clear hcz10_2
     try clear hcz16_0
     try clear hcz16_1
     try clear hcz16_2
     try clear hcz19_0
     try clear hcz19_1
     try clear hcz19_2
     try clear hcz19_3
     try clear hcz30_0
     try clear hcz30_1
     try clear hcz30_2
     try clear hcz33_0
     try clear hcz33_1
     try clear hcz33_2
     try clear hcz38_0
     try clear hcz38_1
     try clear hcz38_2
     try clear hcz45_0
     try clear hcz45_1
     try clear hcz45_2
     try clear hcz48_0
     try clear hcz48_1
     try clear hcz48_2
     try clear hcz48_3
     try clear hfz10_0
     try clear hfz10_1
     try clear hfz10_2
     try clear hfz16_0
     try clear hfz16_1
     try clear hfz16_2
     try clear hfz19_0
     try clear hfz19_1
     try clear hfz19_2
     try clear hfz19_3
     try clear hfz30_0
     try clear hfz30_1
     try clear hfz30_2
     try clear hfz33_0
     try clear hfz33_1
     try clear hfz33_2
     try clear hfz38_0
     try clear hfz38_1
     try clear hfz38_2
     try clear hfz45_0
     try clear hfz45_1
     try clear hfz45_2
     try clear hfz48_0
     try clear hfz48_1
     try clear hfz48_2
     try clear hfz48_3
     try clear hx166_0
     try clear hx166_1
     try clear hx166_2
     try clear hx166_3
     try clear hx168_0
     try clear hx168_1
     try clear hx168_2
     try clear hx168_3
     try clear p166
     try clear p168
     try clear p2
     try clear q166
     try clear q168
     obtain ⟨x7_2, x9_2, rfl, HA, HK2, HO_7, HO_162002, BK153, BK154, BK155, BK161, HB⟩ := hrel
     cases gk with
     | zero => exact absurd HA.out (by simp [spec_PutUnit.l1])
     | succ k2 =>
      have H := HA.out
      clear HA
      simp only [spec_PutUnit.l1] at H
      by_cases c50 : x9_2 < (l0_2.length : Int)
      ·rw [if_pos c50] at H
       have c50b0 := decide_eq_true c50
       clear c50
       by_cases c51 : 0 ≤ x9_2
       rotate_left
       ·rw [if_neg c51] at H; exact absurd H (by simp)
       rw [if_pos c51] at H
       have c51b0 := decide_eq_true c51
       clear c51
       replace H := Option.bind_eq_some_iff.mp H
       obtain ⟨t176, A520, H⟩ := H
       replace H : (if t176 = true then (if x7_2.length < 3518437208883 then (spec_PutUnit.l1 k2 (x7_2 ++ [(⟨(rd_T60 l0_2 x9_2).f0, (rd_T60 l0_2 x9_2).f1, (rd_T60 l0_2 x9_2).f2, (rd_T60 l0_2 x9_2).f3⟩ : S60)]) (wrap64 (x9_2 + 1)) a0_0 a0_1 l0_2 a1_0 a1_1 a1_2 t162 t156 t157 t158) else (none)) else (spec_PutUnit.l1 k2 x7_2 (wrap64 (x9_2 + 1)) a0_0 a0_1 l0_2 a1_0 a1_1 a1_2 t162 t156 t157 t158)) = some (r1, r2, r3, r4) := H
       have A52 := AM A520
       clear A520
       by_cases c53 : t176 = true
       ·subst c53
        have H1 : (if x7_2.length < 3518437208883 then (spec_PutUnit.l1 k2 (x7_2 ++ [(⟨(rd_T60 l0_2 x9_2).f0, (rd_T60 l0_2 x9_2).f1, (rd_T60 l0_2 x9_2).f2, (rd_T60 l0_2 x9_2).f3⟩ : S60)]) (wrap64 (x9_2 + 1)) a0_0 a0_1 l0_2 a1_0 a1_1 a1_2 t162 t156 t157 t158) else (none)) = some (r1, r2, r3, r4) := by rw [if_pos rfl] at H; exact H
        clear H
        have H := H1
        clear H1
        by_cases c54 : x7_2.length < 3518437208883
        rotate_left
        ·rw [if_neg c54] at H; exact absurd H (by simp)
        rw [if_pos c54] at H
        have LMc54 := AM c54
        clear c54
        obtain ⟨y178, hy178⟩ : ∃ y_ : List (S60), y_ = (x7_2 ++ [(⟨(rd_T60 l0_2 x9_2).f0, (rd_T60 l0_2 x9_2).f1, (rd_T60 l0_2 x9_2).f2, (rd_T60 l0_2 x9_2).f3⟩ : S60)]) := ⟨_, rfl⟩
        replace H : (spec_PutUnit.l1 k2 y178 (wrap64 (x9_2 + 1)) a0_0 a0_1 l0_2 a1_0 a1_1 a1_2 t162 t156 t157 t158) = some (r1, r2, r3, r4) := by first | (rw [hy178]; first | with_reducible exact H | with_reducible exact OB H) | with_reducible exact OB H | with_reducible exact H | (rw [hy178]; exact H) | exact H
        have Ny178 := AM hy178
        clear hy178
        have H' := AM H
        clear H
        have hnb55 := NB153_154.out
        have hnc55 := NB154_153.out
        have hnb56 := NB153_155.out
        have hnc56 := NB155_153.out
        have hnb57 := NB153_161.out
        have hnc57 := NB161_153.out
        have hcz58_0 : wr.cell? ⟨gb153, 0, none⟩ = some (.int .i64 a0_0) := (blk_cell BK153.out 0).trans rfl
        have hcz58_1 : wr.cell? ⟨gb153, 1, none⟩ = some (.bool a0_1) := (blk_cell BK153.out 1).trans rfl
        have hcz58_2 : wr.cell? ⟨gb153, 2, none⟩ = some (.slice A0_2 l0_2.length c0_2) := (blk_cell BK153.out 2).trans rfl
        have hfz58_0 := blk_frozen BK153.out 0
        have hfz58_1 := blk_frozen BK153.out 1
        have hfz58_2 := blk_frozen BK153.out 2
        try go_wp2
        replace HO_7 := AM (Kd.R_drew HO_7.out); replace HO_162002 := AM (Kd.R_drew HO_162002.out); replace BK153 := AM (blk_drew BK153.out); replace BK154 := AM (blk_drew BK154.out); replace BK155 := AM (blk_drew BK155.out); replace BK161 := AM (blk_drew BK161.out); replace HB := AM (below_drew1 HB.out)
        have p175 : 0 ≤ (x9_2 : Int) := DT
        have q175 : x9_2 < (l0_2.length : Int) := DT
        obtain ⟨ad175, e175, hx175_0, hx175_1, hx175_2, hx175_3⟩ := at_T60 HR0_2.out x9_2 p175 q175
        have hw175_3 := hx175_3
        have hw175_2 := hx175_2
        have hw175_1 := hx175_1
        have hw175_0 := hx175_0
        cases e175
        replace hx175_0 := CX HB.out hx175_0
        replace hx175_1 := CX HB.out hx175_1
        replace hx175_2 := CX HB.out hx175_2
        replace hx175_3 := CX HB.out hx175_3
        replace p175 := eq_true p175
        replace q175 := eq_true q175
        refine start_ (n := 7) (S := fun w' => w'.cell? ⟨gb154, 0, none⟩ = some (.int .i64 a1_0) ∧ w'.cell? ⟨gb154, 1, none⟩ = some (.int .i64 a1_1) ∧ w'.cell? ⟨gb154, 2, none⟩ = some (.string a1_2) ∧ w'.cell? ⟨gb154, 3, none⟩ = some (.int .i64 t162) ∧ w'.cell? ⟨gb153, 0, none⟩ = some (.int .i64 a0_0) ∧ w'.cell? ⟨gb153, 1, none⟩ = some (.bool a0_1) ∧ w'.cell? ⟨gb153, 2, none⟩ = some (.slice (some ad175) l0_2.length c0_2) ∧ w'.cell? (ad175.add ((x9_2).toNat * 4)) = some (.int .i64 ((rd_T60 l0_2 x9_2).f0)) ∧ w'.cell? ⟨(ad175.add ((x9_2).toNat * 4)).block, (ad175.add ((x9_2).toNat * 4)).off + 1, none⟩ = some (.int .i64 ((rd_T60 l0_2 x9_2).f1)) ∧ w'.cell? ⟨(ad175.add ((x9_2).toNat * 4)).block, (ad175.add ((x9_2).toNat * 4)).off + 2, none⟩ = some (.string ((rd_T60 l0_2 x9_2).f2)) ∧ w'.cell? ⟨(ad175.add ((x9_2).toNat * 4)).block, (ad175.add ((x9_2).toNat * 4)).off + 3, none⟩ = some (.int .i64 ((rd_T60 l0_2 x9_2).f3))) (ds := []) (.replicate 7 false) (by kernel_rfl) rfl rfl ⟨(blk_cell BK154.out 0).trans rfl, (blk_cell BK154.out 1).trans rfl, (blk_cell BK154.out 2).trans rfl, (blk_cell BK154.out 3).trans rfl, (blk_cell BK153.out 0).trans rfl, (blk_cell BK153.out 1).trans rfl, (blk_cell BK153.out 2).trans rfl, (CX HB.out hw175_0), (CX HB.out hw175_1), (CX HB.out hw175_2), (CX HB.out hw175_3)⟩ (fun hHeld => ?_)
        generalize wr.drew = w59 at HO_7 HO_162002 BK153 BK154 BK155 BK161 HB hx175_0 hx175_1 hx175_2 hx175_3 hHeld ⊢
        refine PU 1 52 ?_
        refine PU 3 54 ?_
        refine TK 0 51 hHeld ?_
        refine TK 2 53 hHeld ?_
        refine PU 4 55 ?_
        refine TK 5 56 hHeld ?_
        refine one_ (i := 6) (N := some 57) #[true, true, true, true, true, true, true] rfl rfl (by kernel_rfl) (by decide) (fun K hK => ?_)
        refine GO Try.func81 #[.agg #[.int .i64 a1_0, .int .i64 a1_1, .string a1_2, .int .i64 t162], .agg #[.int .i64 ((rd_T60 l0_2 x9_2).f0), .int .i64 ((rd_T60 l0_2 x9_2).f1), .string ((rd_T60 l0_2 x9_2).f2), .int .i64 ((rd_T60 l0_2 x9_2).f3)]] ?_
        with_reducible refine (spec_l14Ahead.calls a1_0 a1_1 a1_2 t162 ((rd_T60 l0_2 x9_2).f0) ((rd_T60 l0_2 x9_2).f1) ((rd_T60 l0_2 x9_2).f2) ((rd_T60 l0_2 x9_2).f3) true _ A52.out).mono ?_
        rintro e w60 ⟨rfl, hb⟩
        refine ⟨_, rfl, ?_⟩
        replace HO_7 := AM (Kd.R_below (RR HO_7.out) hb); replace HO_162002 := AM (Kd.R_below (RR HO_162002.out) hb); replace BK153 := AM (KB BK153.out hb); replace BK154 := AM (KB BK154.out hb); replace BK155 := AM (KB BK155.out hb); replace BK161 := AM (KB BK161.out hb); replace HB := AM (below_step (BB4 HB.out GE153.out GE154.out GE155.out GE161.out) hb)
        (try clear hb)
        (try clear hb2)
        (try clear hk)
        (try clear hi)
        refine hK.out _ _ ⟨(blk_cell BK154.out 0).trans rfl, (blk_cell BK154.out 1).trans rfl, (blk_cell BK154.out 2).trans rfl, (blk_cell BK154.out 3).trans rfl, (blk_cell BK153.out 0).trans rfl, (blk_cell BK153.out 1).trans rfl, (blk_cell BK153.out 2).trans rfl, (CX HB.out hw175_0), (CX HB.out hw175_1), (CX HB.out hw175_2), (CX HB.out hw175_3)⟩ (fun hHeld => ?_)
        clear hK K
        refine NM 57 ?_
        refine done_ (by kernel_rfl) ?_
        have hcz61_0 : w60.cell? ⟨gb153, 0, none⟩ = some (.int .i64 a0_0) := (blk_cell BK153.out 0).trans rfl
        have hcz61_1 : w60.cell? ⟨gb153, 1, none⟩ = some (.bool a0_1) := (blk_cell BK153.out 1).trans rfl
        have hcz61_2 : w60.cell? ⟨gb153, 2, none⟩ = some (.slice (some ad175) l0_2.length c0_2) := (blk_cell BK153.out 2).trans rfl
        have hfz61_0 := blk_frozen BK153.out 0
        have hfz61_1 := blk_frozen BK153.out 1
        have hfz61_2 := blk_frozen BK153.out 2
        have p177 : 0 ≤ (x9_2 : Int) := DT
        have q177 : x9_2 < (l0_2.length : Int) := DT
        obtain ⟨ad177, e177, hx177_0, hx177_1, hx177_2, hx177_3⟩ := at_T60 HR0_2.out x9_2 p177 q177
        obtain rfl : ad175 = ad177 := (by injection e177)
        replace hx177_0 := CX HB.out hx177_0
        replace hx177_1 := CX HB.out hx177_1
        replace hx177_2 := CX HB.out hx177_2
        replace hx177_3 := CX HB.out hx177_3
        replace p177 := eq_true p177
        replace q177 := eq_true q177
        try go_wp2_with (first | ((with_reducible refine gate_builtin (b := .append) (xs := #[.tmp 58, .tmp 64]) rfl ?_); at_builtin; refine Kd.R_append k60 (w0 := w) w.heap.size rfl (.tmp 58) (.tmp 64) 33 60 (.agg #[(.int .i64 0), (.int .i64 0), (.string ⟨#[]⟩), (.int .i64 0)]) 40 rfl Try.underlying33 info60 rfl (by decide) (by omega) u7 x7_2 (⟨(rd_T60 l0_2 x9_2).f0, (rd_T60 l0_2 x9_2).f1, (rd_T60 l0_2 x9_2).f2, (rd_T60 l0_2 x9_2).f3⟩ : S60) [.int .i64 ((rd_T60 l0_2 x9_2).f0), .int .i64 ((rd_T60 l0_2 x9_2).f1), .string ((rd_T60 l0_2 x9_2).f2), .int .i64 ((rd_T60 l0_2 x9_2).f3)] (fun k_ => some k_ ≠ (.slice Ao17 t158.length co17 : Value).ownBlock ∧ k_ ≠ gb154) (fun _ => False) rfl rfl ?aP (fun _ hk => hk.elim) ?aF ?aO ?aB ?aS ?aL ?_; (case aP => exact k60_mkM _ _ _ (⟨(rd_T60 l0_2 x9_2).f0, (rd_T60 l0_2 x9_2).f1, (rd_T60 l0_2 x9_2).f2, (rd_T60 l0_2 x9_2).f3⟩ : S60)); (case aB => exact (BB4 HB.out GE153.out GE154.out GE155.out GE161.out)); (case aF => exact (fun k_ hk => ⟨Kd.fresh' (Kd.R_lt (RR HO_162002.out)) k_ hk, Kd.freshB (g := gb154) (o := .cells #[.int .i64 a1_0, .int .i64 a1_1, .string a1_2, .int .i64 t162] 60 (0, 0)) (BD BK154.out) k_ hk⟩)); (case aO => exact (RR HO_7.out)); (case aS => exact (below_size (BB4 HB.out GE153.out GE154.out GE155.out GE161.out))); (case aL => have := LMc54.out; omega); intro v179 w62 ho hb hg hat; rw [← Ny178.out] at ho; have n0_ := AM (Kd.R_after (ok := (fun k_ => k_ ≠ gb154)) (by (with_reducible repeat (first | apply Kd.R_alloc | apply Kd.R_drewN | apply Kd.R_drew)); exact Kd.R_mono HO_162002.out (fun _ hk => ⟨hk.2, hk.1⟩)) hg hat); have n1_ := AM (blk_grown (g := gb153) (o := .cells #[.int .i64 a0_0, .bool a0_1, .slice (some ad175) l0_2.length c0_2] 35 (0, 0)) (BD BK153.out) hg (Kd.R_ne HO_7.out BK153.out (by decide))); have n2_ := AM (blk_grown (g := gb154) (o := .cells #[.int .i64 a1_0, .int .i64 a1_1, .string a1_2, .int .i64 t162] 60 (0, 0)) (BD BK154.out) hg (Kd.R_away HO_7.out (fun _ hk => hk.2))); have n3_ := AM (blk_grown (g := gb155) (o := .cells #[.int .i64 0, .bool false, .slice none 0 0] 35 (0, 0)) (BD BK155.out) hg (Kd.R_ne HO_7.out BK155.out (by decide))); have n4_ := AM (blk_grown (g := gb161) (o := .cells #[.int .i64 t156, .bool t157, .slice Ao17 t158.length co17] 35 (0, 0)) (BD BK161.out) hg (Kd.R_ne HO_7.out BK161.out (by decide))); have n5_ := AM (hb); have n6_ := AM (ho); clear HO_162002; clear BK153; clear BK154; clear BK155; clear BK161; clear HB; clear HO_7; have HO_162002 := n0_; have BK153 := n1_; have BK154 := n2_; have BK155 := n3_; have BK161 := n4_; have HB := n5_; have HO180 := n6_; clear n0_ n1_ n2_ n3_ n4_ n5_ n6_; clear ho hb hg hat))
        go_roundg k2
        case measure => have := HK1.out; have := HK2.out; omega
        case rel => exact ⟨(y178), (wrap64 (x9_2 + 1)), FR, H', ⟨by have := HK1.out; have := HK2.out; omega⟩, ⟨(RR HO180.out)⟩, ⟨by (with_reducible repeat (first | apply Kd.R_alloc | apply Kd.R_drewN | apply Kd.R_drew)); exact Kd.R_mono HO_162002.out (fun _ hk => ⟨hk.2, hk.1⟩)⟩, ⟨by refine BD ?_; exact BK153.out⟩, ⟨by refine BD ?_; exact BK154.out⟩, ⟨by refine BD ?_; exact BK155.out⟩, ⟨by refine BD ?_; exact BK161.out⟩, ⟨(BB4 HB.out GE153.out GE154.out GE155.out GE161.out)⟩⟩
       ·replace c53 := Bool.eq_false_iff.mpr c53
        subst c53
        have H1 : (spec_PutUnit.l1 k2 x7_2 (wrap64 (x9_2 + 1)) a0_0 a0_1 l0_2 a1_0 a1_1 a1_2 t162 t156 t157 t158) = some (r1, r2, r3, r4) := by rw [if_neg (show ¬ (false = true) by decide)] at H; exact H
        clear H
        have H := H1
        clear H1
        have H' := AM H
        clear H
        have hnb63 := NB153_154.out
        have hnc63 := NB154_153.out
        have hnb64 := NB153_155.out
        have hnc64 := NB155_153.out
        have hnb65 := NB153_161.out
        have hnc65 := NB161_153.out
        have hcz66_0 : wr.cell? ⟨gb153, 0, none⟩ = some (.int .i64 a0_0) := (blk_cell BK153.out 0).trans rfl
        have hcz66_1 : wr.cell? ⟨gb153, 1, none⟩ = some (.bool a0_1) := (blk_cell BK153.out 1).trans rfl
        have hcz66_2 : wr.cell? ⟨gb153, 2, none⟩ = some (.slice A0_2 l0_2.length c0_2) := (blk_cell BK153.out 2).trans rfl
        have hfz66_0 := blk_frozen BK153.out 0
        have hfz66_1 := blk_frozen BK153.out 1
        have hfz66_2 := blk_frozen BK153.out 2
        try go_wp2
        replace HO_7 := AM (Kd.R_drew HO_7.out); replace HO_162002 := AM (Kd.R_drew HO_162002.out); replace BK153 := AM (blk_drew BK153.out); replace BK154 := AM (blk_drew BK154.out); replace BK155 := AM (blk_drew BK155.out); replace BK161 := AM (blk_drew BK161.out); replace HB := AM (below_drew1 HB.out)
        have p175 : 0 ≤ (x9_2 : Int) := DT
        have q175 : x9_2 < (l0_2.length : Int) := DT
        obtain ⟨ad175, e175, hx175_0, hx175_1, hx175_2, hx175_3⟩ := at_T60 HR0_2.out x9_2 p175 q175
        have hw175_3 := hx175_3
        have hw175_2 := hx175_2
        have hw175_1 := hx175_1
        have hw175_0 := hx175_0
        cases e175
        replace hx175_0 := CX HB.out hx175_0
        replace hx175_1 := CX HB.out hx175_1
        replace hx175_2 := CX HB.out hx175_2
        replace hx175_3 := CX HB.out hx175_3
        replace p175 := eq_true p175
        replace q175 := eq_true q175
        refine start_ (n := 7) (S := fun w' => w'.cell? ⟨gb154, 0, none⟩ = some (.int .i64 a1_0) ∧ w'.cell? ⟨gb154, 1, none⟩ = some (.int .i64 a1_1) ∧ w'.cell? ⟨gb154, 2, none⟩ = some (.string a1_2) ∧ w'.cell? ⟨gb154, 3, none⟩ = some (.int .i64 t162) ∧ w'.cell? ⟨gb153, 0, none⟩ = some (.int .i64 a0_0) ∧ w'.cell? ⟨gb153, 1, none⟩ = some (.bool a0_1) ∧ w'.cell? ⟨gb153, 2, none⟩ = some (.slice (some ad175) l0_2.length c0_2) ∧ w'.cell? (ad175.add ((x9_2).toNat * 4)) = some (.int .i64 ((rd_T60 l0_2 x9_2).f0)) ∧ w'.cell? ⟨(ad175.add ((x9_2).toNat * 4)).block, (ad175.add ((x9_2).toNat * 4)).off + 1, none⟩ = some (.int .i64 ((rd_T60 l0_2 x9_2).f1)) ∧ w'.cell? ⟨(ad175.add ((x9_2).toNat * 4)).block, (ad175.add ((x9_2).toNat * 4)).off + 2, none⟩ = some (.string ((rd_T60 l0_2 x9_2).f2)) ∧ w'.cell? ⟨(ad175.add ((x9_2).toNat * 4)).block, (ad175.add ((x9_2).toNat * 4)).off + 3, none⟩ = some (.int .i64 ((rd_T60 l0_2 x9_2).f3))) (ds := []) (.replicate 7 false) (by kernel_rfl) rfl rfl ⟨(blk_cell BK154.out 0).trans rfl, (blk_cell BK154.out 1).trans rfl, (blk_cell BK154.out 2).trans rfl, (blk_cell BK154.out 3).trans rfl, (blk_cell BK153.out 0).trans rfl, (blk_cell BK153.out 1).trans rfl, (blk_cell BK153.out 2).trans rfl, (CX HB.out hw175_0), (CX HB.out hw175_1), (CX HB.out hw175_2), (CX HB.out hw175_3)⟩ (fun hHeld => ?_)
        generalize wr.drew = w67 at HO_7 HO_162002 BK153 BK154 BK155 BK161 HB hx175_0 hx175_1 hx175_2 hx175_3 hHeld ⊢
        refine PU 1 52 ?_
        refine PU 3 54 ?_
        refine TK 0 51 hHeld ?_
        refine TK 2 53 hHeld ?_
        refine PU 4 55 ?_
        refine TK 5 56 hHeld ?_
        refine one_ (i := 6) (N := some 57) #[true, true, true, true, true, true, true] rfl rfl (by kernel_rfl) (by decide) (fun K hK => ?_)
        refine GO Try.func81 #[.agg #[.int .i64 a1_0, .int .i64 a1_1, .string a1_2, .int .i64 t162], .agg #[.int .i64 ((rd_T60 l0_2 x9_2).f0), .int .i64 ((rd_T60 l0_2 x9_2).f1), .string ((rd_T60 l0_2 x9_2).f2), .int .i64 ((rd_T60 l0_2 x9_2).f3)]] ?_
        with_reducible refine (spec_l14Ahead.calls a1_0 a1_1 a1_2 t162 ((rd_T60 l0_2 x9_2).f0) ((rd_T60 l0_2 x9_2).f1) ((rd_T60 l0_2 x9_2).f2) ((rd_T60 l0_2 x9_2).f3) false _ A52.out).mono ?_
        rintro e w68 ⟨rfl, hb⟩
        refine ⟨_, rfl, ?_⟩
        replace HO_7 := AM (Kd.R_below (RR HO_7.out) hb); replace HO_162002 := AM (Kd.R_below (RR HO_162002.out) hb); replace BK153 := AM (KB BK153.out hb); replace BK154 := AM (KB BK154.out hb); replace BK155 := AM (KB BK155.out hb); replace BK161 := AM (KB BK161.out hb); replace HB := AM (below_step (BB4 HB.out GE153.out GE154.out GE155.out GE161.out) hb)
        (try clear hb)
        (try clear hb2)
        (try clear hk)
        (try clear hi)
        refine hK.out _ _ ⟨(blk_cell BK154.out 0).trans rfl, (blk_cell BK154.out 1).trans rfl, (blk_cell BK154.out 2).trans rfl, (blk_cell BK154.out 3).trans rfl, (blk_cell BK153.out 0).trans rfl, (blk_cell BK153.out 1).trans rfl, (blk_cell BK153.out 2).trans rfl, (CX HB.out hw175_0), (CX HB.out hw175_1), (CX HB.out hw175_2), (CX HB.out hw175_3)⟩ (fun hHeld => ?_)
        clear hK K
        refine NM 57 ?_
        refine done_ (by kernel_rfl) ?_
        try go_wp2
        go_roundg k2
        case measure => have := HK1.out; have := HK2.out; omega
        case rel => exact ⟨(x7_2), (wrap64 (x9_2 + 1)), FR, H', ⟨by have := HK1.out; have := HK2.out; omega⟩, ⟨(RR HO_7.out)⟩, ⟨(RR HO_162002.out)⟩, ⟨by refine BD ?_; exact BK153.out⟩, ⟨by refine BD ?_; exact BK154.out⟩, ⟨by refine BD ?_; exact BK155.out⟩, ⟨by refine BD ?_; exact BK161.out⟩, ⟨(BB4 HB.out GE153.out GE154.out GE155.out GE161.out)⟩⟩
      ·rw [if_neg c50] at H
       have c50b0 := decide_eq_false c50
       clear c50
       replace H := Option.bind_eq_some_iff.mp H
       obtain ⟨t182, A690, H⟩ := H
       replace H : (if t182 = true then (if a0_1 = true then ((spec_HostOk.f k2 a0_0 a0_1 x7_2).bind fun t183 => (if t183 = true then (some (a0_0, a0_1, x7_2, true)) else (some (t156, t157, t158, false)))) else (some (t156, t157, t158, false))) else (some (t156, t157, t158, false))) = some (r1, r2, r3, r4) := H
       have A69 := AM A690
       clear A690
       by_cases c70 : t182 = true
       ·subst c70
        have H1 : (if a0_1 = true then ((spec_HostOk.f k2 a0_0 a0_1 x7_2).bind fun t183 => (if t183 = true then (some (a0_0, a0_1, x7_2, true)) else (some (t156, t157, t158, false)))) else (some (t156, t157, t158, false))) = some (r1, r2, r3, r4) := by rw [if_pos rfl] at H; exact H
        clear H
        have H := H1
        clear H1
        by_cases c71 : a0_1 = true
        ·subst c71
         have H1 : ((spec_HostOk.f k2 a0_0 true x7_2).bind fun t183 => (if t183 = true then (some (a0_0, true, x7_2, true)) else (some (t156, t157, t158, false)))) = some (r1, r2, r3, r4) := by rw [if_pos rfl] at H; exact H
         clear H
         have H := H1
         clear H1
         replace H := Option.bind_eq_some_iff.mp H
         obtain ⟨t183, A720, H⟩ := H
         replace H : (if t183 = true then (some (a0_0, true, x7_2, true)) else (some (t156, t157, t158, false))) = some (r1, r2, r3, r4) := H
         have A72 := AM A720
         clear A720
         by_cases c73 : t183 = true
         ·subst c73
          have H1 : (some (a0_0, true, x7_2, true)) = some (r1, r2, r3, r4) := by rw [if_pos rfl] at H; exact H
          clear H
          have H := H1
          clear H1
          simp only [Option.some.injEq, Prod.mk.injEq] at H
          obtain ⟨rfl, rfl, rfl, rfl⟩ := H
          have hnb74 := NB153_154.out
          have hnc74 := NB154_153.out
          have hnb75 := NB153_155.out
          have hnc75 := NB155_153.out
          have hnb76 := NB153_161.out
          have hnc76 := NB161_153.out
          have hcz77_0 : wr.cell? ⟨gb153, 0, none⟩ = some (.int .i64 a0_0) := (blk_cell BK153.out 0).trans rfl
          have hcz77_1 : wr.cell? ⟨gb153, 1, none⟩ = some (.bool true) := (blk_cell BK153.out 1).trans rfl
          have hcz77_2 : wr.cell? ⟨gb153, 2, none⟩ = some (.slice A0_2 l0_2.length c0_2) := (blk_cell BK153.out 2).trans rfl
          have hfz77_0 := blk_frozen BK153.out 0
          have hfz77_1 := blk_frozen BK153.out 1
          have hfz77_2 := blk_frozen BK153.out 2
          obtain ⟨Ao78, co78, eo78⟩ := Kd.R_slice HO_7.out
          subst eo78
          go_wp2_with (first | ((with_reducible refine gate_dst (N := 10) rfl ?_); refine BX 10 #[.int .i64 0, .bool false, .slice none 0 0] 35 ?_; intro gb181 hg w79 hbox hb; have BK181 := AM (hbox); have GW181 : Aside0 (w.heap.size ≤ gb181) := WG hg (BB4 HB.out GE153.out GE154.out GE155.out GE161.out); have GE181 := GW181; have NB153_181 := NL BK153.out hg; have NB181_153 := NG BK153.out hg; have NB154_181 := NL BK154.out hg; have NB181_154 := NG BK154.out hg; have NB155_181 := NL BK155.out hg; have NB181_155 := NG BK155.out hg; have NB161_181 := NL BK161.out hg; have NB181_161 := NG BK161.out hg; replace HO_7 := AM (Kd.R_below (RR HO_7.out) hb); replace HO_162002 := AM (Kd.R_below (RR HO_162002.out) hb); replace BK153 := AM (KB BK153.out hb); replace BK154 := AM (KB BK154.out hb); replace BK155 := AM (KB BK155.out hb); replace BK161 := AM (KB BK161.out hb); replace HB := AM (below_step (BB4 HB.out GE153.out GE154.out GE155.out GE161.out) hb); clear hb hbox hg; have hnb80 := NB181_153.out; have hnc80 := NB153_181.out; have hnb81 := NB181_154.out; have hnc81 := NB154_181.out; have hnb82 := NB181_155.out; have hnc82 := NB155_181.out; have hnb83 := NB181_161.out; have hnc83 := NB161_181.out; have hcz84_0 : w79.cell? ⟨gb181, 0, none⟩ = some (.int .i64 0) := (blk_cell BK181.out 0).trans rfl; have hcz84_1 : w79.cell? ⟨gb181, 1, none⟩ = some (.bool false) := (blk_cell BK181.out 1).trans rfl; have hcz84_2 : w79.cell? ⟨gb181, 2, none⟩ = some (.slice none 0 0) := (blk_cell BK181.out 2).trans rfl; have hfz84_0 := blk_frozen BK181.out 0; have hfz84_1 := blk_frozen BK181.out 1; have hfz84_2 := blk_frozen BK181.out 2; have hcz85_0 : w79.cell? ⟨gb153, 0, none⟩ = some (.int .i64 a0_0) := (blk_cell BK153.out 0).trans rfl; have hcz85_1 : w79.cell? ⟨gb153, 1, none⟩ = some (.bool true) := (blk_cell BK153.out 1).trans rfl; have hcz85_2 : w79.cell? ⟨gb153, 2, none⟩ = some (.slice A0_2 l0_2.length c0_2) := (blk_cell BK153.out 2).trans rfl; have hfz85_0 := blk_frozen BK153.out 0; have hfz85_1 := blk_frozen BK153.out 1; have hfz85_2 := blk_frozen BK153.out 2) | ((with_reducible refine gate_callee (f := 82) rfl ?_); refine GL (some 73) rfl rfl Try.func82 #[.agg #[.int .i64 a0_0, .bool true, .slice A0_2 l0_2.length c0_2]] rfl ?_; (with_reducible refine (spec_HostOk.calls k2 a0_0 true _ _ l0_2 true _ ?side1 ?side2 A69.out).mono ?_); (case side1 => exact Kd.C_below HR0_2.out (by repeat (first | (with_reducible first | exact HB.out | apply below_alloc | apply pw_below_drewN | apply below_drew1 | refine below_set ?_ GE153.out | refine below_set ?_ GE154.out | refine below_set ?_ GE155.out | refine below_set ?_ GE161.out | refine below_set ?_ GE181.out) | exact HB.out))); (case side2 => exact HC0_2.out); rintro e w86 ⟨rfl, hb⟩; refine ⟨_, rfl, ?_⟩; have n0_ := AM (Kd.R_below (by (with_reducible repeat (first | apply Kd.R_alloc | apply Kd.R_drewN | apply Kd.R_drew)); exact (Kd.R_mono (Kd.R_far (p := ⟨gb181, 2, none⟩) (Kd.R_far (p := ⟨gb181, 1, none⟩) (Kd.R_far (p := ⟨gb181, 0, none⟩) (Kd.R_types HO_7.out BK181.out (by decide)) (fun _ hk => hk.2) (.int .i64 a0_0)) (fun _ hk => hk.2) (.bool true)) (fun _ hk => hk.2) (.slice Ao78 x7_2.length co78)) (fun _ h_ => h_.1))) hb); have n1_ := AM (Kd.R_below (by (with_reducible repeat (first | apply Kd.R_alloc | apply Kd.R_drewN | apply Kd.R_drew)); exact (Kd.R_mono (Kd.R_far (p := ⟨gb181, 2, none⟩) (Kd.R_far (p := ⟨gb181, 1, none⟩) (Kd.R_far (p := ⟨gb181, 0, none⟩) (Kd.R_types HO_162002.out BK181.out (by decide)) (fun _ hk => hk.2) (.int .i64 a0_0)) (fun _ hk => hk.2) (.bool true)) (fun _ hk => hk.2) (.slice Ao78 x7_2.length co78)) (fun _ h_ => h_.1))) hb); have n2_ := AM (blk_below (g := gb153) (o := .cells #[.int .i64 a0_0, .bool true, .slice A0_2 l0_2.length c0_2] 35 (0, 0)) (by refine BD ?_; refine blk_far ?_ NB153_181.out _; refine BD ?_; refine blk_far ?_ NB153_181.out _; refine BD ?_; refine blk_far ?_ NB153_181.out _; refine BD ?_; exact BK153.out) hb); have n3_ := AM (blk_below (g := gb154) (o := .cells #[.int .i64 a1_0, .int .i64 a1_1, .string a1_2, .int .i64 t162] 60 (0, 0)) (by refine BD ?_; refine blk_far ?_ NB154_181.out _; refine BD ?_; refine blk_far ?_ NB154_181.out _; refine BD ?_; refine blk_far ?_ NB154_181.out _; refine BD ?_; exact BK154.out) hb); have n4_ := AM (blk_below (g := gb155) (o := .cells #[.int .i64 0, .bool false, .slice none 0 0] 35 (0, 0)) (by refine BD ?_; refine blk_far ?_ NB155_181.out _; refine BD ?_; refine blk_far ?_ NB155_181.out _; refine BD ?_; refine blk_far ?_ NB155_181.out _; refine BD ?_; exact BK155.out) hb); have n5_ := AM (blk_below (g := gb161) (o := .cells #[.int .i64 t156, .bool t157, .slice Ao17 t158.length co17] 35 (0, 0)) (by refine BD ?_; refine blk_far ?_ NB161_181.out _; refine BD ?_; refine blk_far ?_ NB161_181.out _; refine BD ?_; refine blk_far ?_ NB161_181.out _; refine BD ?_; exact BK161.out) hb); have n6_ := AM (blk_below (g := gb181) (o := .cells #[.int .i64 a0_0, .bool true, .slice Ao78 x7_2.length co78] 35 (0, 0)) (by refine BD ?_; refine blk_put (cs := #[.int .i64 a0_0, .bool true, .slice none 0 0]) ?_ 2 _ rfl; refine BD ?_; refine blk_put (cs := #[.int .i64 a0_0, .bool false, .slice none 0 0]) ?_ 1 _ rfl; refine BD ?_; refine blk_put (cs := #[.int .i64 0, .bool false, .slice none 0 0]) ?_ 0 _ rfl; refine BD ?_; exact BK181.out) hb); have n7_ := AM (below_step (by repeat (first | (with_reducible first | exact HB.out | apply below_alloc | apply pw_below_drewN | apply below_drew1 | refine below_set ?_ GE153.out | refine below_set ?_ GE154.out | refine below_set ?_ GE155.out | refine below_set ?_ GE161.out | refine below_set ?_ GE181.out) | exact HB.out)) hb); clear HO_7; clear HO_162002; clear BK153; clear BK154; clear BK155; clear BK161; clear BK181; clear HB; have HO_7 := n0_; have HO_162002 := n1_; have BK153 := n2_; have BK154 := n3_; have BK155 := n4_; have BK161 := n5_; have BK181 := n6_; have HB := n7_; clear n0_ n1_ n2_ n3_ n4_ n5_ n6_ n7_; (try clear hb); have hcz87_0 : w86.cell? ⟨gb153, 0, none⟩ = some (.int .i64 a0_0) := (blk_cell BK153.out 0).trans rfl; have hcz87_1 : w86.cell? ⟨gb153, 1, none⟩ = some (.bool true) := (blk_cell BK153.out 1).trans rfl; have hcz87_2 : w86.cell? ⟨gb153, 2, none⟩ = some (.slice A0_2 l0_2.length c0_2) := (blk_cell BK153.out 2).trans rfl; have hfz87_0 := blk_frozen BK153.out 0; have hfz87_1 := blk_frozen BK153.out 1; have hfz87_2 := blk_frozen BK153.out 2; have hcz88_0 : w86.cell? ⟨gb181, 0, none⟩ = some (.int .i64 a0_0) := (blk_cell BK181.out 0).trans rfl; have hcz88_1 : w86.cell? ⟨gb181, 1, none⟩ = some (.bool true) := (blk_cell BK181.out 1).trans rfl; have hcz88_2 : w86.cell? ⟨gb181, 2, none⟩ = some (.slice Ao78 x7_2.length co78) := (blk_cell BK181.out 2).trans rfl; have hfz88_0 := blk_frozen BK181.out 0; have hfz88_1 := blk_frozen BK181.out 1; have hfz88_2 := blk_frozen BK181.out 2) | (go_at_call 82; (with_reducible refine (spec_HostOk.calls k2 a0_0 true _ _ x7_2 true _ ?side1 ?side2 A72.out).mono ?_); (case side1 => exact CC (Kd.R_reads' HO_7.out).2.2); (case side2 => exact (Kd.R_reads' HO_7.out).2.1); rintro e w89 ⟨rfl, hb⟩; replace HO_7 := AM (Kd.R_below (RR HO_7.out) hb); replace HO_162002 := AM (Kd.R_below (RR HO_162002.out) hb); replace BK153 := AM (KB BK153.out hb); replace BK154 := AM (KB BK154.out hb); replace BK155 := AM (KB BK155.out hb); replace BK161 := AM (KB BK161.out hb); replace BK181 := AM (KB BK181.out hb); replace HB := AM (below_step (by repeat (first | (with_reducible first | exact HB.out | apply below_alloc | apply pw_below_drewN | apply below_drew1 | refine below_set ?_ GE153.out | refine below_set ?_ GE154.out | refine below_set ?_ GE155.out | refine below_set ?_ GE161.out | refine below_set ?_ GE181.out) | exact HB.out)) hb); (try clear hb); (try clear hb2); (try clear hk); (try clear hi); have hcz90_0 : w89.cell? ⟨gb181, 0, none⟩ = some (.int .i64 a0_0) := (blk_cell BK181.out 0).trans rfl; have hcz90_1 : w89.cell? ⟨gb181, 1, none⟩ = some (.bool true) := (blk_cell BK181.out 1).trans rfl; have hcz90_2 : w89.cell? ⟨gb181, 2, none⟩ = some (.slice Ao78 x7_2.length co78) := (blk_cell BK181.out 2).trans rfl; have hfz90_0 := blk_frozen BK181.out 0; have hfz90_1 := blk_frozen BK181.out 1; have hfz90_2 := blk_frozen BK181.out 2; have hnb91 := NB155_154.out; have hnc91 := NB154_155.out; have hnb92 := NB155_161.out; have hnc92 := NB161_155.out; have hcz93_0 : w89.cell? ⟨gb155, 0, none⟩ = some (.int .i64 0) := (blk_cell BK155.out 0).trans rfl; have hcz93_1 : w89.cell? ⟨gb155, 1, none⟩ = some (.bool false) := (blk_cell BK155.out 1).trans rfl; have hcz93_2 : w89.cell? ⟨gb155, 2, none⟩ = some (.slice none 0 0) := (blk_cell BK155.out 2).trans rfl; have hfz93_0 := blk_frozen BK155.out 0; have hfz93_1 := blk_frozen BK155.out 1; have hfz93_2 := blk_frozen BK155.out 2))
          refine bodyPost_ret (results_ct rfl _ _ gb155 35 #[.int .i64 a0_0, .bool true, .slice Ao78 x7_2.length co78] (0, 0) _ rfl (by refine BD ?_; refine blk_put (cs := #[.int .i64 a0_0, .bool true, .slice none 0 0]) ?_ 2 _ rfl; refine BD ?_; refine blk_put (cs := #[.int .i64 a0_0, .bool false, .slice none 0 0]) ?_ 1 _ rfl; refine BD ?_; refine blk_put (cs := #[.int .i64 0, .bool false, .slice none 0 0]) ?_ 0 _ rfl; refine BD ?_; exact BK155.out) Try.underlying35 rfl (by kernel_rfl)) rfl ?_
          exact ⟨_, ER, by (with_reducible repeat (first | apply Kd.R_alloc | apply Kd.R_drewN | apply Kd.R_drew)); exact Kd.R_mono (Kd.R_far (p := ⟨gb155, 2, none⟩) (Kd.R_far (p := ⟨gb155, 1, none⟩) (Kd.R_far (p := ⟨gb155, 0, none⟩) (Kd.R_types HO_7.out BK155.out (by decide)) (fun _ hk => hk.2) (.int .i64 a0_0)) (fun _ hk => hk.2) (.bool true)) (fun _ hk => hk.2) (.slice Ao78 x7_2.length co78)) (fun _ hk => trivial), by repeat (first | (with_reducible first | exact HB.out | apply below_alloc | apply pw_below_drewN | apply below_drew1 | refine below_set ?_ GE153.out | refine below_set ?_ GE154.out | refine below_set ?_ GE155.out | refine below_set ?_ GE161.out | refine below_set ?_ GE181.out) | exact HB.out)⟩
         ·replace c73 := Bool.eq_false_iff.mpr c73
          subst c73
          have H1 : (some (t156, t157, t158, false)) = some (r1, r2, r3, r4) := by rw [if_neg (show ¬ (false = true) by decide)] at H; exact H
          clear H
          have H := H1
          clear H1
          simp only [Option.some.injEq, Prod.mk.injEq] at H
          obtain ⟨rfl, rfl, rfl, rfl⟩ := H
          have hnb94 := NB153_154.out
          have hnc94 := NB154_153.out
          have hnb95 := NB153_155.out
          have hnc95 := NB155_153.out
          have hnb96 := NB153_161.out
          have hnc96 := NB161_153.out
          have hcz97_0 : wr.cell? ⟨gb153, 0, none⟩ = some (.int .i64 a0_0) := (blk_cell BK153.out 0).trans rfl
          have hcz97_1 : wr.cell? ⟨gb153, 1, none⟩ = some (.bool true) := (blk_cell BK153.out 1).trans rfl
          have hcz97_2 : wr.cell? ⟨gb153, 2, none⟩ = some (.slice A0_2 l0_2.length c0_2) := (blk_cell BK153.out 2).trans rfl
          have hfz97_0 := blk_frozen BK153.out 0
          have hfz97_1 := blk_frozen BK153.out 1
          have hfz97_2 := blk_frozen BK153.out 2
          obtain ⟨Ao98, co98, eo98⟩ := Kd.R_slice HO_7.out
          subst eo98
          go_wp2_with (first | ((with_reducible refine gate_dst (N := 10) rfl ?_); refine BX 10 #[.int .i64 0, .bool false, .slice none 0 0] 35 ?_; intro gb181 hg w99 hbox hb; have BK181 := AM (hbox); have GW181 : Aside0 (w.heap.size ≤ gb181) := WG hg (BB4 HB.out GE153.out GE154.out GE155.out GE161.out); have GE181 := GW181; have NB153_181 := NL BK153.out hg; have NB181_153 := NG BK153.out hg; have NB154_181 := NL BK154.out hg; have NB181_154 := NG BK154.out hg; have NB155_181 := NL BK155.out hg; have NB181_155 := NG BK155.out hg; have NB161_181 := NL BK161.out hg; have NB181_161 := NG BK161.out hg; replace HO_7 := AM (Kd.R_below (RR HO_7.out) hb); replace HO_162002 := AM (Kd.R_below (RR HO_162002.out) hb); replace BK153 := AM (KB BK153.out hb); replace BK154 := AM (KB BK154.out hb); replace BK155 := AM (KB BK155.out hb); replace BK161 := AM (KB BK161.out hb); replace HB := AM (below_step (BB4 HB.out GE153.out GE154.out GE155.out GE161.out) hb); clear hb hbox hg; have hnb100 := NB181_153.out; have hnc100 := NB153_181.out; have hnb101 := NB181_154.out; have hnc101 := NB154_181.out; have hnb102 := NB181_155.out; have hnc102 := NB155_181.out; have hnb103 := NB181_161.out; have hnc103 := NB161_181.out; have hcz104_0 : w99.cell? ⟨gb181, 0, none⟩ = some (.int .i64 0) := (blk_cell BK181.out 0).trans rfl; have hcz104_1 : w99.cell? ⟨gb181, 1, none⟩ = some (.bool false) := (blk_cell BK181.out 1).trans rfl; have hcz104_2 : w99.cell? ⟨gb181, 2, none⟩ = some (.slice none 0 0) := (blk_cell BK181.out 2).trans rfl; have hfz104_0 := blk_frozen BK181.out 0; have hfz104_1 := blk_frozen BK181.out 1; have hfz104_2 := blk_frozen BK181.out 2; have hcz105_0 : w99.cell? ⟨gb153, 0, none⟩ = some (.int .i64 a0_0) := (blk_cell BK153.out 0).trans rfl; have hcz105_1 : w99.cell? ⟨gb153, 1, none⟩ = some (.bool true) := (blk_cell BK153.out 1).trans rfl; have hcz105_2 : w99.cell? ⟨gb153, 2, none⟩ = some (.slice A0_2 l0_2.length c0_2) := (blk_cell BK153.out 2).trans rfl; have hfz105_0 := blk_frozen BK153.out 0; have hfz105_1 := blk_frozen BK153.out 1; have hfz105_2 := blk_frozen BK153.out 2) | ((with_reducible refine gate_callee (f := 82) rfl ?_); refine GL (some 73) rfl rfl Try.func82 #[.agg #[.int .i64 a0_0, .bool true, .slice A0_2 l0_2.length c0_2]] rfl ?_; (with_reducible refine (spec_HostOk.calls k2 a0_0 true _ _ l0_2 true _ ?side1 ?side2 A69.out).mono ?_); (case side1 => exact Kd.C_below HR0_2.out (by repeat (first | (with_reducible first | exact HB.out | apply below_alloc | apply pw_below_drewN | apply below_drew1 | refine below_set ?_ GE153.out | refine below_set ?_ GE154.out | refine below_set ?_ GE155.out | refine below_set ?_ GE161.out | refine below_set ?_ GE181.out) | exact HB.out))); (case side2 => exact HC0_2.out); rintro e w106 ⟨rfl, hb⟩; refine ⟨_, rfl, ?_⟩; have n0_ := AM (Kd.R_below (by (with_reducible repeat (first | apply Kd.R_alloc | apply Kd.R_drewN | apply Kd.R_drew)); exact (Kd.R_mono (Kd.R_far (p := ⟨gb181, 2, none⟩) (Kd.R_far (p := ⟨gb181, 1, none⟩) (Kd.R_far (p := ⟨gb181, 0, none⟩) (Kd.R_types HO_7.out BK181.out (by decide)) (fun _ hk => hk.2) (.int .i64 a0_0)) (fun _ hk => hk.2) (.bool true)) (fun _ hk => hk.2) (.slice Ao98 x7_2.length co98)) (fun _ h_ => h_.1))) hb); have n1_ := AM (Kd.R_below (by (with_reducible repeat (first | apply Kd.R_alloc | apply Kd.R_drewN | apply Kd.R_drew)); exact (Kd.R_mono (Kd.R_far (p := ⟨gb181, 2, none⟩) (Kd.R_far (p := ⟨gb181, 1, none⟩) (Kd.R_far (p := ⟨gb181, 0, none⟩) (Kd.R_types HO_162002.out BK181.out (by decide)) (fun _ hk => hk.2) (.int .i64 a0_0)) (fun _ hk => hk.2) (.bool true)) (fun _ hk => hk.2) (.slice Ao98 x7_2.length co98)) (fun _ h_ => h_.1))) hb); have n2_ := AM (blk_below (g := gb153) (o := .cells #[.int .i64 a0_0, .bool true, .slice A0_2 l0_2.length c0_2] 35 (0, 0)) (by refine BD ?_; refine blk_far ?_ NB153_181.out _; refine BD ?_; refine blk_far ?_ NB153_181.out _; refine BD ?_; refine blk_far ?_ NB153_181.out _; refine BD ?_; exact BK153.out) hb); have n3_ := AM (blk_below (g := gb154) (o := .cells #[.int .i64 a1_0, .int .i64 a1_1, .string a1_2, .int .i64 t162] 60 (0, 0)) (by refine BD ?_; refine blk_far ?_ NB154_181.out _; refine BD ?_; refine blk_far ?_ NB154_181.out _; refine BD ?_; refine blk_far ?_ NB154_181.out _; refine BD ?_; exact BK154.out) hb); have n4_ := AM (blk_below (g := gb155) (o := .cells #[.int .i64 0, .bool false, .slice none 0 0] 35 (0, 0)) (by refine BD ?_; refine blk_far ?_ NB155_181.out _; refine BD ?_; refine blk_far ?_ NB155_181.out _; refine BD ?_; refine blk_far ?_ NB155_181.out _; refine BD ?_; exact BK155.out) hb); have n5_ := AM (blk_below (g := gb161) (o := .cells #[.int .i64 t156, .bool t157, .slice Ao17 t158.length co17] 35 (0, 0)) (by refine BD ?_; refine blk_far ?_ NB161_181.out _; refine BD ?_; refine blk_far ?_ NB161_181.out _; refine BD ?_; refine blk_far ?_ NB161_181.out _; refine BD ?_; exact BK161.out) hb); have n6_ := AM (blk_below (g := gb181) (o := .cells #[.int .i64 a0_0, .bool true, .slice Ao98 x7_2.length co98] 35 (0, 0)) (by refine BD ?_; refine blk_put (cs := #[.int .i64 a0_0, .bool true, .slice none 0 0]) ?_ 2 _ rfl; refine BD ?_; refine blk_put (cs := #[.int .i64 a0_0, .bool false, .slice none 0 0]) ?_ 1 _ rfl; refine BD ?_; refine blk_put (cs := #[.int .i64 0, .bool false, .slice none 0 0]) ?_ 0 _ rfl; refine BD ?_; exact BK181.out) hb); have n7_ := AM (below_step (by repeat (first | (with_reducible first | exact HB.out | apply below_alloc | apply pw_below_drewN | apply below_drew1 | refine below_set ?_ GE153.out | refine below_set ?_ GE154.out | refine below_set ?_ GE155.out | refine below_set ?_ GE161.out | refine below_set ?_ GE181.out) | exact HB.out)) hb); clear HO_7; clear HO_162002; clear BK153; clear BK154; clear BK155; clear BK161; clear BK181; clear HB; have HO_7 := n0_; have HO_162002 := n1_; have BK153 := n2_; have BK154 := n3_; have BK155 := n4_; have BK161 := n5_; have BK181 := n6_; have HB := n7_; clear n0_ n1_ n2_ n3_ n4_ n5_ n6_ n7_; (try clear hb); have hcz107_0 : w106.cell? ⟨gb153, 0, none⟩ = some (.int .i64 a0_0) := (blk_cell BK153.out 0).trans rfl; have hcz107_1 : w106.cell? ⟨gb153, 1, none⟩ = some (.bool true) := (blk_cell BK153.out 1).trans rfl; have hcz107_2 : w106.cell? ⟨gb153, 2, none⟩ = some (.slice A0_2 l0_2.length c0_2) := (blk_cell BK153.out 2).trans rfl; have hfz107_0 := blk_frozen BK153.out 0; have hfz107_1 := blk_frozen BK153.out 1; have hfz107_2 := blk_frozen BK153.out 2; have hcz108_0 : w106.cell? ⟨gb181, 0, none⟩ = some (.int .i64 a0_0) := (blk_cell BK181.out 0).trans rfl; have hcz108_1 : w106.cell? ⟨gb181, 1, none⟩ = some (.bool true) := (blk_cell BK181.out 1).trans rfl; have hcz108_2 : w106.cell? ⟨gb181, 2, none⟩ = some (.slice Ao98 x7_2.length co98) := (blk_cell BK181.out 2).trans rfl; have hfz108_0 := blk_frozen BK181.out 0; have hfz108_1 := blk_frozen BK181.out 1; have hfz108_2 := blk_frozen BK181.out 2) | (go_at_call 82; (with_reducible refine (spec_HostOk.calls k2 a0_0 true _ _ x7_2 false _ ?side1 ?side2 A72.out).mono ?_); (case side1 => exact CC (Kd.R_reads' HO_7.out).2.2); (case side2 => exact (Kd.R_reads' HO_7.out).2.1); rintro e w109 ⟨rfl, hb⟩; replace HO_7 := AM (Kd.R_below (RR HO_7.out) hb); replace HO_162002 := AM (Kd.R_below (RR HO_162002.out) hb); replace BK153 := AM (KB BK153.out hb); replace BK154 := AM (KB BK154.out hb); replace BK155 := AM (KB BK155.out hb); replace BK161 := AM (KB BK161.out hb); replace BK181 := AM (KB BK181.out hb); replace HB := AM (below_step (by repeat (first | (with_reducible first | exact HB.out | apply below_alloc | apply pw_below_drewN | apply below_drew1 | refine below_set ?_ GE153.out | refine below_set ?_ GE154.out | refine below_set ?_ GE155.out | refine below_set ?_ GE161.out | refine below_set ?_ GE181.out) | exact HB.out)) hb); (try clear hb); (try clear hb2); (try clear hk); (try clear hi); have hnb110 := NB161_154.out; have hnc110 := NB154_161.out; have hnb111 := NB161_155.out; have hnc111 := NB155_161.out; have hcz112_0 : w109.cell? ⟨gb161, 0, none⟩ = some (.int .i64 t156) := (blk_cell BK161.out 0).trans rfl; have hcz112_1 : w109.cell? ⟨gb161, 1, none⟩ = some (.bool t157) := (blk_cell BK161.out 1).trans rfl; have hcz112_2 : w109.cell? ⟨gb161, 2, none⟩ = some (.slice Ao17 t158.length co17) := (blk_cell BK161.out 2).trans rfl; have hfz112_0 := blk_frozen BK161.out 0; have hfz112_1 := blk_frozen BK161.out 1; have hfz112_2 := blk_frozen BK161.out 2; have hnb113 := NB155_154.out; have hnc113 := NB154_155.out; have hcz114_0 : w109.cell? ⟨gb155, 0, none⟩ = some (.int .i64 0) := (blk_cell BK155.out 0).trans rfl; have hcz114_1 : w109.cell? ⟨gb155, 1, none⟩ = some (.bool false) := (blk_cell BK155.out 1).trans rfl; have hcz114_2 : w109.cell? ⟨gb155, 2, none⟩ = some (.slice none 0 0) := (blk_cell BK155.out 2).trans rfl; have hfz114_0 := blk_frozen BK155.out 0; have hfz114_1 := blk_frozen BK155.out 1; have hfz114_2 := blk_frozen BK155.out 2))
          refine bodyPost_ret (results_ct rfl _ _ gb155 35 #[.int .i64 t156, .bool t157, .slice Ao17 t158.length co17] (0, 0) _ rfl (by refine BD ?_; refine blk_put (cs := #[.int .i64 t156, .bool t157, .slice none 0 0]) ?_ 2 _ rfl; refine BD ?_; refine blk_put (cs := #[.int .i64 t156, .bool false, .slice none 0 0]) ?_ 1 _ rfl; refine BD ?_; refine blk_put (cs := #[.int .i64 0, .bool false, .slice none 0 0]) ?_ 0 _ rfl; refine BD ?_; exact BK155.out) Try.underlying35 rfl (by kernel_rfl)) rfl ?_
          exact ⟨_, ER, by (with_reducible repeat (first | apply Kd.R_alloc | apply Kd.R_drewN | apply Kd.R_drew)); exact Kd.R_mono (Kd.R_far (p := ⟨gb155, 2, none⟩) (Kd.R_far (p := ⟨gb155, 1, none⟩) (Kd.R_far (p := ⟨gb155, 0, none⟩) (Kd.R_types HO_162002.out BK155.out (by decide)) (fun _ hk => hk.2) (.int .i64 t156)) (fun _ hk => hk.2) (.bool t157)) (fun _ hk => hk.2) (.slice Ao17 t158.length co17)) (fun _ hk => trivial), by repeat (first | (with_reducible first | exact HB.out | apply below_alloc | apply pw_below_drewN | apply below_drew1 | refine below_set ?_ GE153.out | refine below_set ?_ GE154.out | refine below_set ?_ GE155.out | refine below_set ?_ GE161.out | refine below_set ?_ GE181.out) | exact HB.out)⟩
        ·replace c71 := Bool.eq_false_iff.mpr c71
         subst c71
         have H1 : (some (t156, t157, t158, false)) = some (r1, r2, r3, r4) := by rw [if_neg (show ¬ (false = true) by decide)] at H; exact H
         clear H
         have H := H1
         clear H1
         simp only [Option.some.injEq, Prod.mk.injEq] at H
         obtain ⟨rfl, rfl, rfl, rfl⟩ := H
         have hnb115 := NB153_154.out
         have hnc115 := NB154_153.out
         have hnb116 := NB153_155.out
         have hnc116 := NB155_153.out
         have hnb117 := NB153_161.out
         have hnc117 := NB161_153.out
         have hcz118_0 : wr.cell? ⟨gb153, 0, none⟩ = some (.int .i64 a0_0) := (blk_cell BK153.out 0).trans rfl
         have hcz118_1 : wr.cell? ⟨gb153, 1, none⟩ = some (.bool false) := (blk_cell BK153.out 1).trans rfl
         have hcz118_2 : wr.cell? ⟨gb153, 2, none⟩ = some (.slice A0_2 l0_2.length c0_2) := (blk_cell BK153.out 2).trans rfl
         have hfz118_0 := blk_frozen BK153.out 0
         have hfz118_1 := blk_frozen BK153.out 1
         have hfz118_2 := blk_frozen BK153.out 2
         obtain ⟨Ao119, co119, eo119⟩ := Kd.R_slice HO_7.out
         subst eo119
         go_wp2_with (first | ((with_reducible refine gate_dst (N := 10) rfl ?_); refine BX 10 #[.int .i64 0, .bool false, .slice none 0 0] 35 ?_; intro gb181 hg w120 hbox hb; have BK181 := AM (hbox); have GW181 : Aside0 (w.heap.size ≤ gb181) := WG hg (BB4 HB.out GE153.out GE154.out GE155.out GE161.out); have GE181 := GW181; have NB153_181 := NL BK153.out hg; have NB181_153 := NG BK153.out hg; have NB154_181 := NL BK154.out hg; have NB181_154 := NG BK154.out hg; have NB155_181 := NL BK155.out hg; have NB181_155 := NG BK155.out hg; have NB161_181 := NL BK161.out hg; have NB181_161 := NG BK161.out hg; replace HO_7 := AM (Kd.R_below (RR HO_7.out) hb); replace HO_162002 := AM (Kd.R_below (RR HO_162002.out) hb); replace BK153 := AM (KB BK153.out hb); replace BK154 := AM (KB BK154.out hb); replace BK155 := AM (KB BK155.out hb); replace BK161 := AM (KB BK161.out hb); replace HB := AM (below_step (BB4 HB.out GE153.out GE154.out GE155.out GE161.out) hb); clear hb hbox hg; have hnb121 := NB181_153.out; have hnc121 := NB153_181.out; have hnb122 := NB181_154.out; have hnc122 := NB154_181.out; have hnb123 := NB181_155.out; have hnc123 := NB155_181.out; have hnb124 := NB181_161.out; have hnc124 := NB161_181.out; have hcz125_0 : w120.cell? ⟨gb181, 0, none⟩ = some (.int .i64 0) := (blk_cell BK181.out 0).trans rfl; have hcz125_1 : w120.cell? ⟨gb181, 1, none⟩ = some (.bool false) := (blk_cell BK181.out 1).trans rfl; have hcz125_2 : w120.cell? ⟨gb181, 2, none⟩ = some (.slice none 0 0) := (blk_cell BK181.out 2).trans rfl; have hfz125_0 := blk_frozen BK181.out 0; have hfz125_1 := blk_frozen BK181.out 1; have hfz125_2 := blk_frozen BK181.out 2; have hcz126_0 : w120.cell? ⟨gb153, 0, none⟩ = some (.int .i64 a0_0) := (blk_cell BK153.out 0).trans rfl; have hcz126_1 : w120.cell? ⟨gb153, 1, none⟩ = some (.bool false) := (blk_cell BK153.out 1).trans rfl; have hcz126_2 : w120.cell? ⟨gb153, 2, none⟩ = some (.slice A0_2 l0_2.length c0_2) := (blk_cell BK153.out 2).trans rfl; have hfz126_0 := blk_frozen BK153.out 0; have hfz126_1 := blk_frozen BK153.out 1; have hfz126_2 := blk_frozen BK153.out 2) | ((with_reducible refine gate_callee (f := 82) rfl ?_); refine GL (some 73) rfl rfl Try.func82 #[.agg #[.int .i64 a0_0, .bool false, .slice A0_2 l0_2.length c0_2]] rfl ?_; (with_reducible refine (spec_HostOk.calls k2 a0_0 false _ _ l0_2 true _ ?side1 ?side2 A69.out).mono ?_); (case side1 => exact Kd.C_below HR0_2.out (by repeat (first | (with_reducible first | exact HB.out | apply below_alloc | apply pw_below_drewN | apply below_drew1 | refine below_set ?_ GE153.out | refine below_set ?_ GE154.out | refine below_set ?_ GE155.out | refine below_set ?_ GE161.out | refine below_set ?_ GE181.out) | exact HB.out))); (case side2 => exact HC0_2.out); rintro e w127 ⟨rfl, hb⟩; refine ⟨_, rfl, ?_⟩; have n0_ := AM (Kd.R_below (by (with_reducible repeat (first | apply Kd.R_alloc | apply Kd.R_drewN | apply Kd.R_drew)); exact (Kd.R_mono (Kd.R_far (p := ⟨gb181, 2, none⟩) (Kd.R_far (p := ⟨gb181, 1, none⟩) (Kd.R_far (p := ⟨gb181, 0, none⟩) (Kd.R_types HO_7.out BK181.out (by decide)) (fun _ hk => hk.2) (.int .i64 a0_0)) (fun _ hk => hk.2) (.bool false)) (fun _ hk => hk.2) (.slice Ao119 x7_2.length co119)) (fun _ h_ => h_.1))) hb); have n1_ := AM (Kd.R_below (by (with_reducible repeat (first | apply Kd.R_alloc | apply Kd.R_drewN | apply Kd.R_drew)); exact (Kd.R_mono (Kd.R_far (p := ⟨gb181, 2, none⟩) (Kd.R_far (p := ⟨gb181, 1, none⟩) (Kd.R_far (p := ⟨gb181, 0, none⟩) (Kd.R_types HO_162002.out BK181.out (by decide)) (fun _ hk => hk.2) (.int .i64 a0_0)) (fun _ hk => hk.2) (.bool false)) (fun _ hk => hk.2) (.slice Ao119 x7_2.length co119)) (fun _ h_ => h_.1))) hb); have n2_ := AM (blk_below (g := gb153) (o := .cells #[.int .i64 a0_0, .bool false, .slice A0_2 l0_2.length c0_2] 35 (0, 0)) (by refine BD ?_; refine blk_far ?_ NB153_181.out _; refine BD ?_; refine blk_far ?_ NB153_181.out _; refine BD ?_; refine blk_far ?_ NB153_181.out _; refine BD ?_; exact BK153.out) hb); have n3_ := AM (blk_below (g := gb154) (o := .cells #[.int .i64 a1_0, .int .i64 a1_1, .string a1_2, .int .i64 t162] 60 (0, 0)) (by refine BD ?_; refine blk_far ?_ NB154_181.out _; refine BD ?_; refine blk_far ?_ NB154_181.out _; refine BD ?_; refine blk_far ?_ NB154_181.out _; refine BD ?_; exact BK154.out) hb); have n4_ := AM (blk_below (g := gb155) (o := .cells #[.int .i64 0, .bool false, .slice none 0 0] 35 (0, 0)) (by refine BD ?_; refine blk_far ?_ NB155_181.out _; refine BD ?_; refine blk_far ?_ NB155_181.out _; refine BD ?_; refine blk_far ?_ NB155_181.out _; refine BD ?_; exact BK155.out) hb); have n5_ := AM (blk_below (g := gb161) (o := .cells #[.int .i64 t156, .bool t157, .slice Ao17 t158.length co17] 35 (0, 0)) (by refine BD ?_; refine blk_far ?_ NB161_181.out _; refine BD ?_; refine blk_far ?_ NB161_181.out _; refine BD ?_; refine blk_far ?_ NB161_181.out _; refine BD ?_; exact BK161.out) hb); have n6_ := AM (blk_below (g := gb181) (o := .cells #[.int .i64 a0_0, .bool false, .slice Ao119 x7_2.length co119] 35 (0, 0)) (by refine BD ?_; refine blk_put (cs := #[.int .i64 a0_0, .bool false, .slice none 0 0]) ?_ 2 _ rfl; refine BD ?_; refine blk_put (cs := #[.int .i64 a0_0, .bool false, .slice none 0 0]) ?_ 1 _ rfl; refine BD ?_; refine blk_put (cs := #[.int .i64 0, .bool false, .slice none 0 0]) ?_ 0 _ rfl; refine BD ?_; exact BK181.out) hb); have n7_ := AM (below_step (by repeat (first | (with_reducible first | exact HB.out | apply below_alloc | apply pw_below_drewN | apply below_drew1 | refine below_set ?_ GE153.out | refine below_set ?_ GE154.out | refine below_set ?_ GE155.out | refine below_set ?_ GE161.out | refine below_set ?_ GE181.out) | exact HB.out)) hb); clear HO_7; clear HO_162002; clear BK153; clear BK154; clear BK155; clear BK161; clear BK181; clear HB; have HO_7 := n0_; have HO_162002 := n1_; have BK153 := n2_; have BK154 := n3_; have BK155 := n4_; have BK161 := n5_; have BK181 := n6_; have HB := n7_; clear n0_ n1_ n2_ n3_ n4_ n5_ n6_ n7_; (try clear hb); have hcz128_0 : w127.cell? ⟨gb153, 0, none⟩ = some (.int .i64 a0_0) := (blk_cell BK153.out 0).trans rfl; have hcz128_1 : w127.cell? ⟨gb153, 1, none⟩ = some (.bool false) := (blk_cell BK153.out 1).trans rfl; have hcz128_2 : w127.cell? ⟨gb153, 2, none⟩ = some (.slice A0_2 l0_2.length c0_2) := (blk_cell BK153.out 2).trans rfl; have hfz128_0 := blk_frozen BK153.out 0; have hfz128_1 := blk_frozen BK153.out 1; have hfz128_2 := blk_frozen BK153.out 2; have hnb129 := NB161_154.out; have hnc129 := NB154_161.out; have hnb130 := NB161_155.out; have hnc130 := NB155_161.out; have hcz131_0 : w127.cell? ⟨gb161, 0, none⟩ = some (.int .i64 t156) := (blk_cell BK161.out 0).trans rfl; have hcz131_1 : w127.cell? ⟨gb161, 1, none⟩ = some (.bool t157) := (blk_cell BK161.out 1).trans rfl; have hcz131_2 : w127.cell? ⟨gb161, 2, none⟩ = some (.slice Ao17 t158.length co17) := (blk_cell BK161.out 2).trans rfl; have hfz131_0 := blk_frozen BK161.out 0; have hfz131_1 := blk_frozen BK161.out 1; have hfz131_2 := blk_frozen BK161.out 2; have hnb132 := NB155_154.out; have hnc132 := NB154_155.out; have hcz133_0 : w127.cell? ⟨gb155, 0, none⟩ = some (.int .i64 0) := (blk_cell BK155.out 0).trans rfl; have hcz133_1 : w127.cell? ⟨gb155, 1, none⟩ = some (.bool false) := (blk_cell BK155.out 1).trans rfl; have hcz133_2 : w127.cell? ⟨gb155, 2, none⟩ = some (.slice none 0 0) := (blk_cell BK155.out 2).trans rfl; have hfz133_0 := blk_frozen BK155.out 0; have hfz133_1 := blk_frozen BK155.out 1; have hfz133_2 := blk_frozen BK155.out 2))
         refine bodyPost_ret (results_ct rfl _ _ gb155 35 #[.int .i64 t156, .bool t157, .slice Ao17 t158.length co17] (0, 0) _ rfl (by refine BD ?_; refine blk_put (cs := #[.int .i64 t156, .bool t157, .slice none 0 0]) ?_ 2 _ rfl; refine BD ?_; refine blk_put (cs := #[.int .i64 t156, .bool false, .slice none 0 0]) ?_ 1 _ rfl; refine BD ?_; refine blk_put (cs := #[.int .i64 0, .bool false, .slice none 0 0]) ?_ 0 _ rfl; refine BD ?_; exact BK155.out) Try.underlying35 rfl (by kernel_rfl)) rfl ?_
         exact ⟨_, ER, by (with_reducible repeat (first | apply Kd.R_alloc | apply Kd.R_drewN | apply Kd.R_drew)); exact Kd.R_mono (Kd.R_far (p := ⟨gb155, 2, none⟩) (Kd.R_far (p := ⟨gb155, 1, none⟩) (Kd.R_far (p := ⟨gb155, 0, none⟩) (Kd.R_types HO_162002.out BK155.out (by decide)) (fun _ hk => hk.2) (.int .i64 t156)) (fun _ hk => hk.2) (.bool t157)) (fun _ hk => hk.2) (.slice Ao17 t158.length co17)) (fun _ hk => trivial), by repeat (first | (with_reducible first | exact HB.out | apply below_alloc | apply pw_below_drewN | apply below_drew1 | refine below_set ?_ GE153.out | refine below_set ?_ GE154.out | refine below_set ?_ GE155.out | refine below_set ?_ GE161.out | refine below_set ?_ GE181.out) | exact HB.out)⟩
       ·replace c70 := Bool.eq_false_iff.mpr c70
        subst c70
        have H1 : (some (t156, t157, t158, false)) = some (r1, r2, r3, r4) := by rw [if_neg (show ¬ (false = true) by decide)] at H; exact H
        clear H
        have H := H1
        clear H1
        simp only [Option.some.injEq, Prod.mk.injEq] at H
        obtain ⟨rfl, rfl, rfl, rfl⟩ := H
        have hnb134 := NB153_154.out
        have hnc134 := NB154_153.out
        have hnb135 := NB153_155.out
        have hnc135 := NB155_153.out
        have hnb136 := NB153_161.out
        have hnc136 := NB161_153.out
        have hcz137_0 : wr.cell? ⟨gb153, 0, none⟩ = some (.int .i64 a0_0) := (blk_cell BK153.out 0).trans rfl
        have hcz137_1 : wr.cell? ⟨gb153, 1, none⟩ = some (.bool a0_1) := (blk_cell BK153.out 1).trans rfl
        have hcz137_2 : wr.cell? ⟨gb153, 2, none⟩ = some (.slice A0_2 l0_2.length c0_2) := (blk_cell BK153.out 2).trans rfl
        have hfz137_0 := blk_frozen BK153.out 0
        have hfz137_1 := blk_frozen BK153.out 1
        have hfz137_2 := blk_frozen BK153.out 2
        obtain ⟨Ao138, co138, eo138⟩ := Kd.R_slice HO_7.out
        subst eo138
        go_wp2_with (first | ((with_reducible refine gate_dst (N := 10) rfl ?_); refine BX 10 #[.int .i64 0, .bool false, .slice none 0 0] 35 ?_; intro gb181 hg w139 hbox hb; have BK181 := AM (hbox); have GW181 : Aside0 (w.heap.size ≤ gb181) := WG hg (BB4 HB.out GE153.out GE154.out GE155.out GE161.out); have GE181 := GW181; have NB153_181 := NL BK153.out hg; have NB181_153 := NG BK153.out hg; have NB154_181 := NL BK154.out hg; have NB181_154 := NG BK154.out hg; have NB155_181 := NL BK155.out hg; have NB181_155 := NG BK155.out hg; have NB161_181 := NL BK161.out hg; have NB181_161 := NG BK161.out hg; replace HO_7 := AM (Kd.R_below (RR HO_7.out) hb); replace HO_162002 := AM (Kd.R_below (RR HO_162002.out) hb); replace BK153 := AM (KB BK153.out hb); replace BK154 := AM (KB BK154.out hb); replace BK155 := AM (KB BK155.out hb); replace BK161 := AM (KB BK161.out hb); replace HB := AM (below_step (BB4 HB.out GE153.out GE154.out GE155.out GE161.out) hb); clear hb hbox hg; have hnb140 := NB181_153.out; have hnc140 := NB153_181.out; have hnb141 := NB181_154.out; have hnc141 := NB154_181.out; have hnb142 := NB181_155.out; have hnc142 := NB155_181.out; have hnb143 := NB181_161.out; have hnc143 := NB161_181.out; have hcz144_0 : w139.cell? ⟨gb181, 0, none⟩ = some (.int .i64 0) := (blk_cell BK181.out 0).trans rfl; have hcz144_1 : w139.cell? ⟨gb181, 1, none⟩ = some (.bool false) := (blk_cell BK181.out 1).trans rfl; have hcz144_2 : w139.cell? ⟨gb181, 2, none⟩ = some (.slice none 0 0) := (blk_cell BK181.out 2).trans rfl; have hfz144_0 := blk_frozen BK181.out 0; have hfz144_1 := blk_frozen BK181.out 1; have hfz144_2 := blk_frozen BK181.out 2; have hcz145_0 : w139.cell? ⟨gb153, 0, none⟩ = some (.int .i64 a0_0) := (blk_cell BK153.out 0).trans rfl; have hcz145_1 : w139.cell? ⟨gb153, 1, none⟩ = some (.bool a0_1) := (blk_cell BK153.out 1).trans rfl; have hcz145_2 : w139.cell? ⟨gb153, 2, none⟩ = some (.slice A0_2 l0_2.length c0_2) := (blk_cell BK153.out 2).trans rfl; have hfz145_0 := blk_frozen BK153.out 0; have hfz145_1 := blk_frozen BK153.out 1; have hfz145_2 := blk_frozen BK153.out 2) | ((with_reducible refine gate_callee (f := 82) rfl ?_); refine GL (some 73) rfl rfl Try.func82 #[.agg #[.int .i64 a0_0, .bool a0_1, .slice A0_2 l0_2.length c0_2]] rfl ?_; (with_reducible refine (spec_HostOk.calls k2 a0_0 a0_1 _ _ l0_2 false _ ?side1 ?side2 A69.out).mono ?_); (case side1 => exact Kd.C_below HR0_2.out (by repeat (first | (with_reducible first | exact HB.out | apply below_alloc | apply pw_below_drewN | apply below_drew1 | refine below_set ?_ GE153.out | refine below_set ?_ GE154.out | refine below_set ?_ GE155.out | refine below_set ?_ GE161.out | refine below_set ?_ GE181.out) | exact HB.out))); (case side2 => exact HC0_2.out); rintro e w146 ⟨rfl, hb⟩; refine ⟨_, rfl, ?_⟩; have n0_ := AM (Kd.R_below (by (with_reducible repeat (first | apply Kd.R_alloc | apply Kd.R_drewN | apply Kd.R_drew)); exact (Kd.R_mono (Kd.R_far (p := ⟨gb181, 2, none⟩) (Kd.R_far (p := ⟨gb181, 1, none⟩) (Kd.R_far (p := ⟨gb181, 0, none⟩) (Kd.R_types HO_7.out BK181.out (by decide)) (fun _ hk => hk.2) (.int .i64 a0_0)) (fun _ hk => hk.2) (.bool a0_1)) (fun _ hk => hk.2) (.slice Ao138 x7_2.length co138)) (fun _ h_ => h_.1))) hb); have n1_ := AM (Kd.R_below (by (with_reducible repeat (first | apply Kd.R_alloc | apply Kd.R_drewN | apply Kd.R_drew)); exact (Kd.R_mono (Kd.R_far (p := ⟨gb181, 2, none⟩) (Kd.R_far (p := ⟨gb181, 1, none⟩) (Kd.R_far (p := ⟨gb181, 0, none⟩) (Kd.R_types HO_162002.out BK181.out (by decide)) (fun _ hk => hk.2) (.int .i64 a0_0)) (fun _ hk => hk.2) (.bool a0_1)) (fun _ hk => hk.2) (.slice Ao138 x7_2.length co138)) (fun _ h_ => h_.1))) hb); have n2_ := AM (blk_below (g := gb153) (o := .cells #[.int .i64 a0_0, .bool a0_1, .slice A0_2 l0_2.length c0_2] 35 (0, 0)) (by refine BD ?_; refine blk_far ?_ NB153_181.out _; refine BD ?_; refine blk_far ?_ NB153_181.out _; refine BD ?_; refine blk_far ?_ NB153_181.out _; refine BD ?_; exact BK153.out) hb); have n3_ := AM (blk_below (g := gb154) (o := .cells #[.int .i64 a1_0, .int .i64 a1_1, .string a1_2, .int .i64 t162] 60 (0, 0)) (by refine BD ?_; refine blk_far ?_ NB154_181.out _; refine BD ?_; refine blk_far ?_ NB154_181.out _; refine BD ?_; refine blk_far ?_ NB154_181.out _; refine BD ?_; exact BK154.out) hb); have n4_ := AM (blk_below (g := gb155) (o := .cells #[.int .i64 0, .bool false, .slice none 0 0] 35 (0, 0)) (by refine BD ?_; refine blk_far ?_ NB155_181.out _; refine BD ?_; refine blk_far ?_ NB155_181.out _; refine BD ?_; refine blk_far ?_ NB155_181.out _; refine BD ?_; exact BK155.out) hb); have n5_ := AM (blk_below (g := gb161) (o := .cells #[.int .i64 t156, .bool t157, .slice Ao17 t158.length co17] 35 (0, 0)) (by refine BD ?_; refine blk_far ?_ NB161_181.out _; refine BD ?_; refine blk_far ?_ NB161_181.out _; refine BD ?_; refine blk_far ?_ NB161_181.out _; refine BD ?_; exact BK161.out) hb); have n6_ := AM (blk_below (g := gb181) (o := .cells #[.int .i64 a0_0, .bool a0_1, .slice Ao138 x7_2.length co138] 35 (0, 0)) (by refine BD ?_; refine blk_put (cs := #[.int .i64 a0_0, .bool a0_1, .slice none 0 0]) ?_ 2 _ rfl; refine BD ?_; refine blk_put (cs := #[.int .i64 a0_0, .bool false, .slice none 0 0]) ?_ 1 _ rfl; refine BD ?_; refine blk_put (cs := #[.int .i64 0, .bool false, .slice none 0 0]) ?_ 0 _ rfl; refine BD ?_; exact BK181.out) hb); have n7_ := AM (below_step (by repeat (first | (with_reducible first | exact HB.out | apply below_alloc | apply pw_below_drewN | apply below_drew1 | refine below_set ?_ GE153.out | refine below_set ?_ GE154.out | refine below_set ?_ GE155.out | refine below_set ?_ GE161.out | refine below_set ?_ GE181.out) | exact HB.out)) hb); clear HO_7; clear HO_162002; clear BK153; clear BK154; clear BK155; clear BK161; clear BK181; clear HB; have HO_7 := n0_; have HO_162002 := n1_; have BK153 := n2_; have BK154 := n3_; have BK155 := n4_; have BK161 := n5_; have BK181 := n6_; have HB := n7_; clear n0_ n1_ n2_ n3_ n4_ n5_ n6_ n7_; (try clear hb); have hnb147 := NB161_154.out; have hnc147 := NB154_161.out; have hnb148 := NB161_155.out; have hnc148 := NB155_161.out; have hcz149_0 : w146.cell? ⟨gb161, 0, none⟩ = some (.int .i64 t156) := (blk_cell BK161.out 0).trans rfl; have hcz149_1 : w146.cell? ⟨gb161, 1, none⟩ = some (.bool t157) := (blk_cell BK161.out 1).trans rfl; have hcz149_2 : w146.cell? ⟨gb161, 2, none⟩ = some (.slice Ao17 t158.length co17) := (blk_cell BK161.out 2).trans rfl; have hfz149_0 := blk_frozen BK161.out 0; have hfz149_1 := blk_frozen BK161.out 1; have hfz149_2 := blk_frozen BK161.out 2; have hnb150 := NB155_154.out; have hnc150 := NB154_155.out; have hcz151_0 : w146.cell? ⟨gb155, 0, none⟩ = some (.int .i64 0) := (blk_cell BK155.out 0).trans rfl; have hcz151_1 : w146.cell? ⟨gb155, 1, none⟩ = some (.bool false) := (blk_cell BK155.out 1).trans rfl; have hcz151_2 : w146.cell? ⟨gb155, 2, none⟩ = some (.slice none 0 0) := (blk_cell BK155.out 2).trans rfl; have hfz151_0 := blk_frozen BK155.out 0; have hfz151_1 := blk_frozen BK155.out 1; have hfz151_2 := blk_frozen BK155.out 2))
        refine bodyPost_ret (results_ct rfl _ _ gb155 35 #[.int .i64 t156, .bool t157, .slice Ao17 t158.length co17] (0, 0) _ rfl (by refine BD ?_; refine blk_put (cs := #[.int .i64 t156, .bool t157, .slice none 0 0]) ?_ 2 _ rfl; refine BD ?_; refine blk_put (cs := #[.int .i64 t156, .bool false, .slice none 0 0]) ?_ 1 _ rfl; refine BD ?_; refine blk_put (cs := #[.int .i64 0, .bool false, .slice none 0 0]) ?_ 0 _ rfl; refine BD ?_; exact BK155.out) Try.underlying35 rfl (by kernel_rfl)) rfl ?_
        exact ⟨_, ER, by (with_reducible repeat (first | apply Kd.R_alloc | apply Kd.R_drewN | apply Kd.R_drew)); exact Kd.R_mono (Kd.R_far (p := ⟨gb155, 2, none⟩) (Kd.R_far (p := ⟨gb155, 1, none⟩) (Kd.R_far (p := ⟨gb155, 0, none⟩) (Kd.R_types HO_162002.out BK155.out (by decide)) (fun _ hk => hk.2) (.int .i64 t156)) (fun _ hk => hk.2) (.bool t157)) (fun _ hk => hk.2) (.slice Ao17 t158.length co17)) (fun _ hk => trivial), by repeat (first | (with_reducible first | exact HB.out | apply below_alloc | apply pw_below_drewN | apply below_drew1 | refine below_set ?_ GE153.out | refine below_set ?_ GE154.out | refine below_set ?_ GE155.out | refine below_set ?_ GE161.out | refine below_set ?_ GE181.out) | exact HB.out)⟩

def spec_l14Host.l0 : Nat → Int → List Int → Int → Int → Int → Bool → List (S60) → Option (Int × Bool × (List (S60)) × Int × Int)
 | 0, _, _, _, _, _, _, _ => none
 | k + 1, x4, x1000, x1001, x1002, x448000, x448001, x448002 => (spec_l01Below.f x1000 x1001 x1002 7).bind fun bt448 => (if x4 < bt448.1 then ((spec_l01Below.f x1000 bt448.2.1 bt448.2.2 3).bind fun bt451 => ((spec_l01Below.f x1000 bt451.2.1 bt451.2.2 4).bind fun bt454 => ((spec_l01Below.f x1000 bt454.2.1 bt454.2.2 5).bind fun bt457 => ((spec_l01Text.f k x1000 bt457.2.1 bt457.2.2 bt457.1).bind fun bt460 => ((spec_PutUnit.f k x448000 x448001 x448002 (wrap64 (1 + bt451.1)) bt454.1 bt460.1 0).bind fun bt463 => (spec_l14Host.l0 k (wrap64 (x4 + 1)) x1000 bt460.2.1 bt460.2.2 bt463.1 bt463.2.1 bt463.2.2.1)))))) else ((spec_l01Once.f x1000 bt448.2.1 bt448.2.2 3).bind fun bt469 => (if bt469.1 = true then ((spec_l01Below.f x1000 bt469.2.1 bt469.2.2 3).bind fun bt472 => ((spec_l01Below.f x1000 bt472.2.1 bt472.2.2 4).bind fun bt475 => ((spec_l01Below.f x1000 bt475.2.1 bt475.2.2 9).bind fun bt478 => ((spec_Spoil.f k x448000 x448001 x448002 (wrap64 (1 + bt472.1)) bt475.1 bt478.1).bind fun bt481 => ((spec_l01Once.f x1000 bt478.2.1 bt478.2.2 6).bind fun bt487 => (some (bt481.1, !bt487.1, bt481.2.2.1, bt487.2.1, bt487.2.2))))))) else ((spec_l01Once.f x1000 bt469.2.1 bt469.2.2 6).bind fun bt490 => (some (x448000, !bt490.1, x448002, bt490.2.1, bt490.2.2))))))
def spec_l14Host.f (k : Nat) (s0_0 : List Int) (s0_1 : Int) (s0_2 : Int) : Option (Int × Bool × (List (S60)) × Int × Int) := (spec_l01Below.f s0_0 s0_1 s0_2 7).bind fun bt444 => (spec_l14Host.l0 k 0 s0_0 bt444.2.1 bt444.2.2 (wrap64 (1 + bt444.1)) true ([] : List (S60)))
def spec_l14Host.T5 : Bool × List (List Nat × List Nat) := (true, [([], []), ([], []), ([1], [1]), ([2], [2]), ([], []), ([4, 2], [4]), ([], []), ([], []), ([7, 5], [7]), ([6, 8, 8], [6, 8]), ([3, 5, 9], [3, 5, 9]), ([0, 10, 9], [0, 10]), ([11], [11]), ([12], [12]), ([12], [12]), ([13, 11, 0, 1, 2, 3, 4, 5, 6, 7, 8, 9, 10, 11, 12, 13], [13])])
def spec_l14Host.B5 : List Nat := [0, 0, 2, 6, 0, 22, 0, 0, 182, 502, 1022, 2047, 4095, 8191, 8191, 16383]
theorem spec_l14Host.tab5 : rtab .any (opsOf Try.f30 5) = spec_l14Host.T5 := by kernel_rfl
theorem spec_l14Host.bits5 : waitsOk spec_l14Host.T5.2 spec_l14Host.B5 = true := by kernel_rfl
def spec_l14Host.T7 : Bool × List (List Nat × List Nat) := (true, [([], []), ([], []), ([1], [1]), ([2], [2]), ([], []), ([4, 2], [4]), ([], []), ([6, 5], [6]), ([0, 3, 5, 7, 7], [0, 3, 5, 7]), ([8], [8]), ([9], [9]), ([9], [9]), ([10, 8, 0, 1, 2, 3, 4, 5, 6, 7, 8, 9, 10], [10])])
def spec_l14Host.B7 : List Nat := [0, 0, 2, 6, 0, 22, 0, 118, 255, 511, 1023, 1023, 2047]
theorem spec_l14Host.tab7 : rtab .any (opsOf Try.f30 7) = spec_l14Host.T7 := by kernel_rfl
theorem spec_l14Host.bits7 : waitsOk spec_l14Host.T7.2 spec_l14Host.B7 = true := by kernel_rfl
set_option maxHeartbeats 8000000 in
set_option maxRecDepth 100000 in
theorem spec_l14Host.calls (k : Nat) (g : Nat) (s0_0 : List Int) (s0_1 : Int) (s0_2 : Int) (r1 : Int) (r2 : Bool) (r3 : List (S60)) (r4 : Int) (r5 : Int) (w0 w : World) (hI : IsS81 w0 w g s0_0 s0_1 s0_2) (hB : Below w0.heap.size w0 w) (h : spec_l14Host.f k s0_0 s0_1 s0_2 = some (r1, r2, r3, r4, r5)) :
  Calls Try.prog 30 #[.pointer (some ⟨g, 0, none⟩)] w fun e w' => ∃ v2_ : Value, e = .returned (.agg #[.int .i64 r1, .bool r2, v2_]) ∧ Kd.R k60 60 w' w.heap.size (fun _ => True) v2_ r3 ∧ IsS81 w0 w' g s0_0 r4 r5 ∧ Below w0.heap.size w0 w' ∧ KeepBut w w' g none := by
 have hu35 := Try.underlying35
 have hu60 := Try.underlying60
 have HI0 := AM hI
 have HK := AM (KeepBut.refl w g none)
 have HL := AM hB.size
 clear hI
 have HW0 := AM hB.size
 have HB := AM hB
 clear hB
 have H : ((spec_l01Below.f s0_0 s0_1 s0_2 7).bind fun bt444 => (spec_l14Host.l0 k 0 s0_0 bt444.2.1 bt444.2.2 (wrap64 (1 + bt444.1)) true ([] : List (S60)))) = some (r1, r2, r3, r4, r5) := h
 clear h
 replace H := Option.bind_eq_some_iff.mp H
 obtain ⟨⟨t444, t445, t446⟩, A20, H⟩ := H
 replace H : (spec_l14Host.l0 k 0 s0_0 t445 t446 (wrap64 (1 + t444)) true ([] : List (S60))) = some (r1, r2, r3, r4, r5) := H
 have A2 := AM A20
 clear A20
 have H' := AM H
 clear H
 go_enter Try.func30, Try.ntmps30
 go_wp2_with (first | ((with_reducible refine gate_dst (N := 2) rfl ?_); refine BX 2 #[.int .i64 0, .bool false, .slice none 0 0] 35 ?_; intro gb443 hg w3 hbox hb; have n0_ := AM (IsS81.below (II81 HI0.out) hb); have n1_ := AM (KeepBut.trans (KK HK.out) (KeepBut.of_below hb g none) (.inl rfl)); have n2_ := AM (below_step ((BB1 HB.out (IsS81.ge HI0.out))) hb); have n3_ := AM (hbox); have n4_ := AM ((by rw [hg]; exact (keep_size (w := w) (g := g) (row := none) (KK HK.out)) : w.heap.size ≤ gb443)); have n5_ := AM ((Nat.le_trans HW0.out (by rw [hg]; exact (keep_size (w := w) (g := g) (row := none) (KK HK.out)) : w.heap.size ≤ gb443) : w0.heap.size ≤ gb443)); have n6_ := AM ((by rw [hg]; exact Nat.ne_of_lt (IsS81.lt (show IsS81 w0 _ g s0_0 s0_1 s0_2 from (II81 HI0.out))) : g ≠ gb443)); have n7_ := AM ((by rw [hg]; exact Nat.ne_of_gt (IsS81.lt (show IsS81 w0 _ g s0_0 s0_1 s0_2 from (II81 HI0.out))) : gb443 ≠ g)); clear HI0; clear HK; clear HB; have HI0 := n0_; have HK := n1_; have HB := n2_; have BK443 := n3_; have GW443 := n4_; have GE443 := n5_; have NB0_443 := n6_; have NB443_0 := n7_; clear n0_ n1_ n2_ n3_ n4_ n5_ n6_ n7_; clear hb hbox hg) | ((with_reducible refine gate_callee (f := 32) rfl ?_); refine GL (some 6) rfl rfl Try.func32 #[.pointer (some ⟨g, 0, none⟩), .int .i64 7] rfl ?_; (with_reducible refine (spec_l01Below.calls g s0_0 s0_1 s0_2 7 t444 t445 t446 w0 _ ?side1 ?side2 A2.out).mono ?_); (case side1 => exact II811 HI0.out NB0_443.out); (case side2 => exact BB2 HB.out (IsS81.ge HI0.out) GE443.out); rintro e w4 ⟨rfl, hi, hb, hk⟩; refine ⟨_, rfl, ?_⟩; have n0_ := AM (KeepBut.blk hk (g' := gb443) (o := .cells #[.int .i64 0, .bool false, .slice none 0 0] 35 (0, 0)) (BD BK443.out) NB443_0.out (by simp)); have n1_ := AM (KeepBut.trans (KK1 HK.out GW443.out) hk (.inl rfl)); have n2_ := AM (hb); have n3_ := AM (hi); clear BK443; clear HK; clear HB; clear HI0; have BK443 := n0_; have HK := n1_; have HB := n2_; have HI0 := n3_; clear n0_ n1_ n2_ n3_; (try clear hb); (try clear hk); (try clear hi)) | ((with_reducible refine gate_dst (N := 3) rfl ?_); refine BX 3 #[.int .i64 0, .bool false, .slice none 0 0] 35 ?_; intro gb447 hg w5 hbox hb; have n0_ := AM (IsS81.below (II811 HI0.out NB0_443.out) hb); have n1_ := AM (KB BK443.out hb); have n2_ := AM (KeepBut.trans (KK1 HK.out GW443.out) (KeepBut.of_below hb g none) (.inl rfl)); have n3_ := AM (below_step ((BB2 HB.out (IsS81.ge HI0.out) GE443.out)) hb); have n4_ := AM (hbox); have n5_ := AM ((by rw [hg]; exact (keep_size (w := w) (g := g) (row := none) (KK1 HK.out GW443.out)) : w.heap.size ≤ gb447)); have n6_ := AM ((Nat.le_trans HW0.out (by rw [hg]; exact (keep_size (w := w) (g := g) (row := none) (KK1 HK.out GW443.out)) : w.heap.size ≤ gb447) : w0.heap.size ≤ gb447)); have n7_ := NL BK443.out hg; have n8_ := NG BK443.out hg; have n9_ := AM ((by rw [hg]; exact Nat.ne_of_lt (IsS81.lt (show IsS81 w0 _ g s0_0 t445 t446 from (II811 HI0.out NB0_443.out))) : g ≠ gb447)); have n10_ := AM ((by rw [hg]; exact Nat.ne_of_gt (IsS81.lt (show IsS81 w0 _ g s0_0 t445 t446 from (II811 HI0.out NB0_443.out))) : gb447 ≠ g)); clear HI0; clear BK443; clear HK; clear HB; have HI0 := n0_; have BK443 := n1_; have HK := n2_; have HB := n3_; have BK447 := n4_; have GW447 := n5_; have GE447 := n6_; have NB443_447 := n7_; have NB447_443 := n8_; have NB0_447 := n9_; have NB447_0 := n10_; clear n0_ n1_ n2_ n3_ n4_ n5_ n6_ n7_ n8_ n9_ n10_; clear hb hbox hg; have hnb6 := NB447_443.out; have hnc6 := NB443_447.out; have hnb7 := NB447_0.out; have hnc7 := NB0_447.out; have hcz8_0 : w5.cell? ⟨gb447, 0, none⟩ = some (.int .i64 0) := (blk_cell BK447.out 0).trans rfl; have hcz8_1 : w5.cell? ⟨gb447, 1, none⟩ = some (.bool false) := (blk_cell BK447.out 1).trans rfl; have hcz8_2 : w5.cell? ⟨gb447, 2, none⟩ = some (.slice none 0 0) := (blk_cell BK447.out 2).trans rfl; have hfz8_0 := blk_frozen BK447.out 0; have hfz8_1 := blk_frozen BK447.out 1; have hfz8_2 := blk_frozen BK447.out 2))
 go_loopg [4] k (fun kq v4 w' => ∃ (x4_1 : Int) (x1001_1 : Int) (x1002_1 : Int) (x448000_1 : Int) (x448001_1 : Bool) (x448002_1 : List (S60)) (u448002 : Value), v4 = .int .i64 x4_1 ∧ Aside0 (spec_l14Host.l0 kq x4_1 s0_0 x1001_1 x1002_1 x448000_1 x448001_1 x448002_1 = some (r1, r2, r3, r4, r5)) ∧ Aside0 (kq ≤ k) ∧ Aside0 (Kd.R k60 60 w' w.heap.size (fun _ => True) u448002 x448002_1) ∧ Aside0 (w'.heap[gb443]? = some (.cells #[.int .i64 0, .bool false, (.slice none 0 0)] 35 (0, 0))) ∧ Aside0 (w'.heap[gb447]? = some (.cells #[.int .i64 x448000_1, .bool x448001_1, u448002] 35 (0, 0))) ∧ Aside0 (IsS81 w0 w' g s0_0 x1001_1 x1002_1) ∧ Aside0 (KeepBut w w' g none) ∧ Aside0 (Below w0.heap.size w0 w'))
 case atStart => exact ⟨(0), (t445), (t446), (wrap64 (1 + t444)), (true), (([] : List (S60))), (.slice none 0 0), FR, H', ⟨Nat.le_refl _⟩, ⟨by first | exact Kd.R_nil _ _ _ _ _ | exact Kd.N_nil _ _ _ _ _ | exact Kd.V_nil _ _ _ _ _ | exact Kd.Q_nil _ _ _ _ _ | exact Kd.S_nil _ _ _ _ _⟩, ⟨by refine BD ?_; refine blk_far ?_ NB443_447.out _; refine BD ?_; refine blk_far ?_ NB443_447.out _; refine BD ?_; refine blk_far ?_ NB443_447.out _; refine BD ?_; exact BK443.out⟩, ⟨by refine BD ?_; refine blk_put (cs := #[.int .i64 (wrap64 (1 + t444)), .bool true, .slice none 0 0]) ?_ 2 _ rfl; refine BD ?_; refine blk_put (cs := #[.int .i64 (wrap64 (1 + t444)), .bool false, .slice none 0 0]) ?_ 1 _ rfl; refine BD ?_; refine blk_put (cs := #[.int .i64 0, .bool false, .slice none 0 0]) ?_ 0 _ rfl; refine BD ?_; exact BK447.out⟩, ⟨(II812 HI0.out NB0_443.out NB0_447.out)⟩, ⟨(KK2 HK.out GW443.out GW447.out)⟩, ⟨(BB3 HB.out (IsS81.ge HI0.out) GE443.out GE447.out)⟩⟩
 case round =>
  clear H'
  try clear p2
  try clear c3
  try clear c6
  try clear p6
  try clear c7
  try clear hcz8_0
  try clear hcz8_1
  try clear hcz8_2
  try clear hfz8_0
  try clear hfz8_1
  try clear hfz8_2
  obtain ⟨x4_1, x1001_1, x1002_1, x448000_1, x448001_1, x448002_1, u448002, rfl, HA, HK1, HO_448002, BK443, BK447, HI0, HK, HB⟩ := hrel
  cases gk with
  | zero => exact absurd HA.out (by simp [spec_l14Host.l0])
  | succ k1 =>
   have H := HA.out
   clear HA
   simp only [spec_l14Host.l0] at H
   replace H := Option.bind_eq_some_iff.mp H
   obtain ⟨⟨t448, t449, t450⟩, A90, H⟩ := H
   replace H : (if x4_1 < t448 then ((spec_l01Below.f s0_0 t449 t450 3).bind fun bt451 => ((spec_l01Below.f s0_0 bt451.2.1 bt451.2.2 4).bind fun bt454 => ((spec_l01Below.f s0_0 bt454.2.1 bt454.2.2 5).bind fun bt457 => ((spec_l01Text.f k1 s0_0 bt457.2.1 bt457.2.2 bt457.1).bind fun bt460 => ((spec_PutUnit.f k1 x448000_1 x448001_1 x448002_1 (wrap64 (1 + bt451.1)) bt454.1 bt460.1 0).bind fun bt463 => (spec_l14Host.l0 k1 (wrap64 (x4_1 + 1)) s0_0 bt460.2.1 bt460.2.2 bt463.1 bt463.2.1 bt463.2.2.1)))))) else ((spec_l01Once.f s0_0 t449 t450 3).bind fun bt469 => (if bt469.1 = true then ((spec_l01Below.f s0_0 bt469.2.1 bt469.2.2 3).bind fun bt472 => ((spec_l01Below.f s0_0 bt472.2.1 bt472.2.2 4).bind fun bt475 => ((spec_l01Below.f s0_0 bt475.2.1 bt475.2.2 9).bind fun bt478 => ((spec_Spoil.f k1 x448000_1 x448001_1 x448002_1 (wrap64 (1 + bt472.1)) bt475.1 bt478.1).bind fun bt481 => ((spec_l01Once.f s0_0 bt478.2.1 bt478.2.2 6).bind fun bt487 => (some (bt481.1, !bt487.1, bt481.2.2.1, bt487.2.1, bt487.2.2))))))) else ((spec_l01Once.f s0_0 bt469.2.1 bt469.2.2 6).bind fun bt490 => (some (x448000_1, !bt490.1, x448002_1, bt490.2.1, bt490.2.2)))))) = some (r1, r2, r3, r4, r5) := H
   have A9 := AM A90
   clear A90
   by_cases c10 : x4_1 < t448
   ·rw [if_pos c10] at H
    have c10b0 := decide_eq_true c10
    clear c10
    replace H := Option.bind_eq_some_iff.mp H
    obtain ⟨⟨t451, t452, t453⟩, A110, H⟩ := H
    replace H : ((spec_l01Below.f s0_0 t452 t453 4).bind fun bt454 => ((spec_l01Below.f s0_0 bt454.2.1 bt454.2.2 5).bind fun bt457 => ((spec_l01Text.f k1 s0_0 bt457.2.1 bt457.2.2 bt457.1).bind fun bt460 => ((spec_PutUnit.f k1 x448000_1 x448001_1 x448002_1 (wrap64 (1 + t451)) bt454.1 bt460.1 0).bind fun bt463 => (spec_l14Host.l0 k1 (wrap64 (x4_1 + 1)) s0_0 bt460.2.1 bt460.2.2 bt463.1 bt463.2.1 bt463.2.2.1))))) = some (r1, r2, r3, r4, r5) := H
    have A11 := AM A110
    clear A110
    replace H := Option.bind_eq_some_iff.mp H
    obtain ⟨⟨t454, t455, t456⟩, A120, H⟩ := H
    replace H : ((spec_l01Below.f s0_0 t455 t456 5).bind fun bt457 => ((spec_l01Text.f k1 s0_0 bt457.2.1 bt457.2.2 bt457.1).bind fun bt460 => ((spec_PutUnit.f k1 x448000_1 x448001_1 x448002_1 (wrap64 (1 + t451)) t454 bt460.1 0).bind fun bt463 => (spec_l14Host.l0 k1 (wrap64 (x4_1 + 1)) s0_0 bt460.2.1 bt460.2.2 bt463.1 bt463.2.1 bt463.2.2.1)))) = some (r1, r2, r3, r4, r5) := H
    have A12 := AM A120
    clear A120
    replace H := Option.bind_eq_some_iff.mp H
    obtain ⟨⟨t457, t458, t459⟩, A130, H⟩ := H
    replace H : ((spec_l01Text.f k1 s0_0 t458 t459 t457).bind fun bt460 => ((spec_PutUnit.f k1 x448000_1 x448001_1 x448002_1 (wrap64 (1 + t451)) t454 bt460.1 0).bind fun bt463 => (spec_l14Host.l0 k1 (wrap64 (x4_1 + 1)) s0_0 bt460.2.1 bt460.2.2 bt463.1 bt463.2.1 bt463.2.2.1))) = some (r1, r2, r3, r4, r5) := H
    have A13 := AM A130
    clear A130
    replace H := Option.bind_eq_some_iff.mp H
    obtain ⟨⟨t460, t461, t462⟩, A140, H⟩ := H
    replace H : ((spec_PutUnit.f k1 x448000_1 x448001_1 x448002_1 (wrap64 (1 + t451)) t454 t460 0).bind fun bt463 => (spec_l14Host.l0 k1 (wrap64 (x4_1 + 1)) s0_0 t461 t462 bt463.1 bt463.2.1 bt463.2.2.1)) = some (r1, r2, r3, r4, r5) := H
    have A14 := AM A140
    clear A140
    replace H := Option.bind_eq_some_iff.mp H
    obtain ⟨⟨t463, t464, t465, t468⟩, A150, H⟩ := H
    replace H : (spec_l14Host.l0 k1 (wrap64 (x4_1 + 1)) s0_0 t461 t462 t463 t464 t465) = some (r1, r2, r3, r4, r5) := H
    have A15 := AM A150
    clear A150
    have H' := AM H
    clear H
    try go_wp2_with (first | ((with_reducible refine gate_callee (f := 32) rfl ?_); refine GL (some 11) rfl rfl Try.func32 #[.pointer (some ⟨g, 0, none⟩), .int .i64 7] rfl ?_; (with_reducible refine (spec_l01Below.calls g s0_0 x1001_1 x1002_1 7 t448 t449 t450 w0 _ ?side1 ?side2 A9.out).mono ?_); (case side1 => exact II812 HI0.out NB0_443.out NB0_447.out); (case side2 => exact BB3 HB.out (IsS81.ge HI0.out) GE443.out GE447.out); rintro e w16 ⟨rfl, hi, hb, hk⟩; refine ⟨_, rfl, ?_⟩; have n0_ := AM (Kd.R_mono (Kd.R_keep (IsS81.apart (show IsS81 w0 _ g s0_0 x1001_1 x1002_1 from (II812 HI0.out NB0_443.out NB0_447.out)) (RR HO_448002.out) (by decide)) hk (fun _ h => h.2)) (fun _ h => h.1)); have n1_ := AM (KeepBut.blk hk (g' := gb443) (o := .cells #[.int .i64 0, .bool false, .slice none 0 0] 35 (0, 0)) (BD BK443.out) NB443_0.out (by simp)); have n2_ := AM (KeepBut.blk hk (g' := gb447) (o := .cells #[.int .i64 x448000_1, .bool x448001_1, u448002] 35 (0, 0)) (BD BK447.out) NB447_0.out (by simp)); have n3_ := AM (KeepBut.trans (KK2 HK.out GW443.out GW447.out) hk (.inl rfl)); have n4_ := AM (hb); have n5_ := AM (hi); clear HO_448002; clear BK443; clear BK447; clear HK; clear HB; clear HI0; have HO_448002 := n0_; have BK443 := n1_; have BK447 := n2_; have HK := n3_; have HB := n4_; have HI0 := n5_; clear n0_ n1_ n2_ n3_ n4_ n5_; (try clear hb); (try clear hk); (try clear hi)))
    replace HO_448002 := AM (Kd.R_drew HO_448002.out); replace BK443 := AM (blk_drew BK443.out); replace BK447 := AM (blk_drew BK447.out); replace HI0 := AM (IsS81.drew HI0.out); replace HK := AM (keep_drew HK.out); replace HB := AM (below_drew1 HB.out)
    refine start_ (n := 16) (S := fun w' => w'.cell? ⟨gb447, 0, none⟩ = some (.int .i64 x448000_1) ∧ w'.cell? ⟨gb447, 1, none⟩ = some (.bool x448001_1) ∧ w'.cell? ⟨gb447, 2, none⟩ = some (u448002)) (ds := [15]) (.replicate 16 false) (by kernel_rfl) rfl rfl ⟨(blk_cell BK447.out 0).trans rfl, (blk_cell BK447.out 1).trans rfl, (blk_cell BK447.out 2).trans rfl⟩ (fun hHeld => ?_); refine with_tabW spec_l14Host.tab5 spec_l14Host.bits5 (fun HT_ HW_ => ?_)
    generalize w16.drew = w17 at HO_448002 BK443 BK447 HI0 HK HB hHeld ⊢
    refine PH 1 17 HT_.out ?_
    refine PH 4 20 HT_.out ?_
    refine PH 6 22 HT_.out ?_
    refine PH 7 23 HT_.out ?_
    refine TH 0 16 HT_.out HW_.out hHeld ?_
    refine OH 2 (some 18) HT_.out (fun K hK => ?_)
    refine GO Try.func32 #[.pointer (some ⟨g, 0, none⟩), .int .i64 3] ?_
    with_reducible refine (spec_l01Below.calls g s0_0 t449 t450 3 t451 t452 t453 w0 _ ?side1 ?side2 A11.out).mono ?_
    (case side1 => exact II812 HI0.out NB0_443.out NB0_447.out)
    (case side2 => exact BB3 HB.out (IsS81.ge HI0.out) GE443.out GE447.out)
    rintro e w18 ⟨rfl, hi, hb, hk⟩
    refine ⟨_, rfl, ?_⟩
    replace HO_448002 := AM (Kd.R_mono (Kd.R_keep (IsS81.apart (show IsS81 w0 _ g s0_0 t449 t450 from (II812 HI0.out NB0_443.out NB0_447.out)) (RR HO_448002.out) (by decide)) hk (fun _ h => h.2)) (fun _ h => h.1)); replace BK443 := AM (KeepBut.blk hk (g' := gb443) (o := .cells #[.int .i64 0, .bool false, .slice none 0 0] 35 (0, 0)) (BD BK443.out) NB443_0.out (by simp)); replace BK447 := AM (KeepBut.blk hk (g' := gb447) (o := .cells #[.int .i64 x448000_1, .bool x448001_1, u448002] 35 (0, 0)) (BD BK447.out) NB447_0.out (by simp)); replace HK := AM (KeepBut.trans (KK2 HK.out GW443.out GW447.out) hk (.inl rfl)); replace HB := AM (hb); replace HI0 := AM (hi)
    (try clear hb)
    (try clear hb2)
    (try clear hk)
    (try clear hi)
    refine hK.out _ _ ⟨(blk_cell BK447.out 0).trans rfl, (blk_cell BK447.out 1).trans rfl, (blk_cell BK447.out 2).trans rfl⟩ (fun hHeld => ?_)
    clear hK K
    refine NM 18 ?_
    refine PH 3 19 HT_.out ?_
    refine OH 5 (some 21) HT_.out (fun K hK => ?_)
    refine GO Try.func32 #[.pointer (some ⟨g, 0, none⟩), .int .i64 4] ?_
    with_reducible refine (spec_l01Below.calls g s0_0 t452 t453 4 t454 t455 t456 w0 _ ?side1 ?side2 A12.out).mono ?_
    (case side1 => exact II812 HI0.out NB0_443.out NB0_447.out)
    (case side2 => exact BB3 HB.out (IsS81.ge HI0.out) GE443.out GE447.out)
    rintro e w19 ⟨rfl, hi, hb, hk⟩
    refine ⟨_, rfl, ?_⟩
    replace HO_448002 := AM (Kd.R_mono (Kd.R_keep (IsS81.apart (show IsS81 w0 _ g s0_0 t452 t453 from (II812 HI0.out NB0_443.out NB0_447.out)) (RR HO_448002.out) (by decide)) hk (fun _ h => h.2)) (fun _ h => h.1)); replace BK443 := AM (KeepBut.blk hk (g' := gb443) (o := .cells #[.int .i64 0, .bool false, .slice none 0 0] 35 (0, 0)) (BD BK443.out) NB443_0.out (by simp)); replace BK447 := AM (KeepBut.blk hk (g' := gb447) (o := .cells #[.int .i64 x448000_1, .bool x448001_1, u448002] 35 (0, 0)) (BD BK447.out) NB447_0.out (by simp)); replace HK := AM (KeepBut.trans (KK2 HK.out GW443.out GW447.out) hk (.inl rfl)); replace HB := AM (hb); replace HI0 := AM (hi)
    (try clear hb)
    (try clear hb2)
    (try clear hk)
    (try clear hi)
    refine hK.out _ _ ⟨(blk_cell BK447.out 0).trans rfl, (blk_cell BK447.out 1).trans rfl, (blk_cell BK447.out 2).trans rfl⟩ (fun hHeld => ?_)
    clear hK K
    refine NM 21 ?_
    refine OH 8 (some 24) HT_.out (fun K hK => ?_)
    refine GO Try.func32 #[.pointer (some ⟨g, 0, none⟩), .int .i64 5] ?_
    with_reducible refine (spec_l01Below.calls g s0_0 t455 t456 5 t457 t458 t459 w0 _ ?side1 ?side2 A13.out).mono ?_
    (case side1 => exact II812 HI0.out NB0_443.out NB0_447.out)
    (case side2 => exact BB3 HB.out (IsS81.ge HI0.out) GE443.out GE447.out)
    rintro e w20 ⟨rfl, hi, hb, hk⟩
    refine ⟨_, rfl, ?_⟩
    replace HO_448002 := AM (Kd.R_mono (Kd.R_keep (IsS81.apart (show IsS81 w0 _ g s0_0 t455 t456 from (II812 HI0.out NB0_443.out NB0_447.out)) (RR HO_448002.out) (by decide)) hk (fun _ h => h.2)) (fun _ h => h.1)); replace BK443 := AM (KeepBut.blk hk (g' := gb443) (o := .cells #[.int .i64 0, .bool false, .slice none 0 0] 35 (0, 0)) (BD BK443.out) NB443_0.out (by simp)); replace BK447 := AM (KeepBut.blk hk (g' := gb447) (o := .cells #[.int .i64 x448000_1, .bool x448001_1, u448002] 35 (0, 0)) (BD BK447.out) NB447_0.out (by simp)); replace HK := AM (KeepBut.trans (KK2 HK.out GW443.out GW447.out) hk (.inl rfl)); replace HB := AM (hb); replace HI0 := AM (hi)
    (try clear hb)
    (try clear hb2)
    (try clear hk)
    (try clear hi)
    refine hK.out _ _ ⟨(blk_cell BK447.out 0).trans rfl, (blk_cell BK447.out 1).trans rfl, (blk_cell BK447.out 2).trans rfl⟩ (fun hHeld => ?_)
    clear hK K
    refine NM 24 ?_
    refine OH 9 (some 25) HT_.out (fun K hK => ?_)
    refine GO Try.func50 #[.pointer (some ⟨g, 0, none⟩), .int .i64 t457] ?_
    with_reducible refine (spec_l01Text.calls k1 g s0_0 t458 t459 t457 t460 t461 t462 w0 _ ?side1 ?side2 A14.out).mono ?_
    (case side1 => exact II812 HI0.out NB0_443.out NB0_447.out)
    (case side2 => exact BB3 HB.out (IsS81.ge HI0.out) GE443.out GE447.out)
    rintro e w21 ⟨rfl, hi, hb, hk⟩
    refine ⟨_, rfl, ?_⟩
    replace HO_448002 := AM (Kd.R_mono (Kd.R_keep (IsS81.apart (show IsS81 w0 _ g s0_0 t458 t459 from (II812 HI0.out NB0_443.out NB0_447.out)) (RR HO_448002.out) (by decide)) hk (fun _ h => h.2)) (fun _ h => h.1)); replace BK443 := AM (KeepBut.blk hk (g' := gb443) (o := .cells #[.int .i64 0, .bool false, .slice none 0 0] 35 (0, 0)) (BD BK443.out) NB443_0.out (by simp)); replace BK447 := AM (KeepBut.blk hk (g' := gb447) (o := .cells #[.int .i64 x448000_1, .bool x448001_1, u448002] 35 (0, 0)) (BD BK447.out) NB447_0.out (by simp)); replace HK := AM (KeepBut.trans (KK2 HK.out GW443.out GW447.out) hk (.inl rfl)); replace HB := AM (hb); replace HI0 := AM (hi)
    (try clear hb)
    (try clear hb2)
    (try clear hk)
    (try clear hi)
    obtain ⟨Ao22, co22, eo22⟩ := Kd.R_slice HO_448002.out
    (first | subst eo22 | (injection eo22 with f1_ f2_ f3_; have f4_ := f1_.symm; have f5_ := f3_.symm; clear f1_ f2_ f3_; subst f4_; subst f5_))
    refine hK.out _ _ ⟨(blk_cell BK447.out 0).trans rfl, (blk_cell BK447.out 1).trans rfl, (blk_cell BK447.out 2).trans rfl⟩ (fun hHeld => ?_)
    clear hK K
    refine NM 25 ?_
    refine PH 10 26 HT_.out ?_
    refine OH 11 (some 27) HT_.out (fun K hK => ?_)
    refine GO Try.func55 #[.agg #[.int .i64 x448000_1, .bool x448001_1, .slice Ao22 x448002_1.length co22], .agg #[.int .i64 (wrap64 (1 + t451)), .int .i64 t454, .string t460, .int .i64 0]] ?_
    with_reducible refine (spec_PutUnit.calls k1 x448000_1 x448001_1 _ _ x448002_1 (wrap64 (1 + t451)) t454 t460 0 t463 t464 t465 t468 _ ?side1 ?side2 A15.out).mono ?_
    (case side1 => exact CC (Kd.R_reads' HO_448002.out).2.2)
    (case side2 => exact (Kd.R_reads' HO_448002.out).2.1)
    rintro e w23 ⟨v466, rfl, ho0, hb⟩
    refine ⟨_, rfl, ?_⟩
    have HO467 := AM (Kd.R_lower (Kd.R_new' ho0 (Kd.R_lt (RR HO_448002.out))) (keep_size (w := w) (g := g) (row := none) (KK2 HK.out GW443.out GW447.out))); replace HO_448002 := AM (Kd.R_elder' (RR HO_448002.out) (Kd.R_base ho0) hb); replace BK443 := AM (KB BK443.out hb); replace BK447 := AM (KB BK447.out hb); replace HK := AM (KeepBut.trans (KK2 HK.out GW443.out GW447.out) (KeepBut.of_below hb g none) (.inl rfl)); replace HB := AM (below_step ((BB3 HB.out (IsS81.ge HI0.out) GE443.out GE447.out)) hb); replace HI0 := AM (IsS81.below (II812 HI0.out NB0_443.out NB0_447.out) hb)
    (try clear hb)
    (try clear hb2)
    (try clear hk)
    (try clear hi)
    (try clear ho0)
    obtain ⟨Ao26, co26, eo26⟩ := Kd.R_slice HO467.out
    (first | subst eo26 | (injection eo26 with f1_ f2_ f3_; have f4_ := f1_.symm; have f5_ := f3_.symm; clear f1_ f2_ f3_; subst f4_; subst f5_))
    refine hK.out _ _ ⟨(blk_cell BK447.out 0).trans rfl, (blk_cell BK447.out 1).trans rfl, (blk_cell BK447.out 2).trans rfl⟩ (fun hHeld => ?_)
    clear hK K
    refine NM 27 ?_
    refine PH 12 15 HT_.out ?_
    refine PH 13 28 HT_.out ?_
    refine PH 14 29 HT_.out ?_
    refine LH 15 none HT_.out (fun K hK => ?_)
    have hs24 : w23.cell? ⟨gb447, 0, none⟩ = some (.int .i64 x448000_1) := (blk_cell BK447.out 0).trans rfl
    have hfs24 := blk_frozen BK447.out 0
    have hns24_0 := NB443_447.out
    have hms24_0 := NB447_443.out
    have hs25 : w23.cell? ⟨gb447, 1, none⟩ = some (.bool x448001_1) := (blk_cell BK447.out 1).trans rfl
    have hfs25 := blk_frozen BK447.out 1
    have hns25_0 := NB443_447.out
    have hms25_0 := NB447_443.out
    have hs27 : w23.cell? ⟨gb447, 2, none⟩ = some (.slice Ao22 x448002_1.length co22) := (blk_cell BK447.out 2).trans rfl
    have hfs27 := blk_frozen BK447.out 2
    have hns27_0 := NB443_447.out
    have hms27_0 := NB447_443.out
    refine skip_ (w1 := ?_) (by rfl) rfl ?_ ?_
    rotate_left
    ·go_simp
     rfl
    refine hK.out _ _ ?_
    clear hK K
    refine done_ (done_of HT_.out (by kernel_rfl)) ?_
    try go_wp2
    go_roundg k1
    case measure => have := HK1.out; omega
    case rel => exact ⟨(wrap64 (x4_1 + 1)), (t461), (t462), (t463), (t464), (t465), (.slice Ao26 t465.length co26), FR, H', ⟨by have := HK1.out; omega⟩, ⟨by (with_reducible repeat (first | apply Kd.R_alloc | apply Kd.R_drewN | apply Kd.R_drew)); exact Kd.R_mono (Kd.R_far (p := ⟨gb447, 2, none⟩) (Kd.R_far (p := ⟨gb447, 1, none⟩) (Kd.R_far (p := ⟨gb447, 0, none⟩) (Kd.R_types HO467.out BK447.out (by decide)) (fun _ hk => hk.2) (.int .i64 t463)) (fun _ hk => hk.2) (.bool t464)) (fun _ hk => hk.2) (.slice Ao26 t465.length co26)) (fun _ hk => trivial)⟩, ⟨by refine BD ?_; refine blk_far ?_ NB443_447.out _; refine BD ?_; refine blk_far ?_ NB443_447.out _; refine BD ?_; refine blk_far ?_ NB443_447.out _; refine BD ?_; exact BK443.out⟩, ⟨by refine BD ?_; refine blk_put (cs := #[.int .i64 t463, .bool t464, .slice Ao22 x448002_1.length co22]) ?_ 2 _ rfl; refine BD ?_; refine blk_put (cs := #[.int .i64 t463, .bool x448001_1, .slice Ao22 x448002_1.length co22]) ?_ 1 _ rfl; refine BD ?_; refine blk_put (cs := #[.int .i64 x448000_1, .bool x448001_1, .slice Ao22 x448002_1.length co22]) ?_ 0 _ rfl; refine BD ?_; exact BK447.out⟩, ⟨(II812 HI0.out NB0_443.out NB0_447.out)⟩, ⟨(KK2 HK.out GW443.out GW447.out)⟩, ⟨(BB3 HB.out (IsS81.ge HI0.out) GE443.out GE447.out)⟩⟩
   ·rw [if_neg c10] at H
    have c10b0 := decide_eq_false c10
    clear c10
    replace H := Option.bind_eq_some_iff.mp H
    obtain ⟨⟨t469, t470, t471⟩, A280, H⟩ := H
    replace H : (if t469 = true then ((spec_l01Below.f s0_0 t470 t471 3).bind fun bt472 => ((spec_l01Below.f s0_0 bt472.2.1 bt472.2.2 4).bind fun bt475 => ((spec_l01Below.f s0_0 bt475.2.1 bt475.2.2 9).bind fun bt478 => ((spec_Spoil.f k1 x448000_1 x448001_1 x448002_1 (wrap64 (1 + bt472.1)) bt475.1 bt478.1).bind fun bt481 => ((spec_l01Once.f s0_0 bt478.2.1 bt478.2.2 6).bind fun bt487 => (some (bt481.1, !bt487.1, bt481.2.2.1, bt487.2.1, bt487.2.2))))))) else ((spec_l01Once.f s0_0 t470 t471 6).bind fun bt490 => (some (x448000_1, !bt490.1, x448002_1, bt490.2.1, bt490.2.2)))) = some (r1, r2, r3, r4, r5) := H
    have A28 := AM A280
    clear A280
    by_cases c29 : t469 = true
    ·subst c29
     have H1 : ((spec_l01Below.f s0_0 t470 t471 3).bind fun bt472 => ((spec_l01Below.f s0_0 bt472.2.1 bt472.2.2 4).bind fun bt475 => ((spec_l01Below.f s0_0 bt475.2.1 bt475.2.2 9).bind fun bt478 => ((spec_Spoil.f k1 x448000_1 x448001_1 x448002_1 (wrap64 (1 + bt472.1)) bt475.1 bt478.1).bind fun bt481 => ((spec_l01Once.f s0_0 bt478.2.1 bt478.2.2 6).bind fun bt487 => (some (bt481.1, !bt487.1, bt481.2.2.1, bt487.2.1, bt487.2.2))))))) = some (r1, r2, r3, r4, r5) := by rw [if_pos rfl] at H; exact H
     clear H
     have H := H1
     clear H1
     replace H := Option.bind_eq_some_iff.mp H
     obtain ⟨⟨t472, t473, t474⟩, A300, H⟩ := H
     replace H : ((spec_l01Below.f s0_0 t473 t474 4).bind fun bt475 => ((spec_l01Below.f s0_0 bt475.2.1 bt475.2.2 9).bind fun bt478 => ((spec_Spoil.f k1 x448000_1 x448001_1 x448002_1 (wrap64 (1 + t472)) bt475.1 bt478.1).bind fun bt481 => ((spec_l01Once.f s0_0 bt478.2.1 bt478.2.2 6).bind fun bt487 => (some (bt481.1, !bt487.1, bt481.2.2.1, bt487.2.1, bt487.2.2)))))) = some (r1, r2, r3, r4, r5) := H
     have A30 := AM A300
     clear A300
     replace H := Option.bind_eq_some_iff.mp H
     obtain ⟨⟨t475, t476, t477⟩, A310, H⟩ := H
     replace H : ((spec_l01Below.f s0_0 t476 t477 9).bind fun bt478 => ((spec_Spoil.f k1 x448000_1 x448001_1 x448002_1 (wrap64 (1 + t472)) t475 bt478.1).bind fun bt481 => ((spec_l01Once.f s0_0 bt478.2.1 bt478.2.2 6).bind fun bt487 => (some (bt481.1, !bt487.1, bt481.2.2.1, bt487.2.1, bt487.2.2))))) = some (r1, r2, r3, r4, r5) := H
     have A31 := AM A310
     clear A310
     replace H := Option.bind_eq_some_iff.mp H
     obtain ⟨⟨t478, t479, t480⟩, A320, H⟩ := H
     replace H : ((spec_Spoil.f k1 x448000_1 x448001_1 x448002_1 (wrap64 (1 + t472)) t475 t478).bind fun bt481 => ((spec_l01Once.f s0_0 t479 t480 6).bind fun bt487 => (some (bt481.1, !bt487.1, bt481.2.2.1, bt487.2.1, bt487.2.2)))) = some (r1, r2, r3, r4, r5) := H
     have A32 := AM A320
     clear A320
     replace H := Option.bind_eq_some_iff.mp H
     obtain ⟨⟨t481, t482, t483, t486⟩, A330, H⟩ := H
     replace H : ((spec_l01Once.f s0_0 t479 t480 6).bind fun bt487 => (some (t481, !bt487.1, t483, bt487.2.1, bt487.2.2))) = some (r1, r2, r3, r4, r5) := H
     have A33 := AM A330
     clear A330
     replace H := Option.bind_eq_some_iff.mp H
     obtain ⟨⟨t487, t488, t489⟩, A340, H⟩ := H
     replace H : (some (t481, !t487, t483, t488, t489)) = some (r1, r2, r3, r4, r5) := H
     have A34 := AM A340
     clear A340
     simp only [Option.some.injEq, Prod.mk.injEq] at H
     obtain ⟨rfl, rfl, rfl, rfl, rfl⟩ := H
     try go_wp2_with (first | ((with_reducible refine gate_callee (f := 32) rfl ?_); refine GL (some 11) rfl rfl Try.func32 #[.pointer (some ⟨g, 0, none⟩), .int .i64 7] rfl ?_; (with_reducible refine (spec_l01Below.calls g s0_0 x1001_1 x1002_1 7 t448 t449 t450 w0 _ ?side1 ?side2 A9.out).mono ?_); (case side1 => exact II812 HI0.out NB0_443.out NB0_447.out); (case side2 => exact BB3 HB.out (IsS81.ge HI0.out) GE443.out GE447.out); rintro e w35 ⟨rfl, hi, hb, hk⟩; refine ⟨_, rfl, ?_⟩; have n0_ := AM (Kd.R_mono (Kd.R_keep (IsS81.apart (show IsS81 w0 _ g s0_0 x1001_1 x1002_1 from (II812 HI0.out NB0_443.out NB0_447.out)) (RR HO_448002.out) (by decide)) hk (fun _ h => h.2)) (fun _ h => h.1)); have n1_ := AM (KeepBut.blk hk (g' := gb443) (o := .cells #[.int .i64 0, .bool false, .slice none 0 0] 35 (0, 0)) (BD BK443.out) NB443_0.out (by simp)); have n2_ := AM (KeepBut.blk hk (g' := gb447) (o := .cells #[.int .i64 x448000_1, .bool x448001_1, u448002] 35 (0, 0)) (BD BK447.out) NB447_0.out (by simp)); have n3_ := AM (KeepBut.trans (KK2 HK.out GW443.out GW447.out) hk (.inl rfl)); have n4_ := AM (hb); have n5_ := AM (hi); clear HO_448002; clear BK443; clear BK447; clear HK; clear HB; clear HI0; have HO_448002 := n0_; have BK443 := n1_; have BK447 := n2_; have HK := n3_; have HB := n4_; have HI0 := n5_; clear n0_ n1_ n2_ n3_ n4_ n5_; (try clear hb); (try clear hk); (try clear hi)) | ((with_reducible refine gate_callee (f := 49) rfl ?_); refine GL (some 31) rfl rfl Try.func49 #[.pointer (some ⟨g, 0, none⟩), .int .i64 3] rfl ?_; (with_reducible refine (spec_l01Once.calls g s0_0 t449 t450 3 true t470 t471 w0 _ ?side1 ?side2 A28.out).mono ?_); (case side1 => exact II812 HI0.out NB0_443.out NB0_447.out); (case side2 => exact BB3 HB.out (IsS81.ge HI0.out) GE443.out GE447.out); rintro e w36 ⟨rfl, hi, hb, hk⟩; refine ⟨_, rfl, ?_⟩; have n0_ := AM (Kd.R_mono (Kd.R_keep (IsS81.apart (show IsS81 w0 _ g s0_0 t449 t450 from (II812 HI0.out NB0_443.out NB0_447.out)) (RR HO_448002.out) (by decide)) hk (fun _ h => h.2)) (fun _ h => h.1)); have n1_ := AM (KeepBut.blk hk (g' := gb443) (o := .cells #[.int .i64 0, .bool false, .slice none 0 0] 35 (0, 0)) (BD BK443.out) NB443_0.out (by simp)); have n2_ := AM (KeepBut.blk hk (g' := gb447) (o := .cells #[.int .i64 x448000_1, .bool x448001_1, u448002] 35 (0, 0)) (BD BK447.out) NB447_0.out (by simp)); have n3_ := AM (KeepBut.trans (KK2 HK.out GW443.out GW447.out) hk (.inl rfl)); have n4_ := AM (hb); have n5_ := AM (hi); clear HO_448002; clear BK443; clear BK447; clear HK; clear HB; clear HI0; have HO_448002 := n0_; have BK443 := n1_; have BK447 := n2_; have HK := n3_; have HB := n4_; have HI0 := n5_; clear n0_ n1_ n2_ n3_ n4_ n5_; (try clear hb); (try clear hk); (try clear hi)))
     replace HO_448002 := AM (Kd.R_drew HO_448002.out); replace BK443 := AM (blk_drew BK443.out); replace BK447 := AM (blk_drew BK447.out); replace HI0 := AM (IsS81.drew HI0.out); replace HK := AM (keep_drew HK.out); replace HB := AM (below_drew1 HB.out)
     refine start_ (n := 13) (S := fun w' => w'.cell? ⟨gb447, 0, none⟩ = some (.int .i64 x448000_1) ∧ w'.cell? ⟨gb447, 1, none⟩ = some (.bool x448001_1) ∧ w'.cell? ⟨gb447, 2, none⟩ = some (u448002)) (ds := [12]) (.replicate 13 false) (by kernel_rfl) rfl rfl ⟨(blk_cell BK447.out 0).trans rfl, (blk_cell BK447.out 1).trans rfl, (blk_cell BK447.out 2).trans rfl⟩ (fun hHeld => ?_); refine with_tabW spec_l14Host.tab7 spec_l14Host.bits7 (fun HT_ HW_ => ?_)
     generalize w36.drew = w37 at HO_448002 BK443 BK447 HI0 HK HB hHeld ⊢
     refine PH 1 34 HT_.out ?_
     refine PH 4 37 HT_.out ?_
     refine PH 6 39 HT_.out ?_
     refine TH 0 33 HT_.out HW_.out hHeld ?_
     refine OH 2 (some 35) HT_.out (fun K hK => ?_)
     refine GO Try.func32 #[.pointer (some ⟨g, 0, none⟩), .int .i64 3] ?_
     with_reducible refine (spec_l01Below.calls g s0_0 t470 t471 3 t472 t473 t474 w0 _ ?side1 ?side2 A30.out).mono ?_
     (case side1 => exact II812 HI0.out NB0_443.out NB0_447.out)
     (case side2 => exact BB3 HB.out (IsS81.ge HI0.out) GE443.out GE447.out)
     rintro e w38 ⟨rfl, hi, hb, hk⟩
     refine ⟨_, rfl, ?_⟩
     replace HO_448002 := AM (Kd.R_mono (Kd.R_keep (IsS81.apart (show IsS81 w0 _ g s0_0 t470 t471 from (II812 HI0.out NB0_443.out NB0_447.out)) (RR HO_448002.out) (by decide)) hk (fun _ h => h.2)) (fun _ h => h.1)); replace BK443 := AM (KeepBut.blk hk (g' := gb443) (o := .cells #[.int .i64 0, .bool false, .slice none 0 0] 35 (0, 0)) (BD BK443.out) NB443_0.out (by simp)); replace BK447 := AM (KeepBut.blk hk (g' := gb447) (o := .cells #[.int .i64 x448000_1, .bool x448001_1, u448002] 35 (0, 0)) (BD BK447.out) NB447_0.out (by simp)); replace HK := AM (KeepBut.trans (KK2 HK.out GW443.out GW447.out) hk (.inl rfl)); replace HB := AM (hb); replace HI0 := AM (hi)
     (try clear hb)
     (try clear hb2)
     (try clear hk)
     (try clear hi)
     refine hK.out _ _ ⟨(blk_cell BK447.out 0).trans rfl, (blk_cell BK447.out 1).trans rfl, (blk_cell BK447.out 2).trans rfl⟩ (fun hHeld => ?_)
     clear hK K
     refine NM 35 ?_
     refine PH 3 36 HT_.out ?_
     refine OH 5 (some 38) HT_.out (fun K hK => ?_)
     refine GO Try.func32 #[.pointer (some ⟨g, 0, none⟩), .int .i64 4] ?_
     with_reducible refine (spec_l01Below.calls g s0_0 t473 t474 4 t475 t476 t477 w0 _ ?side1 ?side2 A31.out).mono ?_
     (case side1 => exact II812 HI0.out NB0_443.out NB0_447.out)
     (case side2 => exact BB3 HB.out (IsS81.ge HI0.out) GE443.out GE447.out)
     rintro e w39 ⟨rfl, hi, hb, hk⟩
     refine ⟨_, rfl, ?_⟩
     replace HO_448002 := AM (Kd.R_mono (Kd.R_keep (IsS81.apart (show IsS81 w0 _ g s0_0 t473 t474 from (II812 HI0.out NB0_443.out NB0_447.out)) (RR HO_448002.out) (by decide)) hk (fun _ h => h.2)) (fun _ h => h.1)); replace BK443 := AM (KeepBut.blk hk (g' := gb443) (o := .cells #[.int .i64 0, .bool false, .slice none 0 0] 35 (0, 0)) (BD BK443.out) NB443_0.out (by simp)); replace BK447 := AM (KeepBut.blk hk (g' := gb447) (o := .cells #[.int .i64 x448000_1, .bool x448001_1, u448002] 35 (0, 0)) (BD BK447.out) NB447_0.out (by simp)); replace HK := AM (KeepBut.trans (KK2 HK.out GW443.out GW447.out) hk (.inl rfl)); replace HB := AM (hb); replace HI0 := AM (hi)
     (try clear hb)
     (try clear hb2)
     (try clear hk)
     (try clear hi)
     refine hK.out _ _ ⟨(blk_cell BK447.out 0).trans rfl, (blk_cell BK447.out 1).trans rfl, (blk_cell BK447.out 2).trans rfl⟩ (fun hHeld => ?_)
     clear hK K
     refine NM 38 ?_
     refine OH 7 (some 40) HT_.out (fun K hK => ?_)
     refine GO Try.func32 #[.pointer (some ⟨g, 0, none⟩), .int .i64 9] ?_
     with_reducible refine (spec_l01Below.calls g s0_0 t476 t477 9 t478 t479 t480 w0 _ ?side1 ?side2 A32.out).mono ?_
     (case side1 => exact II812 HI0.out NB0_443.out NB0_447.out)
     (case side2 => exact BB3 HB.out (IsS81.ge HI0.out) GE443.out GE447.out)
     rintro e w40 ⟨rfl, hi, hb, hk⟩
     refine ⟨_, rfl, ?_⟩
     replace HO_448002 := AM (Kd.R_mono (Kd.R_keep (IsS81.apart (show IsS81 w0 _ g s0_0 t476 t477 from (II812 HI0.out NB0_443.out NB0_447.out)) (RR HO_448002.out) (by decide)) hk (fun _ h => h.2)) (fun _ h => h.1)); replace BK443 := AM (KeepBut.blk hk (g' := gb443) (o := .cells #[.int .i64 0, .bool false, .slice none 0 0] 35 (0, 0)) (BD BK443.out) NB443_0.out (by simp)); replace BK447 := AM (KeepBut.blk hk (g' := gb447) (o := .cells #[.int .i64 x448000_1, .bool x448001_1, u448002] 35 (0, 0)) (BD BK447.out) NB447_0.out (by simp)); replace HK := AM (KeepBut.trans (KK2 HK.out GW443.out GW447.out) hk (.inl rfl)); replace HB := AM (hb); replace HI0 := AM (hi)
     (try clear hb)
     (try clear hb2)
     (try clear hk)
     (try clear hi)
     obtain ⟨Ao41, co41, eo41⟩ := Kd.R_slice HO_448002.out
     (first | subst eo41 | (injection eo41 with f1_ f2_ f3_; have f4_ := f1_.symm; have f5_ := f3_.symm; clear f1_ f2_ f3_; subst f4_; subst f5_))
     refine hK.out _ _ ⟨(blk_cell BK447.out 0).trans rfl, (blk_cell BK447.out 1).trans rfl, (blk_cell BK447.out 2).trans rfl⟩ (fun hHeld => ?_)
     clear hK K
     refine NM 40 ?_
     refine OH 8 (some 41) HT_.out (fun K hK => ?_)
     refine GO Try.func53 #[.agg #[.int .i64 x448000_1, .bool x448001_1, .slice Ao41 x448002_1.length co41], .int .i64 (wrap64 (1 + t472)), .int .i64 t475, .int .i64 t478] ?_
     with_reducible refine (spec_Spoil.calls k1 x448000_1 x448001_1 _ _ x448002_1 (wrap64 (1 + t472)) t475 t478 t481 t482 t483 t486 _ ?side1 ?side2 A33.out).mono ?_
     (case side1 => exact CC (Kd.R_reads' HO_448002.out).2.2)
     (case side2 => exact (Kd.R_reads' HO_448002.out).2.1)
     rintro e w42 ⟨v484, rfl, ho0, hb⟩
     refine ⟨_, rfl, ?_⟩
     have HO485 := AM (Kd.R_lower (Kd.R_new' ho0 (Kd.R_lt (RR HO_448002.out))) (keep_size (w := w) (g := g) (row := none) (KK2 HK.out GW443.out GW447.out))); replace HO_448002 := AM (Kd.R_elder' (RR HO_448002.out) (Kd.R_base ho0) hb); replace BK443 := AM (KB BK443.out hb); replace BK447 := AM (KB BK447.out hb); replace HK := AM (KeepBut.trans (KK2 HK.out GW443.out GW447.out) (KeepBut.of_below hb g none) (.inl rfl)); replace HB := AM (below_step ((BB3 HB.out (IsS81.ge HI0.out) GE443.out GE447.out)) hb); replace HI0 := AM (IsS81.below (II812 HI0.out NB0_443.out NB0_447.out) hb)
     (try clear hb)
     (try clear hb2)
     (try clear hk)
     (try clear hi)
     (try clear ho0)
     obtain ⟨Ao45, co45, eo45⟩ := Kd.R_slice HO485.out
     (first | subst eo45 | (injection eo45 with f1_ f2_ f3_; have f4_ := f1_.symm; have f5_ := f3_.symm; clear f1_ f2_ f3_; subst f4_; subst f5_))
     refine hK.out _ _ ⟨(blk_cell BK447.out 0).trans rfl, (blk_cell BK447.out 1).trans rfl, (blk_cell BK447.out 2).trans rfl⟩ (fun hHeld => ?_)
     clear hK K
     refine NM 41 ?_
     refine PH 9 32 HT_.out ?_
     refine PH 10 42 HT_.out ?_
     refine PH 11 43 HT_.out ?_
     refine LH 12 none HT_.out (fun K hK => ?_)
     have hs43 : w42.cell? ⟨gb447, 0, none⟩ = some (.int .i64 x448000_1) := (blk_cell BK447.out 0).trans rfl
     have hfs43 := blk_frozen BK447.out 0
     have hns43_0 := NB443_447.out
     have hms43_0 := NB447_443.out
     have hs44 : w42.cell? ⟨gb447, 1, none⟩ = some (.bool x448001_1) := (blk_cell BK447.out 1).trans rfl
     have hfs44 := blk_frozen BK447.out 1
     have hns44_0 := NB443_447.out
     have hms44_0 := NB447_443.out
     have hs46 : w42.cell? ⟨gb447, 2, none⟩ = some (.slice Ao41 x448002_1.length co41) := (blk_cell BK447.out 2).trans rfl
     have hfs46 := blk_frozen BK447.out 2
     have hns46_0 := NB443_447.out
     have hms46_0 := NB447_443.out
     refine skip_ (w1 := ?_) (by rfl) rfl ?_ ?_
     rotate_left
     ·go_simp
      rfl
     refine hK.out _ _ ?_
     clear hK K
     refine done_ (done_of HT_.out (by kernel_rfl)) ?_
     try go_wp2_with (first | ((with_reducible refine gate_callee (f := 49) rfl ?_); refine GL (some 45) rfl rfl Try.func49 #[.pointer (some ⟨g, 0, none⟩), .int .i64 6] rfl ?_; (with_reducible refine (spec_l01Once.calls g s0_0 t479 t480 6 t487 t488 t489 w0 _ ?side1 ?side2 A34.out).mono ?_); (case side1 => exact II812 HI0.out NB0_443.out NB0_447.out); (case side2 => exact BB3 HB.out (IsS81.ge HI0.out) GE443.out GE447.out); rintro e w47 ⟨rfl, hi, hb, hk⟩; refine ⟨_, rfl, ?_⟩; have n0_ := AM (Kd.R_mono (Kd.R_keep (IsS81.apart (show IsS81 w0 _ g s0_0 t479 t480 from (II812 HI0.out NB0_443.out NB0_447.out)) (by (with_reducible repeat (first | apply Kd.R_alloc | apply Kd.R_drewN | apply Kd.R_drew)); exact (Kd.R_mono (Kd.R_far (p := ⟨gb447, 2, none⟩) (Kd.R_far (p := ⟨gb447, 1, none⟩) (Kd.R_far (p := ⟨gb447, 0, none⟩) (Kd.R_types HO_448002.out BK447.out (by decide)) (fun _ hk => hk.2) (.int .i64 t481)) (fun _ hk => hk.2) (.bool t482)) (fun _ hk => hk.2) (.slice Ao45 t483.length co45)) (fun _ h_ => h_.1))) (by decide)) hk (fun _ h => h.2)) (fun _ h => h.1)); have n1_ := AM (KeepBut.blk hk (g' := gb443) (o := .cells #[.int .i64 0, .bool false, .slice none 0 0] 35 (0, 0)) (by refine BD ?_; refine blk_far ?_ NB443_447.out _; refine BD ?_; refine blk_far ?_ NB443_447.out _; refine BD ?_; refine blk_far ?_ NB443_447.out _; refine BD ?_; exact BK443.out) NB443_0.out (by simp)); have n2_ := AM (KeepBut.blk hk (g' := gb447) (o := .cells #[.int .i64 t481, .bool t482, .slice Ao45 t483.length co45] 35 (0, 0)) (by refine BD ?_; refine blk_put (cs := #[.int .i64 t481, .bool t482, .slice Ao41 x448002_1.length co41]) ?_ 2 _ rfl; refine BD ?_; refine blk_put (cs := #[.int .i64 t481, .bool x448001_1, .slice Ao41 x448002_1.length co41]) ?_ 1 _ rfl; refine BD ?_; refine blk_put (cs := #[.int .i64 x448000_1, .bool x448001_1, .slice Ao41 x448002_1.length co41]) ?_ 0 _ rfl; refine BD ?_; exact BK447.out) NB447_0.out (by simp)); have n3_ := AM (Kd.R_mono (Kd.R_keep (IsS81.apart (show IsS81 w0 _ g s0_0 t479 t480 from (II812 HI0.out NB0_443.out NB0_447.out)) (by (with_reducible repeat (first | apply Kd.R_alloc | apply Kd.R_drewN | apply Kd.R_drew)); exact (Kd.R_mono (Kd.R_far (p := ⟨gb447, 2, none⟩) (Kd.R_far (p := ⟨gb447, 1, none⟩) (Kd.R_far (p := ⟨gb447, 0, none⟩) (Kd.R_types HO485.out BK447.out (by decide)) (fun _ hk => hk.2) (.int .i64 t481)) (fun _ hk => hk.2) (.bool t482)) (fun _ hk => hk.2) (.slice Ao45 t483.length co45)) (fun _ h_ => h_.1))) (by decide)) hk (fun _ h => h.2)) (fun _ h => h.1)); have n4_ := AM (KeepBut.trans (KK2 HK.out GW443.out GW447.out) hk (.inl rfl)); have n5_ := AM (hb); have n6_ := AM (hi); clear HO_448002; clear BK443; clear BK447; clear HO485; clear HK; clear HB; clear HI0; have HO_448002 := n0_; have BK443 := n1_; have BK447 := n2_; have HO485 := n3_; have HK := n4_; have HB := n5_; have HI0 := n6_; clear n0_ n1_ n2_ n3_ n4_ n5_ n6_; (try clear hb); (try clear hk); (try clear hi); have hnb48 := NB447_443.out; have hnc48 := NB443_447.out; have hnb49 := NB447_0.out; have hnc49 := NB0_447.out; have hcz50_0 : w47.cell? ⟨gb447, 0, none⟩ = some (.int .i64 t481) := (blk_cell BK447.out 0).trans rfl; have hcz50_1 : w47.cell? ⟨gb447, 1, none⟩ = some (.bool t482) := (blk_cell BK447.out 1).trans rfl; have hcz50_2 : w47.cell? ⟨gb447, 2, none⟩ = some (.slice Ao45 t483.length co45) := (blk_cell BK447.out 2).trans rfl; have hfz50_0 := blk_frozen BK447.out 0; have hfz50_1 := blk_frozen BK447.out 1; have hfz50_2 := blk_frozen BK447.out 2; have hnb51 := NB443_0.out; have hnc51 := NB0_443.out; have hcz52_0 : w47.cell? ⟨gb443, 0, none⟩ = some (.int .i64 0) := (blk_cell BK443.out 0).trans rfl; have hcz52_1 : w47.cell? ⟨gb443, 1, none⟩ = some (.bool false) := (blk_cell BK443.out 1).trans rfl; have hcz52_2 : w47.cell? ⟨gb443, 2, none⟩ = some (.slice none 0 0) := (blk_cell BK443.out 2).trans rfl; have hfz52_0 := blk_frozen BK443.out 0; have hfz52_1 := blk_frozen BK443.out 1; have hfz52_2 := blk_frozen BK443.out 2))
     refine bodyPost_ret (results_cell_row rfl _ _ gb443 35 #[.int .i64 t481, .bool (!t487), .slice Ao45 t483.length co45] (0, 0) _ rfl (by refine BD ?_; refine blk_put (cs := #[.int .i64 t481, .bool (!t487), .slice none 0 0]) ?_ 2 _ rfl; refine BD ?_; refine blk_put (cs := #[.int .i64 t481, .bool false, .slice none 0 0]) ?_ 1 _ rfl; refine BD ?_; refine blk_put (cs := #[.int .i64 0, .bool false, .slice none 0 0]) ?_ 0 _ rfl; refine BD ?_; refine blk_far ?_ NB443_447.out _; refine BD ?_; exact BK443.out) Try.underlying35 rfl (by kernel_rfl)) rfl ?_
     exact ⟨_, ER, by (with_reducible repeat (first | apply Kd.R_alloc | apply Kd.R_drewN | apply Kd.R_drew)); exact Kd.R_mono (Kd.R_far (p := ⟨gb443, 2, none⟩) (Kd.R_far (p := ⟨gb443, 1, none⟩) (Kd.R_far (p := ⟨gb443, 0, none⟩) (Kd.R_far (p := ⟨gb447, 1, none⟩) (Kd.R_types (Kd.R_types HO485.out BK447.out (by decide)) BK443.out (by decide)) (fun _ hk => hk.1.2) (.bool (!t487))) (fun _ hk => hk.2) (.int .i64 t481)) (fun _ hk => hk.2) (.bool (!t487))) (fun _ hk => hk.2) (.slice Ao45 t483.length co45)) (fun _ hk => trivial), (II812 HI0.out NB0_443.out NB0_447.out), (BB3 HB.out (IsS81.ge HI0.out) GE443.out GE447.out), (KK2 HK.out GW443.out GW447.out)⟩
    ·replace c29 := Bool.eq_false_iff.mpr c29
     subst c29
     have H1 : ((spec_l01Once.f s0_0 t470 t471 6).bind fun bt490 => (some (x448000_1, !bt490.1, x448002_1, bt490.2.1, bt490.2.2))) = some (r1, r2, r3, r4, r5) := by rw [if_neg (show ¬ (false = true) by decide)] at H; exact H
     clear H
     have H := H1
     clear H1
     replace H := Option.bind_eq_some_iff.mp H
     obtain ⟨⟨t490, t491, t492⟩, A530, H⟩ := H
     replace H : (some (x448000_1, !t490, x448002_1, t491, t492)) = some (r1, r2, r3, r4, r5) := H
     have A53 := AM A530
     clear A530
     simp only [Option.some.injEq, Prod.mk.injEq] at H
     obtain ⟨rfl, rfl, rfl, rfl, rfl⟩ := H
     go_wp2_with (first | ((with_reducible refine gate_callee (f := 32) rfl ?_); refine GL (some 11) rfl rfl Try.func32 #[.pointer (some ⟨g, 0, none⟩), .int .i64 7] rfl ?_; (with_reducible refine (spec_l01Below.calls g s0_0 x1001_1 x1002_1 7 t448 t449 t450 w0 _ ?side1 ?side2 A9.out).mono ?_); (case side1 => exact II812 HI0.out NB0_443.out NB0_447.out); (case side2 => exact BB3 HB.out (IsS81.ge HI0.out) GE443.out GE447.out); rintro e w54 ⟨rfl, hi, hb, hk⟩; refine ⟨_, rfl, ?_⟩; have n0_ := AM (Kd.R_mono (Kd.R_keep (IsS81.apart (show IsS81 w0 _ g s0_0 x1001_1 x1002_1 from (II812 HI0.out NB0_443.out NB0_447.out)) (RR HO_448002.out) (by decide)) hk (fun _ h => h.2)) (fun _ h => h.1)); have n1_ := AM (KeepBut.blk hk (g' := gb443) (o := .cells #[.int .i64 0, .bool false, .slice none 0 0] 35 (0, 0)) (BD BK443.out) NB443_0.out (by simp)); have n2_ := AM (KeepBut.blk hk (g' := gb447) (o := .cells #[.int .i64 x448000_1, .bool x448001_1, u448002] 35 (0, 0)) (BD BK447.out) NB447_0.out (by simp)); have n3_ := AM (KeepBut.trans (KK2 HK.out GW443.out GW447.out) hk (.inl rfl)); have n4_ := AM (hb); have n5_ := AM (hi); clear HO_448002; clear BK443; clear BK447; clear HK; clear HB; clear HI0; have HO_448002 := n0_; have BK443 := n1_; have BK447 := n2_; have HK := n3_; have HB := n4_; have HI0 := n5_; clear n0_ n1_ n2_ n3_ n4_ n5_; (try clear hb); (try clear hk); (try clear hi)) | ((with_reducible refine gate_callee (f := 49) rfl ?_); refine GL (some 31) rfl rfl Try.func49 #[.pointer (some ⟨g, 0, none⟩), .int .i64 3] rfl ?_; (with_reducible refine (spec_l01Once.calls g s0_0 t449 t450 3 false t470 t471 w0 _ ?side1 ?side2 A28.out).mono ?_); (case side1 => exact II812 HI0.out NB0_443.out NB0_447.out); (case side2 => exact BB3 HB.out (IsS81.ge HI0.out) GE443.out GE447.out); rintro e w55 ⟨rfl, hi, hb, hk⟩; refine ⟨_, rfl, ?_⟩; have n0_ := AM (Kd.R_mono (Kd.R_keep (IsS81.apart (show IsS81 w0 _ g s0_0 t449 t450 from (II812 HI0.out NB0_443.out NB0_447.out)) (RR HO_448002.out) (by decide)) hk (fun _ h => h.2)) (fun _ h => h.1)); have n1_ := AM (KeepBut.blk hk (g' := gb443) (o := .cells #[.int .i64 0, .bool false, .slice none 0 0] 35 (0, 0)) (BD BK443.out) NB443_0.out (by simp)); have n2_ := AM (KeepBut.blk hk (g' := gb447) (o := .cells #[.int .i64 x448000_1, .bool x448001_1, u448002] 35 (0, 0)) (BD BK447.out) NB447_0.out (by simp)); have n3_ := AM (KeepBut.trans (KK2 HK.out GW443.out GW447.out) hk (.inl rfl)); have n4_ := AM (hb); have n5_ := AM (hi); clear HO_448002; clear BK443; clear BK447; clear HK; clear HB; clear HI0; have HO_448002 := n0_; have BK443 := n1_; have BK447 := n2_; have HK := n3_; have HB := n4_; have HI0 := n5_; clear n0_ n1_ n2_ n3_ n4_ n5_; (try clear hb); (try clear hk); (try clear hi)) | ((with_reducible refine gate_callee (f := 49) rfl ?_); refine GL (some 45) rfl rfl Try.func49 #[.pointer (some ⟨g, 0, none⟩), .int .i64 6] rfl ?_; (with_reducible refine (spec_l01Once.calls g s0_0 t470 t471 6 t490 t491 t492 w0 _ ?side1 ?side2 A53.out).mono ?_); (case side1 => exact II812 HI0.out NB0_443.out NB0_447.out); (case side2 => exact BB3 HB.out (IsS81.ge HI0.out) GE443.out GE447.out); rintro e w56 ⟨rfl, hi, hb, hk⟩; refine ⟨_, rfl, ?_⟩; have n0_ := AM (Kd.R_mono (Kd.R_keep (IsS81.apart (show IsS81 w0 _ g s0_0 t470 t471 from (II812 HI0.out NB0_443.out NB0_447.out)) (RR HO_448002.out) (by decide)) hk (fun _ h => h.2)) (fun _ h => h.1)); have n1_ := AM (KeepBut.blk hk (g' := gb443) (o := .cells #[.int .i64 0, .bool false, .slice none 0 0] 35 (0, 0)) (BD BK443.out) NB443_0.out (by simp)); have n2_ := AM (KeepBut.blk hk (g' := gb447) (o := .cells #[.int .i64 x448000_1, .bool x448001_1, u448002] 35 (0, 0)) (BD BK447.out) NB447_0.out (by simp)); have n3_ := AM (KeepBut.trans (KK2 HK.out GW443.out GW447.out) hk (.inl rfl)); have n4_ := AM (hb); have n5_ := AM (hi); clear HO_448002; clear BK443; clear BK447; clear HK; clear HB; clear HI0; have HO_448002 := n0_; have BK443 := n1_; have BK447 := n2_; have HK := n3_; have HB := n4_; have HI0 := n5_; clear n0_ n1_ n2_ n3_ n4_ n5_; (try clear hb); (try clear hk); (try clear hi); have hnb57 := NB447_443.out; have hnc57 := NB443_447.out; have hnb58 := NB447_0.out; have hnc58 := NB0_447.out; have hcz59_0 : w56.cell? ⟨gb447, 0, none⟩ = some (.int .i64 x448000_1) := (blk_cell BK447.out 0).trans rfl; have hcz59_1 : w56.cell? ⟨gb447, 1, none⟩ = some (.bool x448001_1) := (blk_cell BK447.out 1).trans rfl; have hcz59_2 : w56.cell? ⟨gb447, 2, none⟩ = some (u448002) := (blk_cell BK447.out 2).trans rfl; have hfz59_0 := blk_frozen BK447.out 0; have hfz59_1 := blk_frozen BK447.out 1; have hfz59_2 := blk_frozen BK447.out 2; have hnb60 := NB443_0.out; have hnc60 := NB0_443.out; have hcz61_0 : w56.cell? ⟨gb443, 0, none⟩ = some (.int .i64 0) := (blk_cell BK443.out 0).trans rfl; have hcz61_1 : w56.cell? ⟨gb443, 1, none⟩ = some (.bool false) := (blk_cell BK443.out 1).trans rfl; have hcz61_2 : w56.cell? ⟨gb443, 2, none⟩ = some (.slice none 0 0) := (blk_cell BK443.out 2).trans rfl; have hfz61_0 := blk_frozen BK443.out 0; have hfz61_1 := blk_frozen BK443.out 1; have hfz61_2 := blk_frozen BK443.out 2; obtain ⟨Ao62, co62, eo62⟩ := Kd.R_slice HO_448002.out; subst eo62))
     refine bodyPost_ret (results_cell_row rfl _ _ gb443 35 #[.int .i64 x448000_1, .bool (!t490), .slice Ao62 x448002_1.length co62] (0, 0) _ rfl (by refine BD ?_; refine blk_put (cs := #[.int .i64 x448000_1, .bool (!t490), .slice none 0 0]) ?_ 2 _ rfl; refine BD ?_; refine blk_put (cs := #[.int .i64 x448000_1, .bool false, .slice none 0 0]) ?_ 1 _ rfl; refine BD ?_; refine blk_put (cs := #[.int .i64 0, .bool false, .slice none 0 0]) ?_ 0 _ rfl; refine BD ?_; refine blk_far ?_ NB443_447.out _; refine BD ?_; exact BK443.out) Try.underlying35 rfl (by kernel_rfl)) rfl ?_
     exact ⟨_, ER, by (with_reducible repeat (first | apply Kd.R_alloc | apply Kd.R_drewN | apply Kd.R_drew)); exact Kd.R_mono (Kd.R_far (p := ⟨gb443, 2, none⟩) (Kd.R_far (p := ⟨gb443, 1, none⟩) (Kd.R_far (p := ⟨gb443, 0, none⟩) (Kd.R_far (p := ⟨gb447, 1, none⟩) (Kd.R_types (Kd.R_types HO_448002.out BK447.out (by decide)) BK443.out (by decide)) (fun _ hk => hk.1.2) (.bool (!t490))) (fun _ hk => hk.2) (.int .i64 x448000_1)) (fun _ hk => hk.2) (.bool (!t490))) (fun _ hk => hk.2) (.slice Ao62 x448002_1.length co62)) (fun _ hk => trivial), (II812 HI0.out NB0_443.out NB0_447.out), (BB3 HB.out (IsS81.ge HI0.out) GE443.out GE447.out), (KK2 HK.out GW443.out GW447.out)⟩

def spec_DrawHost.f (k : Nat) (l0 : List Int) : Option (Int × Bool × (List (S60))) := (spec_l01New.f k l0).bind fun bt494 => ((spec_l14Host.f k bt494.1 bt494.2.1 bt494.2.2).bind fun bt498 => (some (bt498.1, true, bt498.2.2.1)))
set_option maxHeartbeats 8000000 in
set_option maxRecDepth 100000 in
theorem spec_DrawHost.calls (k : Nat) (A0 : Option Addr) (c0 : Nat) (l0 : List Int) (r1 : Int) (r2 : Bool) (r3 : List (S60)) (w : World) (hr0 : Kd.C (Kd.int .u8) w A0 l0.length l0) (hc0 : l0.length ≤ c0) (h : spec_DrawHost.f k l0 = some (r1, r2, r3)) :
  Calls Try.prog 11 #[.slice A0 l0.length c0] w fun e w' => ∃ v2_ : Value, e = .returned (.agg #[.int .i64 r1, .bool r2, v2_]) ∧ Kd.R k60 60 w' w.heap.size (fun _ => True) v2_ r3 ∧ Below w.heap.size w w' := by
 have hu35 := Try.underlying35
 have HR0 := AM hr0
 have HC0 := AM hc0
 clear hr0 hc0
 have HB := AM (Below.refl w.heap.size w)
 have H : ((spec_l01New.f k l0).bind fun bt494 => ((spec_l14Host.f k bt494.1 bt494.2.1 bt494.2.2).bind fun bt498 => (some (bt498.1, true, bt498.2.2.1)))) = some (r1, r2, r3) := h
 clear h
 replace H := Option.bind_eq_some_iff.mp H
 obtain ⟨⟨t494, t495, t496⟩, A20, H⟩ := H
 replace H : ((spec_l14Host.f k t494 t495 t496).bind fun bt498 => (some (bt498.1, true, bt498.2.2.1))) = some (r1, r2, r3) := H
 have A2 := AM A20
 clear A20
 replace H := Option.bind_eq_some_iff.mp H
 obtain ⟨⟨t498, t499, t500, t503, t504⟩, A30, H⟩ := H
 replace H : (some (t498, true, t500)) = some (r1, r2, r3) := H
 have A3 := AM A30
 clear A30
 simp only [Option.some.injEq, Prod.mk.injEq] at H
 obtain ⟨rfl, rfl, rfl⟩ := H
 go_enter Try.func11, Try.ntmps11
 go_wp2_with (first | ((with_reducible refine gate_dst (N := 2) rfl ?_); refine BX 2 #[.int .i64 0, .bool false, .slice none 0 0] 35 ?_; intro gb493 hg w4 hbox hb; have BK493 := AM (hbox); have GW493 : Aside0 (w.heap.size ≤ gb493) := WG hg (BB HB.out); have GE493 := GW493; replace HB := AM (below_step (BB HB.out) hb); clear hb hbox hg) | ((with_reducible refine gate_callee (f := 25) rfl ?_); refine GL (some 5) rfl rfl Try.func25 #[.slice A0 l0.length c0] rfl ?_; (with_reducible refine (spec_l01New.calls k _ _ l0 t494 t495 t496 w _ ?side1 ?side2 ?side3 A2.out).mono ?_); (case side1 => exact BB1 HB.out GE493.out); (case side2 => exact HR0.out); (case side3 => exact HC0.out); rintro e w5 ⟨g497, rfl, hi, hb, hb2⟩; refine ⟨_, rfl, ?_⟩; have HI497 := AM (hi); have NB497_493 := AM (IsS81.ne_blk hi (KB BK493.out hb2) (by decide)); have NB493_497 := AM (Ne.symm (IsS81.ne_blk hi (KB BK493.out hb2) (by decide))); replace BK493 := AM (KB BK493.out hb2); replace HB := AM (hb); (try clear hb); (try clear hb2); (try clear hi)) | ((with_reducible refine gate_callee (f := 30) rfl ?_); refine GL (some 6) rfl rfl Try.func30 #[.pointer (some ⟨g497, 0, none⟩)] rfl ?_; (with_reducible refine (spec_l14Host.calls k g497 t494 t495 t496 t498 t499 t500 t503 t504 w _ ?side1 ?side2 A3.out).mono ?_); (case side1 => exact II811 HI497.out NB497_493.out); (case side2 => exact BB2 HB.out (IsS81.ge HI497.out) GE493.out); rintro e w6 ⟨v501, rfl, ho0, hi, hb, hk⟩; refine ⟨_, rfl, ?_⟩; have n0_ := AM (KeepBut.blk hk (g' := gb493) (o := .cells #[.int .i64 0, .bool false, .slice none 0 0] 35 (0, 0)) (BD BK493.out) NB493_497.out (by simp)); have n1_ := AM (Kd.R_lower ho0 (below_size ((BB2 HB.out (IsS81.ge HI497.out) GE493.out)))); have n2_ := AM (hb); have n3_ := AM (hi); clear BK493; clear HB; clear HI497; have BK493 := n0_; have HO502 := n1_; have HB := n2_; have HI497 := n3_; clear n0_ n1_ n2_ n3_; (try clear hb); (try clear hk); (try clear hi); (try clear ho0)) | ((with_reducible refine gate_dst (N := 3) rfl ?_); refine BX 3 #[.int .i64 0, .bool false, .slice none 0 0] 35 ?_; intro gb505 hg w7 hbox hb; have n0_ := AM (Kd.R_below (RR HO502.out) hb); have n1_ := AM (KB BK493.out hb); have n2_ := AM (IsS81.below (II811 HI497.out NB497_493.out) hb); have n3_ := AM (below_step ((BB2 HB.out (IsS81.ge HI497.out) GE493.out)) hb); have n4_ := AM (hbox); have n5_ := AM ((by rw [hg]; exact (below_size ((BB2 HB.out (IsS81.ge HI497.out) GE493.out))) : w.heap.size ≤ gb505)); have n6_ := AM ((by rw [hg]; exact (below_size ((BB2 HB.out (IsS81.ge HI497.out) GE493.out))) : w.heap.size ≤ gb505)); have n7_ := NL BK493.out hg; have n8_ := NG BK493.out hg; have n9_ := AM ((by rw [hg]; exact Nat.ne_of_lt (IsS81.lt (show IsS81 w _ g497 t494 t503 t504 from (II811 HI497.out NB497_493.out))) : g497 ≠ gb505)); have n10_ := AM ((by rw [hg]; exact Nat.ne_of_gt (IsS81.lt (show IsS81 w _ g497 t494 t503 t504 from (II811 HI497.out NB497_493.out))) : gb505 ≠ g497)); clear HO502; clear BK493; clear HI497; clear HB; have HO502 := n0_; have BK493 := n1_; have HI497 := n2_; have HB := n3_; have BK505 := n4_; have GW505 := n5_; have GE505 := n6_; have NB493_505 := n7_; have NB505_493 := n8_; have NB497_505 := n9_; have NB505_497 := n10_; clear n0_ n1_ n2_ n3_ n4_ n5_ n6_ n7_ n8_ n9_ n10_; clear hb hbox hg; have hnb8 := NB505_493.out; have hnc8 := NB493_505.out; have hnb9 := NB505_497.out; have hnc9 := NB497_505.out; have hcz10 := blk_cell BK505.out; have hfz10 := blk_frozen BK505.out; obtain ⟨Ao11, co11, eo11⟩ := Kd.R_slice HO502.out; subst eo11; have hq_ : (((w7.setCell ⟨gb505, 0, none⟩ (.int .i64 t498)).setCell ⟨gb505, 1, none⟩ (.bool t499)).setCell ⟨gb505, 2, none⟩ (.slice Ao11 t500.length co11)).cell? ⟨gb505, 1, none⟩ = some (.bool t499) := (World.cell?_setCell_other _ _ _ _ (by simp)).trans (World.cell?_setCell_same' _ _ _ (by rw [World.cell?_setCell_other _ _ _ _ (by simp), blk_cell BK505.out 1]; rfl)); have hnb12 := NB493_497.out; have hnc12 := NB497_493.out; have hcz13 := blk_cell BK493.out; have hfz13 := blk_frozen BK493.out))
 refine bodyPost_ret (results_cell_row rfl _ _ gb493 35 #[.int .i64 t498, .bool true, .slice Ao11 t500.length co11] (0, 0) _ rfl (by refine BD ?_; refine blk_put (cs := #[.int .i64 t498, .bool true, .slice none 0 0]) ?_ 2 _ rfl; refine BD ?_; refine blk_put (cs := #[.int .i64 t498, .bool false, .slice none 0 0]) ?_ 1 _ rfl; refine BD ?_; refine blk_put (cs := #[.int .i64 0, .bool false, .slice none 0 0]) ?_ 0 _ rfl; refine BD ?_; refine blk_far ?_ NB493_505.out _; refine BD ?_; refine blk_far ?_ NB493_505.out _; refine BD ?_; refine blk_far ?_ NB493_505.out _; refine BD ?_; refine blk_far ?_ NB493_505.out _; refine BD ?_; exact BK493.out) Try.underlying35 rfl (by kernel_rfl)) rfl ?_
 exact ⟨_, ER, by (with_reducible repeat (first | apply Kd.R_alloc | apply Kd.R_drewN | apply Kd.R_drew)); exact Kd.R_mono (Kd.R_far (p := ⟨gb493, 2, none⟩) (Kd.R_far (p := ⟨gb493, 1, none⟩) (Kd.R_far (p := ⟨gb493, 0, none⟩) (Kd.R_far (p := ⟨gb505, 1, none⟩) (Kd.R_far (p := ⟨gb505, 2, none⟩) (Kd.R_far (p := ⟨gb505, 1, none⟩) (Kd.R_far (p := ⟨gb505, 0, none⟩) (Kd.R_types (Kd.R_types HO502.out BK505.out (by decide)) BK493.out (by decide)) (fun _ hk => hk.1.2) (.int .i64 t498)) (fun _ hk => hk.1.2) (.bool t499)) (fun _ hk => hk.1.2) (.slice Ao11 t500.length co11)) (fun _ hk => hk.1.2) (.bool true)) (fun _ hk => hk.2) (.int .i64 t498)) (fun _ hk => hk.2) (.bool true)) (fun _ hk => hk.2) (.slice Ao11 t500.length co11)) (fun _ hk => trivial), (BB3 HB.out (IsS81.ge HI497.out) GE493.out GE505.out)⟩

def laws_sameTexts.l0 : Nat → List ByteArray → List ByteArray → Int → Option (Bool)
 | 0, _, _, _ => none
 | k + 1, x0, x1, x5 => if x5 < (x0.length : Int) then (if 0 ≤ x5 then (if x5 < (x1.length : Int) then (if (rdOf ByteArray.empty x0 x5).toList = (rdOf ByteArray.empty x1 x5).toList then (laws_sameTexts.l0 k x0 x1 (wrap64 (x5 + 1))) else (some false)) else (none)) else (none)) else (some true)
def laws_sameTexts.f (k : Nat) (l0 : List ByteArray) (l1 : List ByteArray) : Option (Bool) := if (l0.length : Int) = (l1.length : Int) then (laws_sameTexts.l0 k l0 l1 0) else (some false)
set_option maxHeartbeats 8000000 in
set_option maxRecDepth 100000 in
theorem laws_sameTexts.calls (k : Nat) (A0 : Option Addr) (c0 : Nat) (l0 : List ByteArray) (A1 : Option Addr) (c1 : Nat) (l1 : List ByteArray) (r : Bool) (w : World) (hr0 : Kd.C Kd.string w A0 l0.length l0) (hc0 : l0.length ≤ c0) (hr1 : Kd.C Kd.string w A1 l1.length l1) (hc1 : l1.length ≤ c1) (h : laws_sameTexts.f k l0 l1 = some r) :
  Calls Try.prog 12 #[.slice A0 l0.length c0, .slice A1 l1.length c1] w fun e w' => e = .returned (.bool r) ∧ Drawn0 w w' := by
 have HR0 := AM hr0
 have HC0 := AM hc0
 clear hr0 hc0
 have HR1 := AM hr1
 have HC1 := AM hc1
 clear hr1 hc1
 have H : (if (l0.length : Int) = (l1.length : Int) then (laws_sameTexts.l0 k l0 l1 0) else (some false)) = some r := h
 clear h
 by_cases c3 : (l0.length : Int) = (l1.length : Int)
 ·rw [if_pos c3] at H
  have c3b0 : ((l0.length : Int) == (l1.length : Int)) = true := beq_iff_eq.mpr c3
  have c3b1 : ((l0.length : Int) != (l1.length : Int)) = false := bne_eq_false_iff_eq.mpr c3
  have c3b2 : (l0.length == l1.length) = true := by first | simpa using c3 | (simp at c3 ⊢; omega)
  clear c3
  have H' := AM H
  clear H
  go_enter Try.func12, Try.ntmps12
  go_wp2
  repeat (go_quiet (fail); try go_wp2)
  go_loopg [5] k (fun kq v5 w' => ∃ (x5_1 : Int), v5 = .int .i64 x5_1 ∧ Aside0 (laws_sameTexts.l0 kq l0 l1 x5_1 = some r) ∧ Aside0 (kq ≤ k) ∧ Drawn0 w w')
  case atStart => exact ⟨(0), FR, H', ⟨Nat.le_refl _⟩, by repeat (first | exact Drawn0.refl _ | apply Drawn0.step)⟩
  case round =>
   clear H'
   try clear c1
   try clear p2
   try clear c3
   try clear c3b0
   try clear c3b1
   try clear c3b2
   obtain ⟨x5_1, rfl, HA, HK1, ⟨m1, rfl⟩⟩ := hrel
   cases gk with
   | zero => exact absurd HA.out (by simp [laws_sameTexts.l0])
   | succ k1 =>
    have H := HA.out
    clear HA
    simp only [laws_sameTexts.l0] at H
    by_cases c4 : x5_1 < (l0.length : Int)
    ·rw [if_pos c4] at H
     have c4b0 := decide_eq_true c4
     clear c4
     by_cases c5 : 0 ≤ x5_1
     rotate_left
     ·rw [if_neg c5] at H; exact absurd H (by simp)
     rw [if_pos c5] at H
     have c5b0 := decide_eq_true c5
     clear c5
     by_cases c6 : x5_1 < (l1.length : Int)
     rotate_left
     ·rw [if_neg c6] at H; exact absurd H (by simp)
     rw [if_pos c6] at H
     have c6b0 := decide_eq_true c6
     clear c6
     by_cases c7 : (rdOf ByteArray.empty l0 x5_1).toList = (rdOf ByteArray.empty l1 x5_1).toList
     ·rw [if_pos c7] at H
      have c7b0 : ((rdOf ByteArray.empty l0 x5_1).toList == (rdOf ByteArray.empty l1 x5_1).toList) = true := beq_iff_eq.mpr c7
      have c7b1 : ((rdOf ByteArray.empty l0 x5_1).toList != (rdOf ByteArray.empty l1 x5_1).toList) = false := bne_eq_false_iff_eq.mpr c7
      clear c7
      have H' := AM H
      clear H
      have p506 : 0 ≤ (x5_1 : Int) := DT
      have q506 : x5_1 < (l0.length : Int) := DT
      obtain ⟨ad506, e506, hx506_0⟩ := Kd.at_string HR0.out x5_1 p506 q506
      cases e506
      replace p506 := eq_true p506
      replace q506 := eq_true q506
      have p507 : 0 ≤ (x5_1 : Int) := DT
      have q507 : x5_1 < (l1.length : Int) := DT
      obtain ⟨ad507, e507, hx507_0⟩ := Kd.at_string HR1.out x5_1 p507 q507
      cases e507
      replace p507 := eq_true p507
      replace q507 := eq_true q507
      go_wp2
      repeat (go_quiet (fail); try go_wp2)
      go_roundg k1
      case measure => have := HK1.out; omega
      case rel => exact ⟨(wrap64 (x5_1 + 1)), FR, H', ⟨by have := HK1.out; omega⟩, by repeat (first | exact Drawn0.refl _ | apply Drawn0.step)⟩
     ·rw [if_neg c7] at H
      have c7b0 : ((rdOf ByteArray.empty l0 x5_1).toList == (rdOf ByteArray.empty l1 x5_1).toList) = false := beq_eq_false_iff_ne.mpr c7
      have c7b1 : ((rdOf ByteArray.empty l0 x5_1).toList != (rdOf ByteArray.empty l1 x5_1).toList) = true := bne_iff_ne.mpr c7
      obtain rfl := Option.some.inj H
      have p506 : 0 ≤ (x5_1 : Int) := DT
      have q506 : x5_1 < (l0.length : Int) := DT
      obtain ⟨ad506, e506, hx506_0⟩ := Kd.at_string HR0.out x5_1 p506 q506
      cases e506
      replace p506 := eq_true p506
      replace q506 := eq_true q506
      have p507 : 0 ≤ (x5_1 : Int) := DT
      have q507 : x5_1 < (l1.length : Int) := DT
      obtain ⟨ad507, e507, hx507_0⟩ := Kd.at_string HR1.out x5_1 p507 q507
      cases e507
      replace p507 := eq_true p507
      replace q507 := eq_true q507
      go_wp2
      repeat (go_quiet (fail); try go_wp2)
      go_ret
      exact ⟨FR, by repeat (first | exact Drawn0.refl _ | apply Drawn0.step)⟩
    ·rw [if_neg c4] at H
     have c4b0 := decide_eq_false c4
     clear c4
     obtain rfl := Option.some.inj H
     go_wp2
     repeat (go_quiet (fail); try go_wp2)
     go_ret
     exact ⟨FR, by repeat (first | exact Drawn0.refl _ | apply Drawn0.step)⟩
 ·rw [if_neg c3] at H
  have c3b0 : ((l0.length : Int) == (l1.length : Int)) = false := beq_eq_false_iff_ne.mpr c3
  have c3b1 : ((l0.length : Int) != (l1.length : Int)) = true := bne_iff_ne.mpr c3
  have c3b2 : (l0.length == l1.length) = false := by first | simpa using c3 | (simp at c3 ⊢; omega)
  obtain rfl := Option.some.inj H
  go_enter Try.func12, Try.ntmps12
  go_wp2
  repeat (go_quiet (fail); try go_wp2)
  go_ret
  exact ⟨FR, by repeat (first | exact Drawn0.refl _ | apply Drawn0.step)⟩

def laws_sameBools.l0 : Nat → List Bool → List Bool → Int → Option (Bool)
 | 0, _, _, _ => none
 | k + 1, x0, x1, x5 => if x5 < (x0.length : Int) then (if 0 ≤ x5 then (if x5 < (x1.length : Int) then (if ((rdOf false x0 x5) != (rdOf false x1 x5)) = true then (some false) else (laws_sameBools.l0 k x0 x1 (wrap64 (x5 + 1)))) else (none)) else (none)) else (some true)
def laws_sameBools.f (k : Nat) (l0 : List Bool) (l1 : List Bool) : Option (Bool) := if (l0.length : Int) = (l1.length : Int) then (laws_sameBools.l0 k l0 l1 0) else (some false)
set_option maxHeartbeats 8000000 in
set_option maxRecDepth 100000 in
theorem laws_sameBools.calls (k : Nat) (A0 : Option Addr) (c0 : Nat) (l0 : List Bool) (A1 : Option Addr) (c1 : Nat) (l1 : List Bool) (r : Bool) (w : World) (hr0 : Kd.C Kd.bool w A0 l0.length l0) (hc0 : l0.length ≤ c0) (hr1 : Kd.C Kd.bool w A1 l1.length l1) (hc1 : l1.length ≤ c1) (h : laws_sameBools.f k l0 l1 = some r) :
  Calls Try.prog 13 #[.slice A0 l0.length c0, .slice A1 l1.length c1] w fun e w' => e = .returned (.bool r) ∧ Drawn0 w w' := by
 have HR0 := AM hr0
 have HC0 := AM hc0
 clear hr0 hc0
 have HR1 := AM hr1
 have HC1 := AM hc1
 clear hr1 hc1
 have H : (if (l0.length : Int) = (l1.length : Int) then (laws_sameBools.l0 k l0 l1 0) else (some false)) = some r := h
 clear h
 by_cases c3 : (l0.length : Int) = (l1.length : Int)
 ·rw [if_pos c3] at H
  have c3b0 : ((l0.length : Int) == (l1.length : Int)) = true := beq_iff_eq.mpr c3
  have c3b1 : ((l0.length : Int) != (l1.length : Int)) = false := bne_eq_false_iff_eq.mpr c3
  have c3b2 : (l0.length == l1.length) = true := by first | simpa using c3 | (simp at c3 ⊢; omega)
  clear c3
  have H' := AM H
  clear H
  go_enter Try.func13, Try.ntmps13
  go_wp2
  repeat (go_quiet (fail); try go_wp2)
  go_loopg [5] k (fun kq v5 w' => ∃ (x5_1 : Int), v5 = .int .i64 x5_1 ∧ Aside0 (laws_sameBools.l0 kq l0 l1 x5_1 = some r) ∧ Aside0 (kq ≤ k) ∧ Drawn0 w w')
  case atStart => exact ⟨(0), FR, H', ⟨Nat.le_refl _⟩, by repeat (first | exact Drawn0.refl _ | apply Drawn0.step)⟩
  case round =>
   clear H'
   try clear c1
   try clear p2
   try clear c3
   try clear c3b0
   try clear c3b1
   try clear c3b2
   obtain ⟨x5_1, rfl, HA, HK1, ⟨m1, rfl⟩⟩ := hrel
   cases gk with
   | zero => exact absurd HA.out (by simp [laws_sameBools.l0])
   | succ k1 =>
    have H := HA.out
    clear HA
    simp only [laws_sameBools.l0] at H
    by_cases c4 : x5_1 < (l0.length : Int)
    ·rw [if_pos c4] at H
     have c4b0 := decide_eq_true c4
     clear c4
     by_cases c5 : 0 ≤ x5_1
     rotate_left
     ·rw [if_neg c5] at H; exact absurd H (by simp)
     rw [if_pos c5] at H
     have c5b0 := decide_eq_true c5
     clear c5
     by_cases c6 : x5_1 < (l1.length : Int)
     rotate_left
     ·rw [if_neg c6] at H; exact absurd H (by simp)
     rw [if_pos c6] at H
     have c6b0 := decide_eq_true c6
     clear c6
     by_cases c7 : ((rdOf false l0 x5_1) != (rdOf false l1 x5_1)) = true
     ·rw [if_pos c7] at H
      have c7b0 : ((rdOf false l0 x5_1) != (rdOf false l1 x5_1)) = true := c7
      (try (have c7b1 : decide ((rdOf false l0 x5_1) = (rdOf false l1 x5_1)) = false := by simpa using c7))
      (try (have c7b2 : ((rdOf false l0 x5_1) == (rdOf false l1 x5_1)) = false := by simpa using c7))
      (try (have c7b3 : ¬ ((rdOf false l0 x5_1) = (rdOf false l1 x5_1)) := by simpa using c7))
      clear c7
      obtain rfl := Option.some.inj H
      have p508 : 0 ≤ (x5_1 : Int) := DT
      have q508 : x5_1 < (l0.length : Int) := DT
      obtain ⟨ad508, e508, hx508_0⟩ := Kd.at_bool HR0.out x5_1 p508 q508
      cases e508
      replace p508 := eq_true p508
      replace q508 := eq_true q508
      have p509 : 0 ≤ (x5_1 : Int) := DT
      have q509 : x5_1 < (l1.length : Int) := DT
      obtain ⟨ad509, e509, hx509_0⟩ := Kd.at_bool HR1.out x5_1 p509 q509
      cases e509
      replace p509 := eq_true p509
      replace q509 := eq_true q509
      go_wp2
      repeat (go_quiet (fail); try go_wp2)
      go_ret
      exact ⟨FR, by repeat (first | exact Drawn0.refl _ | apply Drawn0.step)⟩
     ·rw [if_neg c7] at H
      have c7b0 : ((rdOf false l0 x5_1) != (rdOf false l1 x5_1)) = false := by simpa using c7
      (try (have c7b1 : decide ((rdOf false l0 x5_1) = (rdOf false l1 x5_1)) = true := by simpa using c7))
      (try (have c7b2 : ((rdOf false l0 x5_1) == (rdOf false l1 x5_1)) = true := by simpa using c7))
      clear c7
      have H' := AM H
      clear H
      have p508 : 0 ≤ (x5_1 : Int) := DT
      have q508 : x5_1 < (l0.length : Int) := DT
      obtain ⟨ad508, e508, hx508_0⟩ := Kd.at_bool HR0.out x5_1 p508 q508
      cases e508
      replace p508 := eq_true p508
      replace q508 := eq_true q508
      have p509 : 0 ≤ (x5_1 : Int) := DT
      have q509 : x5_1 < (l1.length : Int) := DT
      obtain ⟨ad509, e509, hx509_0⟩ := Kd.at_bool HR1.out x5_1 p509 q509
      cases e509
      replace p509 := eq_true p509
      replace q509 := eq_true q509
      go_wp2
      repeat (go_quiet (fail); try go_wp2)
      go_roundg k1
      case measure => have := HK1.out; omega
      case rel => exact ⟨(wrap64 (x5_1 + 1)), FR, H', ⟨by have := HK1.out; omega⟩, by repeat (first | exact Drawn0.refl _ | apply Drawn0.step)⟩
    ·rw [if_neg c4] at H
     have c4b0 := decide_eq_false c4
     clear c4
     obtain rfl := Option.some.inj H
     go_wp2
     repeat (go_quiet (fail); try go_wp2)
     go_ret
     exact ⟨FR, by repeat (first | exact Drawn0.refl _ | apply Drawn0.step)⟩
 ·rw [if_neg c3] at H
  have c3b0 : ((l0.length : Int) == (l1.length : Int)) = false := beq_eq_false_iff_ne.mpr c3
  have c3b1 : ((l0.length : Int) != (l1.length : Int)) = true := bne_iff_ne.mpr c3
  have c3b2 : (l0.length == l1.length) = false := by first | simpa using c3 | (simp at c3 ⊢; omega)
  obtain rfl := Option.some.inj H
  go_enter Try.func13, Try.ntmps13
  go_wp2
  repeat (go_quiet (fail); try go_wp2)
  go_ret
  exact ⟨FR, by repeat (first | exact Drawn0.refl _ | apply Drawn0.step)⟩

def impl_SchemaOf.f (a0 : Int) : Option (Int × Int × Bool) := if a0 = 1 then (some (2, 1, true)) else (if a0 = 2 then (some (3, 2, true)) else (if a0 = 3 then (some (4, 2, true)) else (some (0, 0, false))))
set_option maxHeartbeats 8000000 in
set_option maxRecDepth 100000 in
theorem impl_SchemaOf.calls (a0 : Int) (r1 : Int) (r2 : Int) (r3 : Bool) (w : World) (h : impl_SchemaOf.f a0 = some (r1, r2, r3)) :
  Calls Try.prog 26 #[.int .i64 a0] w fun e w' => e = .returned (.tuple #[.int .i64 r1, .int .i64 r2, .bool r3]) ∧ Drawn0 w w' := by
 have H : (if a0 = 1 then (some (2, 1, true)) else (if a0 = 2 then (some (3, 2, true)) else (if a0 = 3 then (some (4, 2, true)) else (some (0, 0, false))))) = some (r1, r2, r3) := h
 clear h
 by_cases c2 : a0 = 1
 ·rw [if_pos c2] at H
  have c2b0 : (a0 == 1) = true := beq_iff_eq.mpr c2
  have c2b1 : (a0 != 1) = false := bne_eq_false_iff_eq.mpr c2
  clear c2
  simp only [Option.some.injEq, Prod.mk.injEq] at H
  obtain ⟨rfl, rfl, rfl⟩ := H
  go_enter Try.func26, Try.ntmps26
  go_wp2
  go_ret3
  exact ⟨FR, by repeat (first | exact Drawn0.refl _ | apply Drawn0.step)⟩
 ·rw [if_neg c2] at H
  have c2b0 : (a0 == 1) = false := beq_eq_false_iff_ne.mpr c2
  have c2b1 : (a0 != 1) = true := bne_iff_ne.mpr c2
  by_cases c3 : a0 = 2
  ·rw [if_pos c3] at H
   have c3b0 : (a0 == 2) = true := beq_iff_eq.mpr c3
   have c3b1 : (a0 != 2) = false := bne_eq_false_iff_eq.mpr c3
   clear c3
   simp only [Option.some.injEq, Prod.mk.injEq] at H
   obtain ⟨rfl, rfl, rfl⟩ := H
   go_enter Try.func26, Try.ntmps26
   go_wp2
   go_ret3
   exact ⟨FR, by repeat (first | exact Drawn0.refl _ | apply Drawn0.step)⟩
  ·rw [if_neg c3] at H
   have c3b0 : (a0 == 2) = false := beq_eq_false_iff_ne.mpr c3
   have c3b1 : (a0 != 2) = true := bne_iff_ne.mpr c3
   by_cases c4 : a0 = 3
   ·rw [if_pos c4] at H
    have c4b0 : (a0 == 3) = true := beq_iff_eq.mpr c4
    have c4b1 : (a0 != 3) = false := bne_eq_false_iff_eq.mpr c4
    clear c4
    simp only [Option.some.injEq, Prod.mk.injEq] at H
    obtain ⟨rfl, rfl, rfl⟩ := H
    go_enter Try.func26, Try.ntmps26
    go_wp2
    go_ret3
    exact ⟨FR, by repeat (first | exact Drawn0.refl _ | apply Drawn0.step)⟩
   ·rw [if_neg c4] at H
    have c4b0 : (a0 == 3) = false := beq_eq_false_iff_ne.mpr c4
    have c4b1 : (a0 != 3) = true := bne_iff_ne.mpr c4
    simp only [Option.some.injEq, Prod.mk.injEq] at H
    obtain ⟨rfl, rfl, rfl⟩ := H
    go_enter Try.func26, Try.ntmps26
    go_wp2
    go_ret3
    exact ⟨FR, by repeat (first | exact Drawn0.refl _ | apply Drawn0.step)⟩

end Go.Proofs.Ytaejgompckpmfaa.Pr
namespace Go.Proofs.Ytaejgompckpmfaa.Pr
open Go.RowKit Go.Proofs.YtaejgompckpmfaaW.PrintWords Go.Proofs.YtaejgompckpmfaaW.PrintLast Go.Proofs.YtaejgompckpmfaaW.PrintMore
def idxF {α : Type} (p : α → Bool) : List α → Nat → Int
 | [], _ => -1
 | x :: s, j => if p x = true then (j : Int) else idxF p s (j + 1)
theorem idxF_drop_hit {α : Type} (p : α → Bool) (xs : List α) (d : α) (j : Nat) (h : j < xs.length) (hp : p (xs.getD j d) = true) : idxF p (xs.drop j) j = (j : Int) := by
 rw [List.drop_eq_getElem_cons h, idxF, if_pos]
 simpa [List.getD, List.getElem?_eq_getElem h] using hp
theorem idxF_drop_miss {α : Type} (p : α → Bool) (xs : List α) (d : α) (j : Nat) (h : j < xs.length) (hp : p (xs.getD j d) = false) : idxF p (xs.drop j) j = idxF p (xs.drop (j + 1)) (j + 1) := by
 rw [List.drop_eq_getElem_cons h, idxF, if_neg]
 simpa [List.getD, List.getElem?_eq_getElem h] using hp
set_option maxHeartbeats 2000000 in
set_option maxRecDepth 100000 in
theorem ixUnit (g : Nat) (lb : Array Value) (eg : ∀ args w, (callFunc g args).run Try.prog w = .ok (.enter g args) w) (p : S60 → Bool) (A : Option Addr) (c : Nat) (xs : List S60) (w : World)
  (hp : ∀ (W : World) (x : S60), x ∈ xs → Below w.heap.size w W → Calls Try.prog g (#[.agg #[.int .i64 x.f0, .int .i64 x.f1, .string x.f2, .int .i64 x.f3]] ++ lb) W fun e w' => e = .returned (.bool (p x)) ∧ Below w.heap.size w w')
  (hr : Kd.C k60 w A xs.length xs) :
  Calls Try.prog 65 #[.slice A xs.length c, .func (.func g) #[] lb] w fun e w' => e = .returned (.int .i64 (idxF p xs 0)) ∧ Below w.heap.size w w' := by
 have hu60 := Try.underlying60
 have HR := AM hr
 have HL := AM hr.2.1
 have HP := AM hp
 have HG := AM (show idxF p (xs.drop 0) 0 = idxF p xs 0 from rfl)
 clear hr hp
 generalize hre : idxF p xs 0 = res at HG
 clear hre
 go_enter Try.func65, Try.ntmps65
 go_wp2
 go_loopg [5, 8] xs.length (fun gg _ s8 wr => ∃ kk : Nat, kk ≤ xs.length ∧ xs.length - kk ≤ gg ∧ s8 = .int .i64 kk ∧ Aside0 (Below w.heap.size w wr) ∧ Aside0 (idxF p (xs.drop kk) kk = res))
 case atStart => exact ⟨0, Nat.zero_le _, by omega, rfl, ⟨Below.refl _ w⟩, HG⟩
 case round =>
  obtain ⟨kk, hkk, hg, rfl, BW, A1⟩ := hrel
  have hlen := HL.out
  by_cases hlt : kk < xs.length
  ·have hltz : (kk : Int) < (xs.length : Int) := by omega
   obtain ⟨ad, e1, hx0, hx1, hx2, hx3⟩ := at_T60 HR.out (kk : Int) (by omega) hltz
   have hmem : rd_T60 xs (kk : Int) ∈ xs := by
    have e : rd_T60 xs (kk : Int) = xs[kk] := by unfold rd_T60; simp [List.getD, List.getElem?_eq_getElem hlt]
    rw [e]
    exact List.getElem_mem hlt
   have hcall := HP.out wr (rd_T60 xs (kk : Int)) hmem BW.out
   clear hmem
   have hy : rd_T60 xs (kk : Int) = xs.getD kk z60 := rfl
   have hmiss := AM (idxF_drop_miss p xs z60 kk hlt)
   have hhit := AM (idxF_drop_hit p xs z60 kk hlt)
   replace hx0 := (BW.out.cell (World.block_lt_of_cell? w _ hx0)).trans hx0
   replace hx1 := (BW.out.cell (World.block_lt_of_cell? w _ hx1)).trans hx1
   replace hx2 := (BW.out.cell (World.block_lt_of_cell? w _ hx2)).trans hx2
   replace hx3 := (BW.out.cell (World.block_lt_of_cell? w _ hx3)).trans hx3
   simp only [Int.toNat_natCast] at hx0 hx1 hx2 hx3
   rw [← hy] at hmiss hhit
   clear hy
   generalize rd_T60 xs (kk : Int) = y at hx0 hx1 hx2 hx3 hcall hmiss hhit
   subst e1
   cases hq : p y with
   | true =>
    rw [hq] at hcall
    have A2 := AM (((hhit.out hq).symm.trans A1.out).symm)
    clear hq hmiss hhit A1
    go_wp2_with (go_at_fn g; refine hcall.mono ?_; rintro e w' ⟨rfl, hb'⟩)
    go_ret
    exact ⟨by rw [A2.out]; try rfl, hb'⟩
   | false =>
    rw [hq] at hcall
    have A2 := AM ((hmiss.out hq).symm.trans A1.out)
    clear hq hmiss hhit A1
    go_wp2_with (go_at_fn g; refine hcall.mono ?_; rintro e w' ⟨rfl, hb'⟩)
    go_roundg (xs.length - (kk + 1))
    case measure => omega
    case rel => exact ⟨kk + 1, by omega, by omega, by go_num, ⟨hb'⟩, A2⟩
  ·have hltz : ¬ (kk : Int) < (xs.length : Int) := by omega
   have hd1 : decide ((kk : Int) < (xs.length : Int)) = false := decide_eq_false hltz
   have hd2 : decide (kk < xs.length) = false := decide_eq_false hlt
   have A2 := AM (show res = -1 by rw [← A1.out, List.drop_eq_nil_of_le (by omega)]; rfl)
   clear A1
   go_wp2
   go_ret
   exact ⟨by rw [A2.out]; try rfl, BW.out⟩
def isAt (a1 a2 : Int) (u : S60) : Bool := if u.f0 = a1 then decide (u.f1 = a2) else false
theorem isAt_t {a1 a2 : Int} {u : S60} (h : u.f0 = a1) : isAt a1 a2 u = (u.f1 == a2) := by
 unfold isAt
 rw [if_pos h]
 by_cases c : u.f1 = a2 <;> simp [c]
theorem isAt_f {a1 a2 : Int} {u : S60} (h : ¬ u.f0 = a1) : isAt a1 a2 u = false := by
 unfold isAt
 rw [if_neg h]
set_option maxHeartbeats 2000000 in
set_option maxRecDepth 100000 in
theorem cl_unitAt (x : S60) (a1 a2 : Int) (B1 B2 : Nat) (w : World) (h1 : w.cell? ⟨B1, 0, none⟩ = some (.int .i64 a1)) (h2 : w.cell? ⟨B2, 0, none⟩ = some (.int .i64 a2)) :
  Calls Try.prog 70 #[.agg #[.int .i64 x.f0, .int .i64 x.f1, .string x.f2, .int .i64 x.f3], .pointer (some ⟨B1, 0, none⟩), .pointer (some ⟨B2, 0, none⟩)] w fun e w' => e = .returned (.bool (isAt a1 a2 x)) ∧ Below w.heap.size w w' := by
 have l1 := World.block_lt_of_cell? w _ h1
 have l2 := World.block_lt_of_cell? w _ h2
 simp only at l1 l2
 by_cases c : x.f0 = a1
 ·rw [isAt_t c]
  have hd : (x.f0 == a1) = true := beq_iff_eq.mpr c
  clear c
  generalize hq : (x.f1 == a2) = q
  go_enter Try.func70, Try.ntmps70
  go_wp2
  go_ret
  exact ⟨rfl, (Below.refl _ _).alloc (Nat.le_refl _) _⟩
 ·rw [isAt_f c]
  have hd : (x.f0 == a1) = false := beq_eq_false_iff_ne.mpr c
  clear c
  go_enter Try.func70, Try.ntmps70
  go_wp2
  go_ret
  exact ⟨rfl, (Below.refl _ _).alloc (Nat.le_refl _) _⟩
def impl_unitAt.f (a0_0 : Int) (a0_1 : Bool) (l0_2 : List (S60)) (a1 : Int) (a2 : Int) : Option Int := some (idxF (isAt a1 a2) l0_2 0)
set_option maxHeartbeats 2000000 in
set_option maxRecDepth 100000 in
theorem impl_unitAt.calls (a0_0 : Int) (a0_1 : Bool) (A0_2 : Option Addr) (c0_2 : Nat) (l0_2 : List (S60)) (a1 : Int) (a2 : Int) (r : Int) (w : World) (hr0_2 : Kd.C k60 w A0_2 l0_2.length l0_2) (hc0_2 : l0_2.length ≤ c0_2) (h : impl_unitAt.f a0_0 a0_1 l0_2 a1 a2 = some r) :
  Calls Try.prog 42 #[.agg #[.int .i64 a0_0, .bool a0_1, .slice A0_2 l0_2.length c0_2], .int .i64 a1, .int .i64 a2] w fun e w' => e = .returned (.int .i64 r) ∧ Below w.heap.size w w' := by
 obtain rfl := Option.some.inj h
 clear h
 have hu := Try.underlying35
 have HR := AM hr0_2
 clear hr0_2
 go_enter Try.func42, Try.ntmps42
 go_wp2_with fail
 refine (ixUnit 70 _ (enters_of Try.func70 (by kernel_rfl) rfl) (isAt a1 a2) A0_2 c0_2 l0_2 _ ?hp ?hr).mono ?_
 case hp =>
  intro W x hm hb
  exact (cl_unitAt x a1 a2 _ _ W ((hb.cell (p := ⟨_, 0, none⟩) (by simp)).trans (by go_simp)) ((hb.cell (p := ⟨_, 0, none⟩) (by simp)).trans (by go_simp))).mono fun e w' ⟨he, hb2⟩ => ⟨he, hb.trans (hb2.mono hb.size)⟩
 case hr => exact Kd.C_alloc (Kd.C_alloc (Kd.C_alloc HR.out _) _) _
 rintro e w' ⟨rfl, hb⟩
 go_wp2
 go_ret
 exact ⟨rfl, ((((Below.refl _ _).alloc (Nat.le_refl _) _).alloc (by simp) _).alloc (by simp; omega) _).trans (hb.mono (by simp; omega))⟩
end Go.Proofs.Ytaejgompckpmfaa.Pr
namespace Go.Proofs.Ytaejgompckpmfaa.Pr
open Go.RowKit Go.Proofs.YtaejgompckpmfaaW.PrintWords Go.Proofs.YtaejgompckpmfaaW.PrintLast Go.Proofs.YtaejgompckpmfaaW.PrintMore
attribute [local go_sem] max2_int min2_int max_two min_two max_three min_three max_four min_four
mutual
def impl_SumMore.l0 : Nat → Int → ByteArray → Int → Option (Int)
 | 0, _, _, _ => none
 | k + 1, x0, x1, x5 => if x5 < (x1.size : Int) then (if 0 ≤ x5 then (impl_SumMore.l1 k (Go.bits .xor .u32 x0 ((bt x1 x5) % 4294967296)) x1 x5 0) else (none)) else (some x0)
def impl_SumMore.l1 : Nat → Int → ByteArray → Int → Int → Option (Int)
 | 0, _, _, _, _ => none
 | k + 1, x0, x1, x5, x6 => if x6 < 8 then (if (Int.tmod x0 2) = 1 then (impl_SumMore.l1 k (Go.bits .xor .u32 ((Int.tdiv x0 2) % 4294967296) 3558460437) x1 x5 (wrap64 (x6 + 1))) else (impl_SumMore.l1 k ((Int.tdiv x0 2) % 4294967296) x1 x5 (wrap64 (x6 + 1)))) else (impl_SumMore.l0 k x0 x1 (wrap64 (x5 + 1)))
end
def impl_SumMore.f (k : Nat) (a0 : Int) (a1 : ByteArray) : Option (Int) := impl_SumMore.l0 k a0 a1 0
set_option maxHeartbeats 8000000 in
set_option maxRecDepth 100000 in
theorem impl_SumMore.calls (k : Nat) (a0 : Int) (a1 : ByteArray) (r : Int) (w : World) (h : impl_SumMore.f k a0 a1 = some r) :
  Calls Try.prog 98 #[.int .u32 a0, .string a1] w fun e w' => e = .returned (.int .u32 r) ∧ Drawn0 w w' := by
 have H : (impl_SumMore.l0 k a0 a1 0) = some r := h
 clear h
 have H' := AM H
 clear H
 go_enter Try.func98, Try.ntmps98
 go_wp2
 go_loopg [0, 5] k (fun kq v0 v5 w' => ∃ (x0_1 : Int) (x5_1 : Int), v0 = .int .u32 x0_1 ∧ v5 = .int .i64 x5_1 ∧ Aside0 (impl_SumMore.l0 kq x0_1 a1 x5_1 = some r) ∧ Aside0 (kq ≤ k) ∧ Drawn0 w w')
 case atStart => exact ⟨(a0), (0), FR, FR, H', ⟨Nat.le_refl _⟩, by repeat (first | exact Drawn0.refl _ | apply Drawn0.step)⟩
 case round =>
  clear H'
  try clear p2
  obtain ⟨x0_1, x5_1, rfl, rfl, HA, HK1, ⟨m1, rfl⟩⟩ := hrel
  cases gk with
  | zero => exact absurd HA.out (by simp [impl_SumMore.l0])
  | succ k1 =>
   have H := HA.out
   clear HA
   simp only [impl_SumMore.l0] at H
   by_cases c3 : x5_1 < (a1.size : Int)
   ·rw [if_pos c3] at H
    have c3b0 := decide_eq_true c3
    clear c3
    by_cases c4 : 0 ≤ x5_1
    rotate_left
    ·rw [if_neg c4] at H; exact absurd H (by simp)
    rw [if_pos c4] at H
    have c4b0 := decide_eq_true c4
    clear c4
    have H' := AM H
    clear H
    have p5 : 0 ≤ (x5_1 : Int) := DT
    have q5 : x5_1 < (a1.size : Int) := DT
    have hx5 := bt_at a1 x5_1
    replace p5 := eq_true p5
    replace q5 := eq_true q5
    go_wp2
    go_loopg [0, 6] k1 (fun kq v0 v6 w' => ∃ (x0_2 : Int) (x6_2 : Int), v0 = .int .u32 x0_2 ∧ v6 = .int .i64 x6_2 ∧ Aside0 (impl_SumMore.l1 kq x0_2 a1 x5_1 x6_2 = some r) ∧ Aside0 (kq ≤ k1) ∧ Drawn0 w w')
    case atStart => exact ⟨(Go.bits .xor .u32 x0_1 ((bt a1 x5_1) % 4294967296)), (0), FR, FR, H', ⟨Nat.le_refl _⟩, by repeat (first | exact Drawn0.refl _ | apply Drawn0.step)⟩
    case round =>
     clear H'
     try clear p2
     try clear c3
     try clear c3b0
     try clear c4
     try clear c4b0
     try clear p5
     try clear q5
     try clear hx5
     try clear p2
     try clear p5
     try clear q5
     obtain ⟨x0_2, x6_2, rfl, rfl, HA, HK2, ⟨m2, rfl⟩⟩ := hrel
     cases gk with
     | zero => exact absurd HA.out (by simp [impl_SumMore.l1])
     | succ k2 =>
      have H := HA.out
      clear HA
      simp only [impl_SumMore.l1] at H
      by_cases c6 : x6_2 < 8
      ·rw [if_pos c6] at H
       have c6b0 := decide_eq_true c6
       clear c6
       by_cases c7 : (Int.tmod x0_2 2) = 1
       ·rw [if_pos c7] at H
        have c7b0 : ((Int.tmod x0_2 2) == 1) = true := beq_iff_eq.mpr c7
        have c7b1 : ((Int.tmod x0_2 2) != 1) = false := bne_eq_false_iff_eq.mpr c7
        clear c7
        have H' := AM H
        clear H
        go_wp2
        go_roundg k2
        case measure => have := HK1.out; have := HK2.out; omega
        case rel => exact ⟨(Go.bits .xor .u32 ((Int.tdiv x0_2 2) % 4294967296) 3558460437), (wrap64 (x6_2 + 1)), FR, FR, H', ⟨by have := HK1.out; have := HK2.out; omega⟩, by repeat (first | exact Drawn0.refl _ | apply Drawn0.step)⟩
       ·rw [if_neg c7] at H
        have c7b0 : ((Int.tmod x0_2 2) == 1) = false := beq_eq_false_iff_ne.mpr c7
        have c7b1 : ((Int.tmod x0_2 2) != 1) = true := bne_iff_ne.mpr c7
        have H' := AM H
        clear H
        go_wp2
        go_roundg k2
        case measure => have := HK1.out; have := HK2.out; omega
        case rel => exact ⟨((Int.tdiv x0_2 2) % 4294967296), (wrap64 (x6_2 + 1)), FR, FR, H', ⟨by have := HK1.out; have := HK2.out; omega⟩, by repeat (first | exact Drawn0.refl _ | apply Drawn0.step)⟩
      ·rw [if_neg c6] at H
       have c6b0 := decide_eq_false c6
       clear c6
       have H' := AM H
       clear H
       go_wp2
       go_roundg k2
       case measure => have := HK1.out; have := HK2.out; omega
       case rel => exact ⟨(x0_2), (wrap64 (x5_1 + 1)), FR, FR, H', ⟨by have := HK1.out; have := HK2.out; omega⟩, by repeat (first | exact Drawn0.refl _ | apply Drawn0.step)⟩
   ·rw [if_neg c3] at H
    have c3b0 := decide_eq_false c3
    clear c3
    obtain rfl := Option.some.inj H
    go_wp2
    go_ret
    exact ⟨FR, by repeat (first | exact Drawn0.refl _ | apply Drawn0.step)⟩

def impl_SumOf.f (k : Nat) (a0 : ByteArray) : Option (Int) := (impl_SumMore.f k 4294967295 a0).bind fun t395 => (some t395)
set_option maxHeartbeats 8000000 in
set_option maxRecDepth 100000 in
theorem impl_SumOf.calls (k : Nat) (a0 : ByteArray) (r : Int) (w : World) (h : impl_SumOf.f k a0 = some r) :
  Calls Try.prog 71 #[.string a0] w fun e w' => e = .returned (.int .u32 r) ∧ Drawn0 w w' := by
 have H : ((impl_SumMore.f k 4294967295 a0).bind fun t395 => (some t395)) = some r := h
 clear h
 replace H := Option.bind_eq_some_iff.mp H
 obtain ⟨t395, A20, H⟩ := H
 replace H : (some t395) = some r := H
 have A2 := AM A20
 clear A20
 obtain rfl := Option.some.inj H
 go_enter Try.func71, Try.ntmps71
 go_wp2_with (first | ((with_reducible refine gate_callee (f := 98) rfl ?_); refine GL (some 4) rfl rfl Try.func98 #[.int .u32 4294967295, .string a0] rfl ?_; (with_reducible refine (impl_SumMore.calls k 4294967295 a0 t395 _ A2.out).mono ?_); rintro e w' ⟨rfl, ⟨nd, rfl⟩⟩; refine ⟨_, rfl, ?_⟩))
 go_ret
 exact ⟨FR, by repeat (first | exact Drawn0.refl _ | apply Drawn0.step)⟩

def impl_SumText.f (k : Nat) (a0 : ByteArray) : Option (Int) := (impl_SumOf.f k a0).bind fun t396 => (some (wrap64 (t396)))
set_option maxHeartbeats 8000000 in
set_option maxRecDepth 100000 in
theorem impl_SumText.calls (k : Nat) (a0 : ByteArray) (r : Int) (w : World) (h : impl_SumText.f k a0 = some r) :
  Calls Try.prog 43 #[.string a0] w fun e w' => e = .returned (.int .i64 r) ∧ Drawn0 w w' := by
 have H : ((impl_SumOf.f k a0).bind fun t396 => (some (wrap64 (t396)))) = some r := h
 clear h
 replace H := Option.bind_eq_some_iff.mp H
 obtain ⟨t396, A20, H⟩ := H
 replace H : (some (wrap64 (t396))) = some r := H
 have A2 := AM A20
 clear A20
 obtain rfl := Option.some.inj H
 go_enter Try.func43, Try.ntmps43
 go_wp2_with (first | ((with_reducible refine gate_callee (f := 71) rfl ?_); refine GL (some 4) rfl rfl Try.func71 #[.string a0] rfl ?_; (with_reducible refine (impl_SumOf.calls k a0 t396 _ A2.out).mono ?_); rintro e w' ⟨rfl, ⟨nd, rfl⟩⟩; refine ⟨_, rfl, ?_⟩))
 go_ret
 exact ⟨FR, by repeat (first | exact Drawn0.refl _ | apply Drawn0.step)⟩

def impl_GetUnit.f (k : Nat) (a0_0 : Int) (a0_1 : Bool) (l0_2 : List (S60)) (a1 : Int) (a2 : Int) : Option (ByteArray × Bool) := (impl_unitAt.f a0_0 a0_1 l0_2 a1 a2).bind fun t398 => (if a0_1 = true then (if t398 < 0 then (some ((⟨#[]⟩ : ByteArray), false)) else (if 0 ≤ t398 then (if t398 < (l0_2.length : Int) then ((impl_SumText.f k ((rd_T60 l0_2 t398).f2)).bind fun t401 => (if ((rd_T60 l0_2 t398).f3) = t401 then (some ((rd_T60 l0_2 t398).f2, true)) else (some ((⟨#[]⟩ : ByteArray), false)))) else (none)) else (none))) else (some ((⟨#[]⟩ : ByteArray), false)))
set_option maxHeartbeats 8000000 in
set_option maxRecDepth 100000 in
theorem impl_GetUnit.calls (k : Nat) (a0_0 : Int) (a0_1 : Bool) (A0_2 : Option Addr) (c0_2 : Nat) (l0_2 : List (S60)) (a1 : Int) (a2 : Int) (r1 : ByteArray) (r2 : Bool) (w : World) (hr0_2 : Kd.C k60 w A0_2 l0_2.length l0_2) (hc0_2 : l0_2.length ≤ c0_2) (h : impl_GetUnit.f k a0_0 a0_1 l0_2 a1 a2 = some (r1, r2)) :
  Calls Try.prog 27 #[.agg #[.int .i64 a0_0, .bool a0_1, .slice A0_2 l0_2.length c0_2], .int .i64 a1, .int .i64 a2] w fun e w' => e = .returned (.tuple #[.string r1, .bool r2]) ∧ Below w.heap.size w w' := by
 have hu35 := Try.underlying35
 have HR0_2 := AM hr0_2
 have HC0_2 := AM hc0_2
 clear hr0_2 hc0_2
 have HB := AM (Below.refl w.heap.size w)
 have H : ((impl_unitAt.f a0_0 a0_1 l0_2 a1 a2).bind fun t398 => (if a0_1 = true then (if t398 < 0 then (some ((⟨#[]⟩ : ByteArray), false)) else (if 0 ≤ t398 then (if t398 < (l0_2.length : Int) then ((impl_SumText.f k ((rd_T60 l0_2 t398).f2)).bind fun t401 => (if ((rd_T60 l0_2 t398).f3) = t401 then (some ((rd_T60 l0_2 t398).f2, true)) else (some ((⟨#[]⟩ : ByteArray), false)))) else (none)) else (none))) else (some ((⟨#[]⟩ : ByteArray), false)))) = some (r1, r2) := h
 clear h
 replace H := Option.bind_eq_some_iff.mp H
 obtain ⟨t398, A40, H⟩ := H
 replace H : (if a0_1 = true then (if t398 < 0 then (some ((⟨#[]⟩ : ByteArray), false)) else (if 0 ≤ t398 then (if t398 < (l0_2.length : Int) then ((impl_SumText.f k ((rd_T60 l0_2 t398).f2)).bind fun t401 => (if ((rd_T60 l0_2 t398).f3) = t401 then (some ((rd_T60 l0_2 t398).f2, true)) else (some ((⟨#[]⟩ : ByteArray), false)))) else (none)) else (none))) else (some ((⟨#[]⟩ : ByteArray), false))) = some (r1, r2) := H
 have A4 := AM A40
 clear A40
 by_cases c5 : a0_1 = true
 ·subst c5
  have H1 : (if t398 < 0 then (some ((⟨#[]⟩ : ByteArray), false)) else (if 0 ≤ t398 then (if t398 < (l0_2.length : Int) then ((impl_SumText.f k ((rd_T60 l0_2 t398).f2)).bind fun t401 => (if ((rd_T60 l0_2 t398).f3) = t401 then (some ((rd_T60 l0_2 t398).f2, true)) else (some ((⟨#[]⟩ : ByteArray), false)))) else (none)) else (none))) = some (r1, r2) := by rw [if_pos rfl] at H; exact H
  clear H
  have H := H1
  clear H1
  by_cases c6 : t398 < 0
  ·rw [if_pos c6] at H
   have c6b0 := decide_eq_true c6
   clear c6
   simp only [Option.some.injEq, Prod.mk.injEq] at H
   obtain ⟨rfl, rfl⟩ := H
   go_enter Try.func27, Try.ntmps27
   go_wp2_with (first | ((with_reducible refine gate_dst (N := 3) rfl ?_); refine BX 3 #[.int .i64 a0_0, .bool true, .slice A0_2 l0_2.length c0_2] 35 ?_; intro gb397 hg w7 hbox hb; have BK397 := AM (hbox); have GW397 : Aside0 (w.heap.size ≤ gb397) := WG hg (BB HB.out); have GE397 := GW397; replace HB := AM (below_step (BB HB.out) hb); clear hb hbox hg; have hcz8 := blk_cell BK397.out; have hfz8 := blk_frozen BK397.out) | (go_at_call 42; (with_reducible refine (impl_unitAt.calls a0_0 true _ _ l0_2 a1 a2 t398 _ ?side1 ?side2 A4.out).mono ?_); (case side1 => exact CC (Kd.C_below HR0_2.out HB.out)); (case side2 => exact HC0_2.out); rintro e w9 ⟨rfl, hb⟩; replace BK397 := AM (KB BK397.out hb); replace HB := AM (below_step (BB1 HB.out GE397.out) hb); (try clear hb); (try clear hb2); (try clear hk); (try clear hi); have hcz10 := blk_cell BK397.out; have hfz10 := blk_frozen BK397.out))
   repeat (go_quiet (first | ((with_reducible refine gate_dst (N := 3) rfl ?_); refine BX 3 #[.int .i64 a0_0, .bool true, .slice A0_2 l0_2.length c0_2] 35 ?_; intro gb397 hg w7 hbox hb; have BK397 := AM (hbox); have GW397 : Aside0 (w.heap.size ≤ gb397) := WG hg (BB HB.out); have GE397 := GW397; replace HB := AM (below_step (BB HB.out) hb); clear hb hbox hg; have hcz8 := blk_cell BK397.out; have hfz8 := blk_frozen BK397.out) | (go_at_call 42; (with_reducible refine (impl_unitAt.calls a0_0 true _ _ l0_2 a1 a2 t398 _ ?side1 ?side2 A4.out).mono ?_); (case side1 => exact CC (Kd.C_below HR0_2.out HB.out)); (case side2 => exact HC0_2.out); rintro e w9 ⟨rfl, hb⟩; replace BK397 := AM (KB BK397.out hb); replace HB := AM (below_step (BB1 HB.out GE397.out) hb); (try clear hb); (try clear hb2); (try clear hk); (try clear hi); have hcz10 := blk_cell BK397.out; have hfz10 := blk_frozen BK397.out)); try go_wp2_with (first | ((with_reducible refine gate_dst (N := 3) rfl ?_); refine BX 3 #[.int .i64 a0_0, .bool true, .slice A0_2 l0_2.length c0_2] 35 ?_; intro gb397 hg w7 hbox hb; have BK397 := AM (hbox); have GW397 : Aside0 (w.heap.size ≤ gb397) := WG hg (BB HB.out); have GE397 := GW397; replace HB := AM (below_step (BB HB.out) hb); clear hb hbox hg; have hcz8 := blk_cell BK397.out; have hfz8 := blk_frozen BK397.out) | (go_at_call 42; (with_reducible refine (impl_unitAt.calls a0_0 true _ _ l0_2 a1 a2 t398 _ ?side1 ?side2 A4.out).mono ?_); (case side1 => exact CC (Kd.C_below HR0_2.out HB.out)); (case side2 => exact HC0_2.out); rintro e w9 ⟨rfl, hb⟩; replace BK397 := AM (KB BK397.out hb); replace HB := AM (below_step (BB1 HB.out GE397.out) hb); (try clear hb); (try clear hb2); (try clear hk); (try clear hi); have hcz10 := blk_cell BK397.out; have hfz10 := blk_frozen BK397.out)))
   go_ret2
   exact ⟨ER, (BB1 HB.out GE397.out)⟩
  ·rw [if_neg c6] at H
   have c6b0 := decide_eq_false c6
   clear c6
   by_cases c11 : 0 ≤ t398
   rotate_left
   ·rw [if_neg c11] at H; exact absurd H (by simp)
   rw [if_pos c11] at H
   have c11b0 := decide_eq_true c11
   clear c11
   by_cases c12 : t398 < (l0_2.length : Int)
   rotate_left
   ·rw [if_neg c12] at H; exact absurd H (by simp)
   rw [if_pos c12] at H
   have c12b0 := decide_eq_true c12
   clear c12
   replace H := Option.bind_eq_some_iff.mp H
   obtain ⟨t401, A130, H⟩ := H
   replace H : (if ((rd_T60 l0_2 t398).f3) = t401 then (some ((rd_T60 l0_2 t398).f2, true)) else (some ((⟨#[]⟩ : ByteArray), false))) = some (r1, r2) := H
   have A13 := AM A130
   clear A130
   by_cases c14 : ((rd_T60 l0_2 t398).f3) = t401
   ·rw [if_pos c14] at H
    have c14b0 : (((rd_T60 l0_2 t398).f3) == t401) = true := beq_iff_eq.mpr c14
    have c14b1 : (((rd_T60 l0_2 t398).f3) != t401) = false := bne_eq_false_iff_eq.mpr c14
    clear c14
    simp only [Option.some.injEq, Prod.mk.injEq] at H
    obtain ⟨rfl, rfl⟩ := H
    go_enter Try.func27, Try.ntmps27
    go_wp2_with (first | ((with_reducible refine gate_dst (N := 3) rfl ?_); refine BX 3 #[.int .i64 a0_0, .bool true, .slice A0_2 l0_2.length c0_2] 35 ?_; intro gb397 hg w15 hbox hb; have BK397 := AM (hbox); have GW397 : Aside0 (w.heap.size ≤ gb397) := WG hg (BB HB.out); have GE397 := GW397; replace HB := AM (below_step (BB HB.out) hb); clear hb hbox hg; have hcz16 := blk_cell BK397.out; have hfz16 := blk_frozen BK397.out) | (go_at_call 42; (with_reducible refine (impl_unitAt.calls a0_0 true _ _ l0_2 a1 a2 t398 _ ?side1 ?side2 A4.out).mono ?_); (case side1 => exact CC (Kd.C_below HR0_2.out HB.out)); (case side2 => exact HC0_2.out); rintro e w17 ⟨rfl, hb⟩; replace BK397 := AM (KB BK397.out hb); replace HB := AM (below_step (BB1 HB.out GE397.out) hb); (try clear hb); (try clear hb2); (try clear hk); (try clear hi); have hcz18 := blk_cell BK397.out; have hfz18 := blk_frozen BK397.out; have p399 : 0 ≤ (t398 : Int) := DT; have q399 : t398 < (l0_2.length : Int) := DT; obtain ⟨ad399, e399, hx399_0, hx399_1, hx399_2, hx399_3⟩ := at_T60 HR0_2.out t398 p399 q399; cases e399; replace hx399_0 := CX HB.out hx399_0; replace hx399_1 := CX HB.out hx399_1; replace hx399_2 := CX HB.out hx399_2; replace hx399_3 := CX HB.out hx399_3; replace p399 := eq_true p399; replace q399 := eq_true q399; have p400 : 0 ≤ (t398 : Int) := DT; have q400 : t398 < (l0_2.length : Int) := DT; obtain ⟨ad400, e400, hx400_0, hx400_1, hx400_2, hx400_3⟩ := at_T60 HR0_2.out t398 p400 q400; obtain rfl : ad399 = ad400 := (by injection e400); replace hx400_0 := CX HB.out hx400_0; replace hx400_1 := CX HB.out hx400_1; replace hx400_2 := CX HB.out hx400_2; replace hx400_3 := CX HB.out hx400_3; replace p400 := eq_true p400; replace q400 := eq_true q400) | (go_at_call 43; (with_reducible refine (impl_SumText.calls k ((rd_T60 l0_2 t398).f2) t401 _ A13.out).mono ?_); rintro e w' ⟨rfl, ⟨nd, rfl⟩⟩; (try first | exact ⟨rfl, _, World.drewN_drewN _ _ _⟩ | exact ⟨rfl, _, Eq.trans (World.drewN_drewN _ _ _) (congrArg (World.drewN _) (Nat.add_assoc _ _ _))⟩); have p402 : 0 ≤ (t398 : Int) := DT; have q402 : t398 < (l0_2.length : Int) := DT; obtain ⟨ad402, e402, hx402_0, hx402_1, hx402_2, hx402_3⟩ := at_T60 HR0_2.out t398 p402 q402; obtain rfl : ad399 = ad402 := (by injection e402); replace hx402_0 := CX HB.out hx402_0; replace hx402_1 := CX HB.out hx402_1; replace hx402_2 := CX HB.out hx402_2; replace hx402_3 := CX HB.out hx402_3; replace p402 := eq_true p402; replace q402 := eq_true q402))
    repeat (go_quiet (first | ((with_reducible refine gate_dst (N := 3) rfl ?_); refine BX 3 #[.int .i64 a0_0, .bool true, .slice A0_2 l0_2.length c0_2] 35 ?_; intro gb397 hg w15 hbox hb; have BK397 := AM (hbox); have GW397 : Aside0 (w.heap.size ≤ gb397) := WG hg (BB HB.out); have GE397 := GW397; replace HB := AM (below_step (BB HB.out) hb); clear hb hbox hg; have hcz16 := blk_cell BK397.out; have hfz16 := blk_frozen BK397.out) | (go_at_call 42; (with_reducible refine (impl_unitAt.calls a0_0 true _ _ l0_2 a1 a2 t398 _ ?side1 ?side2 A4.out).mono ?_); (case side1 => exact CC (Kd.C_below HR0_2.out HB.out)); (case side2 => exact HC0_2.out); rintro e w17 ⟨rfl, hb⟩; replace BK397 := AM (KB BK397.out hb); replace HB := AM (below_step (BB1 HB.out GE397.out) hb); (try clear hb); (try clear hb2); (try clear hk); (try clear hi); have hcz18 := blk_cell BK397.out; have hfz18 := blk_frozen BK397.out; have p399 : 0 ≤ (t398 : Int) := DT; have q399 : t398 < (l0_2.length : Int) := DT; obtain ⟨ad399, e399, hx399_0, hx399_1, hx399_2, hx399_3⟩ := at_T60 HR0_2.out t398 p399 q399; cases e399; replace hx399_0 := CX HB.out hx399_0; replace hx399_1 := CX HB.out hx399_1; replace hx399_2 := CX HB.out hx399_2; replace hx399_3 := CX HB.out hx399_3; replace p399 := eq_true p399; replace q399 := eq_true q399; have p400 : 0 ≤ (t398 : Int) := DT; have q400 : t398 < (l0_2.length : Int) := DT; obtain ⟨ad400, e400, hx400_0, hx400_1, hx400_2, hx400_3⟩ := at_T60 HR0_2.out t398 p400 q400; obtain rfl : ad399 = ad400 := (by injection e400); replace hx400_0 := CX HB.out hx400_0; replace hx400_1 := CX HB.out hx400_1; replace hx400_2 := CX HB.out hx400_2; replace hx400_3 := CX HB.out hx400_3; replace p400 := eq_true p400; replace q400 := eq_true q400) | (go_at_call 43; (with_reducible refine (impl_SumText.calls k ((rd_T60 l0_2 t398).f2) t401 _ A13.out).mono ?_); rintro e w' ⟨rfl, ⟨nd, rfl⟩⟩; (try first | exact ⟨rfl, _, World.drewN_drewN _ _ _⟩ | exact ⟨rfl, _, Eq.trans (World.drewN_drewN _ _ _) (congrArg (World.drewN _) (Nat.add_assoc _ _ _))⟩); have p402 : 0 ≤ (t398 : Int) := DT; have q402 : t398 < (l0_2.length : Int) := DT; obtain ⟨ad402, e402, hx402_0, hx402_1, hx402_2, hx402_3⟩ := at_T60 HR0_2.out t398 p402 q402; obtain rfl : ad399 = ad402 := (by injection e402); replace hx402_0 := CX HB.out hx402_0; replace hx402_1 := CX HB.out hx402_1; replace hx402_2 := CX HB.out hx402_2; replace hx402_3 := CX HB.out hx402_3; replace p402 := eq_true p402; replace q402 := eq_true q402)); try go_wp2_with (first | ((with_reducible refine gate_dst (N := 3) rfl ?_); refine BX 3 #[.int .i64 a0_0, .bool true, .slice A0_2 l0_2.length c0_2] 35 ?_; intro gb397 hg w15 hbox hb; have BK397 := AM (hbox); have GW397 : Aside0 (w.heap.size ≤ gb397) := WG hg (BB HB.out); have GE397 := GW397; replace HB := AM (below_step (BB HB.out) hb); clear hb hbox hg; have hcz16 := blk_cell BK397.out; have hfz16 := blk_frozen BK397.out) | (go_at_call 42; (with_reducible refine (impl_unitAt.calls a0_0 true _ _ l0_2 a1 a2 t398 _ ?side1 ?side2 A4.out).mono ?_); (case side1 => exact CC (Kd.C_below HR0_2.out HB.out)); (case side2 => exact HC0_2.out); rintro e w17 ⟨rfl, hb⟩; replace BK397 := AM (KB BK397.out hb); replace HB := AM (below_step (BB1 HB.out GE397.out) hb); (try clear hb); (try clear hb2); (try clear hk); (try clear hi); have hcz18 := blk_cell BK397.out; have hfz18 := blk_frozen BK397.out; have p399 : 0 ≤ (t398 : Int) := DT; have q399 : t398 < (l0_2.length : Int) := DT; obtain ⟨ad399, e399, hx399_0, hx399_1, hx399_2, hx399_3⟩ := at_T60 HR0_2.out t398 p399 q399; cases e399; replace hx399_0 := CX HB.out hx399_0; replace hx399_1 := CX HB.out hx399_1; replace hx399_2 := CX HB.out hx399_2; replace hx399_3 := CX HB.out hx399_3; replace p399 := eq_true p399; replace q399 := eq_true q399; have p400 : 0 ≤ (t398 : Int) := DT; have q400 : t398 < (l0_2.length : Int) := DT; obtain ⟨ad400, e400, hx400_0, hx400_1, hx400_2, hx400_3⟩ := at_T60 HR0_2.out t398 p400 q400; obtain rfl : ad399 = ad400 := (by injection e400); replace hx400_0 := CX HB.out hx400_0; replace hx400_1 := CX HB.out hx400_1; replace hx400_2 := CX HB.out hx400_2; replace hx400_3 := CX HB.out hx400_3; replace p400 := eq_true p400; replace q400 := eq_true q400) | (go_at_call 43; (with_reducible refine (impl_SumText.calls k ((rd_T60 l0_2 t398).f2) t401 _ A13.out).mono ?_); rintro e w' ⟨rfl, ⟨nd, rfl⟩⟩; (try first | exact ⟨rfl, _, World.drewN_drewN _ _ _⟩ | exact ⟨rfl, _, Eq.trans (World.drewN_drewN _ _ _) (congrArg (World.drewN _) (Nat.add_assoc _ _ _))⟩); have p402 : 0 ≤ (t398 : Int) := DT; have q402 : t398 < (l0_2.length : Int) := DT; obtain ⟨ad402, e402, hx402_0, hx402_1, hx402_2, hx402_3⟩ := at_T60 HR0_2.out t398 p402 q402; obtain rfl : ad399 = ad402 := (by injection e402); replace hx402_0 := CX HB.out hx402_0; replace hx402_1 := CX HB.out hx402_1; replace hx402_2 := CX HB.out hx402_2; replace hx402_3 := CX HB.out hx402_3; replace p402 := eq_true p402; replace q402 := eq_true q402)))
    go_ret2
    exact ⟨ER, (BB1 HB.out GE397.out)⟩
   ·rw [if_neg c14] at H
    have c14b0 : (((rd_T60 l0_2 t398).f3) == t401) = false := beq_eq_false_iff_ne.mpr c14
    have c14b1 : (((rd_T60 l0_2 t398).f3) != t401) = true := bne_iff_ne.mpr c14
    simp only [Option.some.injEq, Prod.mk.injEq] at H
    obtain ⟨rfl, rfl⟩ := H
    go_enter Try.func27, Try.ntmps27
    go_wp2_with (first | ((with_reducible refine gate_dst (N := 3) rfl ?_); refine BX 3 #[.int .i64 a0_0, .bool true, .slice A0_2 l0_2.length c0_2] 35 ?_; intro gb397 hg w19 hbox hb; have BK397 := AM (hbox); have GW397 : Aside0 (w.heap.size ≤ gb397) := WG hg (BB HB.out); have GE397 := GW397; replace HB := AM (below_step (BB HB.out) hb); clear hb hbox hg; have hcz20 := blk_cell BK397.out; have hfz20 := blk_frozen BK397.out) | (go_at_call 42; (with_reducible refine (impl_unitAt.calls a0_0 true _ _ l0_2 a1 a2 t398 _ ?side1 ?side2 A4.out).mono ?_); (case side1 => exact CC (Kd.C_below HR0_2.out HB.out)); (case side2 => exact HC0_2.out); rintro e w21 ⟨rfl, hb⟩; replace BK397 := AM (KB BK397.out hb); replace HB := AM (below_step (BB1 HB.out GE397.out) hb); (try clear hb); (try clear hb2); (try clear hk); (try clear hi); have hcz22 := blk_cell BK397.out; have hfz22 := blk_frozen BK397.out; have p399 : 0 ≤ (t398 : Int) := DT; have q399 : t398 < (l0_2.length : Int) := DT; obtain ⟨ad399, e399, hx399_0, hx399_1, hx399_2, hx399_3⟩ := at_T60 HR0_2.out t398 p399 q399; cases e399; replace hx399_0 := CX HB.out hx399_0; replace hx399_1 := CX HB.out hx399_1; replace hx399_2 := CX HB.out hx399_2; replace hx399_3 := CX HB.out hx399_3; replace p399 := eq_true p399; replace q399 := eq_true q399; have p400 : 0 ≤ (t398 : Int) := DT; have q400 : t398 < (l0_2.length : Int) := DT; obtain ⟨ad400, e400, hx400_0, hx400_1, hx400_2, hx400_3⟩ := at_T60 HR0_2.out t398 p400 q400; obtain rfl : ad399 = ad400 := (by injection e400); replace hx400_0 := CX HB.out hx400_0; replace hx400_1 := CX HB.out hx400_1; replace hx400_2 := CX HB.out hx400_2; replace hx400_3 := CX HB.out hx400_3; replace p400 := eq_true p400; replace q400 := eq_true q400) | (go_at_call 43; (with_reducible refine (impl_SumText.calls k ((rd_T60 l0_2 t398).f2) t401 _ A13.out).mono ?_); rintro e w' ⟨rfl, ⟨nd, rfl⟩⟩; (try first | exact ⟨rfl, _, World.drewN_drewN _ _ _⟩ | exact ⟨rfl, _, Eq.trans (World.drewN_drewN _ _ _) (congrArg (World.drewN _) (Nat.add_assoc _ _ _))⟩)))
    repeat (go_quiet (first | ((with_reducible refine gate_dst (N := 3) rfl ?_); refine BX 3 #[.int .i64 a0_0, .bool true, .slice A0_2 l0_2.length c0_2] 35 ?_; intro gb397 hg w19 hbox hb; have BK397 := AM (hbox); have GW397 : Aside0 (w.heap.size ≤ gb397) := WG hg (BB HB.out); have GE397 := GW397; replace HB := AM (below_step (BB HB.out) hb); clear hb hbox hg; have hcz20 := blk_cell BK397.out; have hfz20 := blk_frozen BK397.out) | (go_at_call 42; (with_reducible refine (impl_unitAt.calls a0_0 true _ _ l0_2 a1 a2 t398 _ ?side1 ?side2 A4.out).mono ?_); (case side1 => exact CC (Kd.C_below HR0_2.out HB.out)); (case side2 => exact HC0_2.out); rintro e w21 ⟨rfl, hb⟩; replace BK397 := AM (KB BK397.out hb); replace HB := AM (below_step (BB1 HB.out GE397.out) hb); (try clear hb); (try clear hb2); (try clear hk); (try clear hi); have hcz22 := blk_cell BK397.out; have hfz22 := blk_frozen BK397.out; have p399 : 0 ≤ (t398 : Int) := DT; have q399 : t398 < (l0_2.length : Int) := DT; obtain ⟨ad399, e399, hx399_0, hx399_1, hx399_2, hx399_3⟩ := at_T60 HR0_2.out t398 p399 q399; cases e399; replace hx399_0 := CX HB.out hx399_0; replace hx399_1 := CX HB.out hx399_1; replace hx399_2 := CX HB.out hx399_2; replace hx399_3 := CX HB.out hx399_3; replace p399 := eq_true p399; replace q399 := eq_true q399; have p400 : 0 ≤ (t398 : Int) := DT; have q400 : t398 < (l0_2.length : Int) := DT; obtain ⟨ad400, e400, hx400_0, hx400_1, hx400_2, hx400_3⟩ := at_T60 HR0_2.out t398 p400 q400; obtain rfl : ad399 = ad400 := (by injection e400); replace hx400_0 := CX HB.out hx400_0; replace hx400_1 := CX HB.out hx400_1; replace hx400_2 := CX HB.out hx400_2; replace hx400_3 := CX HB.out hx400_3; replace p400 := eq_true p400; replace q400 := eq_true q400) | (go_at_call 43; (with_reducible refine (impl_SumText.calls k ((rd_T60 l0_2 t398).f2) t401 _ A13.out).mono ?_); rintro e w' ⟨rfl, ⟨nd, rfl⟩⟩; (try first | exact ⟨rfl, _, World.drewN_drewN _ _ _⟩ | exact ⟨rfl, _, Eq.trans (World.drewN_drewN _ _ _) (congrArg (World.drewN _) (Nat.add_assoc _ _ _))⟩))); try go_wp2_with (first | ((with_reducible refine gate_dst (N := 3) rfl ?_); refine BX 3 #[.int .i64 a0_0, .bool true, .slice A0_2 l0_2.length c0_2] 35 ?_; intro gb397 hg w19 hbox hb; have BK397 := AM (hbox); have GW397 : Aside0 (w.heap.size ≤ gb397) := WG hg (BB HB.out); have GE397 := GW397; replace HB := AM (below_step (BB HB.out) hb); clear hb hbox hg; have hcz20 := blk_cell BK397.out; have hfz20 := blk_frozen BK397.out) | (go_at_call 42; (with_reducible refine (impl_unitAt.calls a0_0 true _ _ l0_2 a1 a2 t398 _ ?side1 ?side2 A4.out).mono ?_); (case side1 => exact CC (Kd.C_below HR0_2.out HB.out)); (case side2 => exact HC0_2.out); rintro e w21 ⟨rfl, hb⟩; replace BK397 := AM (KB BK397.out hb); replace HB := AM (below_step (BB1 HB.out GE397.out) hb); (try clear hb); (try clear hb2); (try clear hk); (try clear hi); have hcz22 := blk_cell BK397.out; have hfz22 := blk_frozen BK397.out; have p399 : 0 ≤ (t398 : Int) := DT; have q399 : t398 < (l0_2.length : Int) := DT; obtain ⟨ad399, e399, hx399_0, hx399_1, hx399_2, hx399_3⟩ := at_T60 HR0_2.out t398 p399 q399; cases e399; replace hx399_0 := CX HB.out hx399_0; replace hx399_1 := CX HB.out hx399_1; replace hx399_2 := CX HB.out hx399_2; replace hx399_3 := CX HB.out hx399_3; replace p399 := eq_true p399; replace q399 := eq_true q399; have p400 : 0 ≤ (t398 : Int) := DT; have q400 : t398 < (l0_2.length : Int) := DT; obtain ⟨ad400, e400, hx400_0, hx400_1, hx400_2, hx400_3⟩ := at_T60 HR0_2.out t398 p400 q400; obtain rfl : ad399 = ad400 := (by injection e400); replace hx400_0 := CX HB.out hx400_0; replace hx400_1 := CX HB.out hx400_1; replace hx400_2 := CX HB.out hx400_2; replace hx400_3 := CX HB.out hx400_3; replace p400 := eq_true p400; replace q400 := eq_true q400) | (go_at_call 43; (with_reducible refine (impl_SumText.calls k ((rd_T60 l0_2 t398).f2) t401 _ A13.out).mono ?_); rintro e w' ⟨rfl, ⟨nd, rfl⟩⟩; (try first | exact ⟨rfl, _, World.drewN_drewN _ _ _⟩ | exact ⟨rfl, _, Eq.trans (World.drewN_drewN _ _ _) (congrArg (World.drewN _) (Nat.add_assoc _ _ _))⟩))))
    go_ret2
    exact ⟨ER, (BB1 HB.out GE397.out)⟩
 ·replace c5 := Bool.eq_false_iff.mpr c5
  subst c5
  have H1 : (some ((⟨#[]⟩ : ByteArray), false)) = some (r1, r2) := by rw [if_neg (show ¬ (false = true) by decide)] at H; exact H
  clear H
  have H := H1
  clear H1
  simp only [Option.some.injEq, Prod.mk.injEq] at H
  obtain ⟨rfl, rfl⟩ := H
  go_enter Try.func27, Try.ntmps27
  go_wp2_with (first | ((with_reducible refine gate_dst (N := 3) rfl ?_); refine BX 3 #[.int .i64 a0_0, .bool false, .slice A0_2 l0_2.length c0_2] 35 ?_; intro gb397 hg w23 hbox hb; have BK397 := AM (hbox); have GW397 : Aside0 (w.heap.size ≤ gb397) := WG hg (BB HB.out); have GE397 := GW397; replace HB := AM (below_step (BB HB.out) hb); clear hb hbox hg; have hcz24 := blk_cell BK397.out; have hfz24 := blk_frozen BK397.out) | (go_at_call 42; (with_reducible refine (impl_unitAt.calls a0_0 false _ _ l0_2 a1 a2 t398 _ ?side1 ?side2 A4.out).mono ?_); (case side1 => exact CC (Kd.C_below HR0_2.out HB.out)); (case side2 => exact HC0_2.out); rintro e w25 ⟨rfl, hb⟩; replace BK397 := AM (KB BK397.out hb); replace HB := AM (below_step (BB1 HB.out GE397.out) hb); (try clear hb); (try clear hb2); (try clear hk); (try clear hi); have hcz26 := blk_cell BK397.out; have hfz26 := blk_frozen BK397.out))
  repeat (go_quiet (first | ((with_reducible refine gate_dst (N := 3) rfl ?_); refine BX 3 #[.int .i64 a0_0, .bool false, .slice A0_2 l0_2.length c0_2] 35 ?_; intro gb397 hg w23 hbox hb; have BK397 := AM (hbox); have GW397 : Aside0 (w.heap.size ≤ gb397) := WG hg (BB HB.out); have GE397 := GW397; replace HB := AM (below_step (BB HB.out) hb); clear hb hbox hg; have hcz24 := blk_cell BK397.out; have hfz24 := blk_frozen BK397.out) | (go_at_call 42; (with_reducible refine (impl_unitAt.calls a0_0 false _ _ l0_2 a1 a2 t398 _ ?side1 ?side2 A4.out).mono ?_); (case side1 => exact CC (Kd.C_below HR0_2.out HB.out)); (case side2 => exact HC0_2.out); rintro e w25 ⟨rfl, hb⟩; replace BK397 := AM (KB BK397.out hb); replace HB := AM (below_step (BB1 HB.out GE397.out) hb); (try clear hb); (try clear hb2); (try clear hk); (try clear hi); have hcz26 := blk_cell BK397.out; have hfz26 := blk_frozen BK397.out)); try go_wp2_with (first | ((with_reducible refine gate_dst (N := 3) rfl ?_); refine BX 3 #[.int .i64 a0_0, .bool false, .slice A0_2 l0_2.length c0_2] 35 ?_; intro gb397 hg w23 hbox hb; have BK397 := AM (hbox); have GW397 : Aside0 (w.heap.size ≤ gb397) := WG hg (BB HB.out); have GE397 := GW397; replace HB := AM (below_step (BB HB.out) hb); clear hb hbox hg; have hcz24 := blk_cell BK397.out; have hfz24 := blk_frozen BK397.out) | (go_at_call 42; (with_reducible refine (impl_unitAt.calls a0_0 false _ _ l0_2 a1 a2 t398 _ ?side1 ?side2 A4.out).mono ?_); (case side1 => exact CC (Kd.C_below HR0_2.out HB.out)); (case side2 => exact HC0_2.out); rintro e w25 ⟨rfl, hb⟩; replace BK397 := AM (KB BK397.out hb); replace HB := AM (below_step (BB1 HB.out GE397.out) hb); (try clear hb); (try clear hb2); (try clear hk); (try clear hi); have hcz26 := blk_cell BK397.out; have hfz26 := blk_frozen BK397.out)))
  go_ret2
  exact ⟨ER, (BB1 HB.out GE397.out)⟩

mutual
def impl_UnitsOf.l0 : Nat → List (S35) → Int → Int → Int → List ByteArray → List Bool → Int → Option (List ByteArray × List Bool)
 | 0, _, _, _, _, _, _, _ => none
 | k + 1, x0, x2, x8, x9, x11, x12, x13 => if x13 < (wrap64 (x8 + x9)) then (impl_UnitsOf.l1 k x0 x2 x8 x9 x11 x12 x13 (⟨#[]⟩ : ByteArray) false x0 (x0.length : Int) 0) else (some (x11, x12))
def impl_UnitsOf.l1 : Nat → List (S35) → Int → Int → Int → List ByteArray → List Bool → Int → ByteArray → Bool → List (S35) → Int → Int → Option (List ByteArray × List Bool)
 | 0, _, _, _, _, _, _, _, _, _, _, _, _ => none
 | k + 1, x0, x2, x8, x9, x11, x12, x13, x14, x15, x31, x32, x33 => if x33 < x32 then (if 0 ≤ x33 then (if x33 < (x31.length : Int) then ((impl_GetUnit.f k ((rd_T35 x31 x33).f0) ((rd_T35 x31 x33).f1) ((rd_T35 x31 x33).f2) x2 x13).bind fun bt408 => (if bt408.2 = true then (if x11.length < 8796093022208 then (if x12.length < 140737488355328 then (impl_UnitsOf.l0 k x0 x2 x8 x9 (x11 ++ [bt408.1]) (x12 ++ [bt408.2]) (wrap64 (x13 + 1))) else (none)) else (none)) else (impl_UnitsOf.l1 k x0 x2 x8 x9 x11 x12 x13 bt408.1 bt408.2 x31 x32 (wrap64 (x33 + 1))))) else (none)) else (none)) else (if x11.length < 8796093022208 then (if x12.length < 140737488355328 then (impl_UnitsOf.l0 k x0 x2 x8 x9 (x11 ++ [x14]) (x12 ++ [x15]) (wrap64 (x13 + 1))) else (none)) else (none))
end
def impl_UnitsOf.f (k : Nat) (l0 : List (S35)) (a1 : Int) (a2 : Int) : Option (List ByteArray × List Bool) := (impl_SchemaOf.f a1).bind fun bt403 => (impl_UnitsOf.l0 k l0 a2 bt403.1 bt403.2.1 ([] : List ByteArray) ([] : List Bool) 0)
set_option maxHeartbeats 8000000 in
set_option maxRecDepth 100000 in
theorem impl_UnitsOf.calls (k : Nat) (A0 : Option Addr) (c0 : Nat) (l0 : List (S35)) (a1 : Int) (a2 : Int) (r1 : List ByteArray) (r2 : List Bool) (w : World) (hr0 : Kd.C k35 w A0 l0.length l0) (hc0 : l0.length ≤ c0) (h : impl_UnitsOf.f k l0 a1 a2 = some (r1, r2)) :
  Calls Try.prog 8 #[.slice A0 l0.length c0, .int .i64 a1, .int .i64 a2] w fun e w' => ∃ v0_ v1_ : Value, e = .returned (.tuple #[v0_, v1_]) ∧ Kd.R Kd.string 9 w' w.heap.size (fun _ => True) v0_ r1 ∧ Kd.R Kd.bool 4 w' w.heap.size (fun _ => True) v1_ r2 ∧ Below w.heap.size w w' := by
 have hu35 := Try.underlying35
 have HR0 := AM hr0
 have HC0 := AM hc0
 clear hr0 hc0
 have HB := AM (Below.refl w.heap.size w)
 have H : ((impl_SchemaOf.f a1).bind fun bt403 => (impl_UnitsOf.l0 k l0 a2 bt403.1 bt403.2.1 ([] : List ByteArray) ([] : List Bool) 0)) = some (r1, r2) := h
 clear h
 replace H := Option.bind_eq_some_iff.mp H
 obtain ⟨⟨t403, t404, t405⟩, A40, H⟩ := H
 replace H : (impl_UnitsOf.l0 k l0 a2 t403 t404 ([] : List ByteArray) ([] : List Bool) 0) = some (r1, r2) := H
 have A4 := AM A40
 clear A40
 have H' := AM H
 clear H
 go_enter Try.func8, Try.ntmps8
 go_wp2_with (first | ((with_reducible refine gate_callee (f := 26) rfl ?_); refine GL (some 20) rfl rfl Try.func26 #[.int .i64 a1] rfl ?_; (with_reducible refine (impl_SchemaOf.calls a1 t403 t404 t405 _ A4.out).mono ?_); rintro e w' ⟨rfl, ⟨nd, rfl⟩⟩; refine ⟨_, rfl, ?_⟩))
 go_loopg [11, 12, 13] k (fun kq v11 v12 v13 w' => ∃ (x11_1 : List ByteArray) (x12_1 : List Bool) (x13_1 : Int), v13 = .int .i64 x13_1 ∧ Aside0 (impl_UnitsOf.l0 kq l0 a2 t403 t404 x11_1 x12_1 x13_1 = some (r1, r2)) ∧ Aside0 (kq ≤ k) ∧ Aside0 (Kd.R Kd.string 9 w' w.heap.size (fun _ => True) v11 x11_1) ∧ Aside0 (Kd.R Kd.bool 4 w' w.heap.size (fun _ => True) v12 x12_1) ∧ Aside0 (Below w.heap.size w w'))
 case atStart => exact ⟨(([] : List ByteArray)), (([] : List Bool)), (0), FR, H', ⟨Nat.le_refl _⟩, ⟨by first | exact Kd.R_nil _ _ _ _ _ | exact Kd.N_nil _ _ _ _ _ | exact Kd.V_nil _ _ _ _ _ | exact Kd.Q_nil _ _ _ _ _ | exact Kd.S_nil _ _ _ _ _⟩, ⟨by first | exact Kd.R_nil _ _ _ _ _ | exact Kd.N_nil _ _ _ _ _ | exact Kd.V_nil _ _ _ _ _ | exact Kd.Q_nil _ _ _ _ _ | exact Kd.S_nil _ _ _ _ _⟩, ⟨(BB HB.out)⟩⟩
 case round =>
  clear H'
  try clear c2
  try clear p2
  obtain ⟨x11_1, x12_1, x13_1, rfl, HA, HK1, HO_11, HO_12, HB⟩ := hrel
  cases gk with
  | zero => exact absurd HA.out (by simp [impl_UnitsOf.l0])
  | succ k1 =>
   have H := HA.out
   clear HA
   simp only [impl_UnitsOf.l0] at H
   by_cases c5 : x13_1 < (wrap64 (t403 + t404))
   ·rw [if_pos c5] at H
    have c5b0 := decide_eq_true c5
    clear c5
    have H' := AM H
    clear H
    go_wp2
    go_loopg [14, 15, 33] k1 (fun kq v14 v15 v33 w' => ∃ (x14_2 : ByteArray) (x15_2 : Bool) (x33_2 : Int), v14 = .string x14_2 ∧ v15 = .bool x15_2 ∧ v33 = .int .i64 x33_2 ∧ Aside0 (impl_UnitsOf.l1 kq l0 a2 t403 t404 x11_1 x12_1 x13_1 x14_2 x15_2 l0 (l0.length : Int) x33_2 = some (r1, r2)) ∧ Aside0 (kq ≤ k1) ∧ Aside0 (Kd.R Kd.string 9 w' w.heap.size (fun _ => True) u11 x11_1) ∧ Aside0 (Kd.R Kd.bool 4 w' w.heap.size (fun _ => True) u12 x12_1) ∧ Aside0 (Below w.heap.size w w'))
    case atStart => exact ⟨((⟨#[]⟩ : ByteArray)), (false), (0), FR, FR, FR, H', ⟨Nat.le_refl _⟩, ⟨(RR HO_11.out)⟩, ⟨(RR HO_12.out)⟩, ⟨(BB HB.out)⟩⟩
    case round =>
     clear H'
     try clear c2
     try clear p2
     try clear c5
     try clear c5b0
     try clear p2
     obtain ⟨x14_2, x15_2, x33_2, rfl, rfl, rfl, HA, HK2, HO_11, HO_12, HB⟩ := hrel
     cases gk with
     | zero => exact absurd HA.out (by simp [impl_UnitsOf.l1])
     | succ k2 =>
      have H := HA.out
      clear HA
      simp only [impl_UnitsOf.l1] at H
      by_cases c6 : x33_2 < (l0.length : Int)
      ·rw [if_pos c6] at H
       have c6b0 := decide_eq_true c6
       clear c6
       by_cases c7 : 0 ≤ x33_2
       rotate_left
       ·rw [if_neg c7] at H; exact absurd H (by simp)
       rw [if_pos c7] at H
       have c7b0 := decide_eq_true c7
       clear c7
       by_cases c8 : x33_2 < (l0.length : Int)
       rotate_left
       ·rw [if_neg c8] at H; exact absurd H (by simp)
       rw [if_pos c8] at H
       have c8b0 := decide_eq_true c8
       clear c8
       replace H := Option.bind_eq_some_iff.mp H
       obtain ⟨⟨t408, t409⟩, A90, H⟩ := H
       replace H : (if t409 = true then (if x11_1.length < 8796093022208 then (if x12_1.length < 140737488355328 then (impl_UnitsOf.l0 k2 l0 a2 t403 t404 (x11_1 ++ [t408]) (x12_1 ++ [t409]) (wrap64 (x13_1 + 1))) else (none)) else (none)) else (impl_UnitsOf.l1 k2 l0 a2 t403 t404 x11_1 x12_1 x13_1 t408 t409 l0 (l0.length : Int) (wrap64 (x33_2 + 1)))) = some (r1, r2) := H
       have A9 := AM A90
       clear A90
       by_cases c10 : t409 = true
       ·subst c10
        have H1 : (if x11_1.length < 8796093022208 then (if x12_1.length < 140737488355328 then (impl_UnitsOf.l0 k2 l0 a2 t403 t404 (x11_1 ++ [t408]) (x12_1 ++ [true]) (wrap64 (x13_1 + 1))) else (none)) else (none)) = some (r1, r2) := by rw [if_pos rfl] at H; exact H
        clear H
        have H := H1
        clear H1
        by_cases c11 : x11_1.length < 8796093022208
        rotate_left
        ·rw [if_neg c11] at H; exact absurd H (by simp)
        rw [if_pos c11] at H
        have LMc11 := AM c11
        clear c11
        obtain ⟨y410, hy410⟩ : ∃ y_ : List ByteArray, y_ = (x11_1 ++ [t408]) := ⟨_, rfl⟩
        replace H : (if x12_1.length < 140737488355328 then (impl_UnitsOf.l0 k2 l0 a2 t403 t404 y410 (x12_1 ++ [true]) (wrap64 (x13_1 + 1))) else (none)) = some (r1, r2) := by first | (rw [hy410]; first | with_reducible exact H | with_reducible exact OB H) | with_reducible exact OB H | with_reducible exact H | (rw [hy410]; exact H) | exact H
        have Ny410 := AM hy410
        clear hy410
        by_cases c12 : x12_1.length < 140737488355328
        rotate_left
        ·rw [if_neg c12] at H; exact absurd H (by simp)
        rw [if_pos c12] at H
        have LMc12 := AM c12
        clear c12
        obtain ⟨y413, hy413⟩ : ∃ y_ : List Bool, y_ = (x12_1 ++ [true]) := ⟨_, rfl⟩
        replace H : (impl_UnitsOf.l0 k2 l0 a2 t403 t404 y410 y413 (wrap64 (x13_1 + 1))) = some (r1, r2) := by first | (rw [hy413]; first | with_reducible exact H | with_reducible exact OB H) | with_reducible exact OB H | with_reducible exact H | (rw [hy413]; exact H) | exact H
        have Ny413 := AM hy413
        clear hy413
        have H' := AM H
        clear H
        have p406 : 0 ≤ (x33_2 : Int) := DT
        have q406 : x33_2 < (l0.length : Int) := DT
        obtain ⟨ad406, A406_2, c406_2, e406, hx406_0, hx406_1, hx406_2, hl406_2, hi406_2⟩ := at_T35 HR0.out x33_2 p406 q406
        cases e406
        replace hx406_0 := CX HB.out hx406_0
        replace hx406_1 := CX HB.out hx406_1
        replace hx406_2 := CX HB.out hx406_2
        have HR406_2 := AM hi406_2
        have HC406_2 := AM hl406_2
        clear hi406_2 hl406_2
        replace p406 := eq_true p406
        replace q406 := eq_true q406
        go_wp2_with (first | ((with_reducible refine gate_dst (N := 17) rfl ?_); refine BX 17 #[.int .i64 0, .bool false, .slice none 0 0] 35 ?_; intro gb407 hg w13 hbox hb; have BK407 := AM (hbox); have GW407 : Aside0 (w.heap.size ≤ gb407) := WG hg (BB HB.out); have GE407 := GW407; replace HO_11 := AM (Kd.R_below (RR HO_11.out) hb); replace HO_12 := AM (Kd.R_below (RR HO_12.out) hb); replace HB := AM (below_step (BB HB.out) hb); clear hb hbox hg; have hcz14 := blk_cell BK407.out; have hfz14 := blk_frozen BK407.out) | ((with_reducible refine gate_callee (f := 27) rfl ?_); refine GL (some 41) rfl rfl Try.func27 #[.agg #[.int .i64 ((rd_T35 l0 x33_2).f0), .bool ((rd_T35 l0 x33_2).f1), .slice A406_2 ((rd_T35 l0 x33_2).f2).length c406_2], .int .i64 a2, .int .i64 x13_1] rfl ?_; (with_reducible refine (impl_GetUnit.calls k2 ((rd_T35 l0 x33_2).f0) ((rd_T35 l0 x33_2).f1) _ _ ((rd_T35 l0 x33_2).f2) a2 x13_1 t408 true _ ?side1 ?side2 A9.out).mono ?_); (case side1 => exact Kd.C_below HR406_2.out (BB1 HB.out GE407.out)); (case side2 => exact HC406_2.out); rintro e w15 ⟨rfl, hb⟩; refine ⟨_, rfl, ?_⟩; have n0_ := AM (Kd.R_below (by (with_reducible repeat (first | apply Kd.R_alloc | apply Kd.R_drewN | apply Kd.R_drew)); exact (Kd.R_mono (Kd.R_far (p := ⟨gb407, 2, none⟩) (Kd.R_far (p := ⟨gb407, 1, none⟩) (Kd.R_far (p := ⟨gb407, 0, none⟩) (Kd.R_types HO_11.out BK407.out (by decide)) (fun _ hk => hk.2) (.int .i64 ((rd_T35 l0 x33_2).f0))) (fun _ hk => hk.2) (.bool ((rd_T35 l0 x33_2).f1))) (fun _ hk => hk.2) (.slice A406_2 ((rd_T35 l0 x33_2).f2).length c406_2)) (fun _ h_ => h_.1))) hb); have n1_ := AM (Kd.R_below (by (with_reducible repeat (first | apply Kd.R_alloc | apply Kd.R_drewN | apply Kd.R_drew)); exact (Kd.R_mono (Kd.R_far (p := ⟨gb407, 2, none⟩) (Kd.R_far (p := ⟨gb407, 1, none⟩) (Kd.R_far (p := ⟨gb407, 0, none⟩) (Kd.R_types HO_12.out BK407.out (by decide)) (fun _ hk => hk.2) (.int .i64 ((rd_T35 l0 x33_2).f0))) (fun _ hk => hk.2) (.bool ((rd_T35 l0 x33_2).f1))) (fun _ hk => hk.2) (.slice A406_2 ((rd_T35 l0 x33_2).f2).length c406_2)) (fun _ h_ => h_.1))) hb); have n2_ := AM (blk_below (g := gb407) (o := .cells #[.int .i64 ((rd_T35 l0 x33_2).f0), .bool ((rd_T35 l0 x33_2).f1), .slice A406_2 ((rd_T35 l0 x33_2).f2).length c406_2] 35 (0, 0)) (by refine BD ?_; refine blk_put (cs := #[.int .i64 ((rd_T35 l0 x33_2).f0), .bool ((rd_T35 l0 x33_2).f1), .slice none 0 0]) ?_ 2 _ rfl; refine BD ?_; refine blk_put (cs := #[.int .i64 ((rd_T35 l0 x33_2).f0), .bool false, .slice none 0 0]) ?_ 1 _ rfl; refine BD ?_; refine blk_put (cs := #[.int .i64 0, .bool false, .slice none 0 0]) ?_ 0 _ rfl; refine BD ?_; exact BK407.out) hb); have n3_ := AM (below_step (BB1 HB.out GE407.out) hb); clear HO_11; clear HO_12; clear BK407; clear HB; have HO_11 := n0_; have HO_12 := n1_; have BK407 := n2_; have HB := n3_; clear n0_ n1_ n2_ n3_; (try clear hb)) | ((with_reducible refine gate_builtin (b := .append) (xs := #[.tmp 46, .tmp 48]) rfl ?_); at_builtin; refine Kd.R_append Kd.string (w0 := w) w.heap.size rfl (.tmp 46) (.tmp 48) 27 9 (.string ⟨#[]⟩) 16 rfl Try.underlying27 info9 rfl (by decide) (by omega) u11 x11_1 t408 [.string t408] (fun _ => True) (fun _ => False) rfl rfl ?aP (fun _ hk => hk.elim) ?aF ?aO ?aB ?aS ?aL ?_; (case aP => exact rfl); (case aB => exact (BB1 HB.out GE407.out)); (case aF => exact (fun _ _ => trivial)); (case aO => exact (RR HO_11.out)); (case aS => exact (below_size (BB1 HB.out GE407.out))); (case aL => have := LMc11.out; omega); intro v411 w16 ho hb hg hat; rw [← Ny410.out] at ho; have n0_ := AM (Kd.R_over' (RR HO_12.out) (Kd.R_typed (RR HO_11.out)) (by decide) hg); have n1_ := AM (blk_grown (g := gb407) (o := .cells #[.int .i64 ((rd_T35 l0 x33_2).f0), .bool ((rd_T35 l0 x33_2).f1), .slice A406_2 ((rd_T35 l0 x33_2).f2).length c406_2] 35 (0, 0)) (BD BK407.out) hg (Kd.R_ne HO_11.out BK407.out (by decide))); have n2_ := AM (hb); have n3_ := AM (ho); clear HO_12; clear BK407; clear HB; clear HO_11; have HO_12 := n0_; have BK407 := n1_; have HB := n2_; have HO412 := n3_; clear n0_ n1_ n2_ n3_; clear ho hb hg hat) | ((with_reducible refine gate_builtin (b := .append) (xs := #[.tmp 50, .tmp 52]) rfl ?_); at_builtin; refine Kd.R_append Kd.bool (w0 := w) w.heap.size rfl (.tmp 50) (.tmp 52) 28 4 (.bool false) 1 rfl Try.underlying28 info4 rfl (by decide) (by omega) u12 x12_1 true [.bool true] (fun _ => True) (fun _ => False) rfl rfl ?aP (fun _ hk => hk.elim) ?aF ?aO ?aB ?aS ?aL ?_; (case aP => exact rfl); (case aB => exact (BB1 HB.out GE407.out)); (case aF => exact (fun _ _ => trivial)); (case aO => exact (RR HO_12.out)); (case aS => exact (below_size (BB1 HB.out GE407.out))); (case aL => have := LMc12.out; omega); intro v414 w17 ho hb hg hat; rw [← Ny413.out] at ho; have n0_ := AM (blk_grown (g := gb407) (o := .cells #[.int .i64 ((rd_T35 l0 x33_2).f0), .bool ((rd_T35 l0 x33_2).f1), .slice A406_2 ((rd_T35 l0 x33_2).f2).length c406_2] 35 (0, 0)) (BD BK407.out) hg (Kd.R_ne HO_12.out BK407.out (by decide))); have n1_ := AM (Kd.R_over' (RR HO412.out) (Kd.R_typed (RR HO_12.out)) (by decide) hg); have n2_ := AM (hb); have n3_ := AM (ho); clear BK407; clear HO412; clear HB; clear HO_12; have BK407 := n0_; have HO412 := n1_; have HB := n2_; have HO415 := n3_; clear n0_ n1_ n2_ n3_; clear ho hb hg hat))
        go_roundg k2
        case measure => have := HK1.out; have := HK2.out; omega
        case rel => exact ⟨(y410), (y413), (wrap64 (x13_1 + 1)), FR, H', ⟨by have := HK1.out; have := HK2.out; omega⟩, ⟨(RR HO412.out)⟩, ⟨(RR HO415.out)⟩, ⟨(BB1 HB.out GE407.out)⟩⟩
       ·replace c10 := Bool.eq_false_iff.mpr c10
        subst c10
        have H1 : (impl_UnitsOf.l1 k2 l0 a2 t403 t404 x11_1 x12_1 x13_1 t408 false l0 (l0.length : Int) (wrap64 (x33_2 + 1))) = some (r1, r2) := by rw [if_neg (show ¬ (false = true) by decide)] at H; exact H
        clear H
        have H := H1
        clear H1
        have H' := AM H
        clear H
        have p406 : 0 ≤ (x33_2 : Int) := DT
        have q406 : x33_2 < (l0.length : Int) := DT
        obtain ⟨ad406, A406_2, c406_2, e406, hx406_0, hx406_1, hx406_2, hl406_2, hi406_2⟩ := at_T35 HR0.out x33_2 p406 q406
        cases e406
        replace hx406_0 := CX HB.out hx406_0
        replace hx406_1 := CX HB.out hx406_1
        replace hx406_2 := CX HB.out hx406_2
        have HR406_2 := AM hi406_2
        have HC406_2 := AM hl406_2
        clear hi406_2 hl406_2
        replace p406 := eq_true p406
        replace q406 := eq_true q406
        go_wp2_with (first | ((with_reducible refine gate_dst (N := 17) rfl ?_); refine BX 17 #[.int .i64 0, .bool false, .slice none 0 0] 35 ?_; intro gb407 hg w18 hbox hb; have BK407 := AM (hbox); have GW407 : Aside0 (w.heap.size ≤ gb407) := WG hg (BB HB.out); have GE407 := GW407; replace HO_11 := AM (Kd.R_below (RR HO_11.out) hb); replace HO_12 := AM (Kd.R_below (RR HO_12.out) hb); replace HB := AM (below_step (BB HB.out) hb); clear hb hbox hg; have hcz19 := blk_cell BK407.out; have hfz19 := blk_frozen BK407.out) | ((with_reducible refine gate_callee (f := 27) rfl ?_); refine GL (some 41) rfl rfl Try.func27 #[.agg #[.int .i64 ((rd_T35 l0 x33_2).f0), .bool ((rd_T35 l0 x33_2).f1), .slice A406_2 ((rd_T35 l0 x33_2).f2).length c406_2], .int .i64 a2, .int .i64 x13_1] rfl ?_; (with_reducible refine (impl_GetUnit.calls k2 ((rd_T35 l0 x33_2).f0) ((rd_T35 l0 x33_2).f1) _ _ ((rd_T35 l0 x33_2).f2) a2 x13_1 t408 false _ ?side1 ?side2 A9.out).mono ?_); (case side1 => exact Kd.C_below HR406_2.out (BB1 HB.out GE407.out)); (case side2 => exact HC406_2.out); rintro e w20 ⟨rfl, hb⟩; refine ⟨_, rfl, ?_⟩; have n0_ := AM (Kd.R_below (by (with_reducible repeat (first | apply Kd.R_alloc | apply Kd.R_drewN | apply Kd.R_drew)); exact (Kd.R_mono (Kd.R_far (p := ⟨gb407, 2, none⟩) (Kd.R_far (p := ⟨gb407, 1, none⟩) (Kd.R_far (p := ⟨gb407, 0, none⟩) (Kd.R_types HO_11.out BK407.out (by decide)) (fun _ hk => hk.2) (.int .i64 ((rd_T35 l0 x33_2).f0))) (fun _ hk => hk.2) (.bool ((rd_T35 l0 x33_2).f1))) (fun _ hk => hk.2) (.slice A406_2 ((rd_T35 l0 x33_2).f2).length c406_2)) (fun _ h_ => h_.1))) hb); have n1_ := AM (Kd.R_below (by (with_reducible repeat (first | apply Kd.R_alloc | apply Kd.R_drewN | apply Kd.R_drew)); exact (Kd.R_mono (Kd.R_far (p := ⟨gb407, 2, none⟩) (Kd.R_far (p := ⟨gb407, 1, none⟩) (Kd.R_far (p := ⟨gb407, 0, none⟩) (Kd.R_types HO_12.out BK407.out (by decide)) (fun _ hk => hk.2) (.int .i64 ((rd_T35 l0 x33_2).f0))) (fun _ hk => hk.2) (.bool ((rd_T35 l0 x33_2).f1))) (fun _ hk => hk.2) (.slice A406_2 ((rd_T35 l0 x33_2).f2).length c406_2)) (fun _ h_ => h_.1))) hb); have n2_ := AM (blk_below (g := gb407) (o := .cells #[.int .i64 ((rd_T35 l0 x33_2).f0), .bool ((rd_T35 l0 x33_2).f1), .slice A406_2 ((rd_T35 l0 x33_2).f2).length c406_2] 35 (0, 0)) (by refine BD ?_; refine blk_put (cs := #[.int .i64 ((rd_T35 l0 x33_2).f0), .bool ((rd_T35 l0 x33_2).f1), .slice none 0 0]) ?_ 2 _ rfl; refine BD ?_; refine blk_put (cs := #[.int .i64 ((rd_T35 l0 x33_2).f0), .bool false, .slice none 0 0]) ?_ 1 _ rfl; refine BD ?_; refine blk_put (cs := #[.int .i64 0, .bool false, .slice none 0 0]) ?_ 0 _ rfl; refine BD ?_; exact BK407.out) hb); have n3_ := AM (below_step (BB1 HB.out GE407.out) hb); clear HO_11; clear HO_12; clear BK407; clear HB; have HO_11 := n0_; have HO_12 := n1_; have BK407 := n2_; have HB := n3_; clear n0_ n1_ n2_ n3_; (try clear hb)))
        go_roundg k2
        case measure => have := HK1.out; have := HK2.out; omega
        case rel => exact ⟨(t408), (false), (wrap64 (x33_2 + 1)), FR, FR, FR, H', ⟨by have := HK1.out; have := HK2.out; omega⟩, ⟨(RR HO_11.out)⟩, ⟨(RR HO_12.out)⟩, ⟨(BB1 HB.out GE407.out)⟩⟩
      ·rw [if_neg c6] at H
       have c6b0 := decide_eq_false c6
       clear c6
       by_cases c21 : x11_1.length < 8796093022208
       rotate_left
       ·rw [if_neg c21] at H; exact absurd H (by simp)
       rw [if_pos c21] at H
       have LMc21 := AM c21
       clear c21
       obtain ⟨y416, hy416⟩ : ∃ y_ : List ByteArray, y_ = (x11_1 ++ [x14_2]) := ⟨_, rfl⟩
       replace H : (if x12_1.length < 140737488355328 then (impl_UnitsOf.l0 k2 l0 a2 t403 t404 y416 (x12_1 ++ [x15_2]) (wrap64 (x13_1 + 1))) else (none)) = some (r1, r2) := by first | (rw [hy416]; first | with_reducible exact H | with_reducible exact OB H) | with_reducible exact OB H | with_reducible exact H | (rw [hy416]; exact H) | exact H
       have Ny416 := AM hy416
       clear hy416
       by_cases c22 : x12_1.length < 140737488355328
       rotate_left
       ·rw [if_neg c22] at H; exact absurd H (by simp)
       rw [if_pos c22] at H
       have LMc22 := AM c22
       clear c22
       obtain ⟨y419, hy419⟩ : ∃ y_ : List Bool, y_ = (x12_1 ++ [x15_2]) := ⟨_, rfl⟩
       replace H : (impl_UnitsOf.l0 k2 l0 a2 t403 t404 y416 y419 (wrap64 (x13_1 + 1))) = some (r1, r2) := by first | (rw [hy419]; first | with_reducible exact H | with_reducible exact OB H) | with_reducible exact OB H | with_reducible exact H | (rw [hy419]; exact H) | exact H
       have Ny419 := AM hy419
       clear hy419
       have H' := AM H
       clear H
       go_wp2_with (first | ((with_reducible refine gate_builtin (b := .append) (xs := #[.tmp 46, .tmp 48]) rfl ?_); at_builtin; refine Kd.R_append Kd.string (w0 := w) w.heap.size rfl (.tmp 46) (.tmp 48) 27 9 (.string ⟨#[]⟩) 16 rfl Try.underlying27 info9 rfl (by decide) (by omega) u11 x11_1 x14_2 [.string x14_2] (fun _ => True) (fun _ => False) rfl rfl ?aP (fun _ hk => hk.elim) ?aF ?aO ?aB ?aS ?aL ?_; (case aP => exact rfl); (case aB => exact (BB HB.out)); (case aF => exact (fun _ _ => trivial)); (case aO => exact (RR HO_11.out)); (case aS => exact (below_size (BB HB.out))); (case aL => have := LMc21.out; omega); intro v417 w23 ho hb hg hat; rw [← Ny416.out] at ho; have HO418 := AM (ho); replace HO_12 := AM (Kd.R_over' (RR HO_12.out) (Kd.R_typed (RR HO_11.out)) (by decide) hg); replace HB := AM (hb); clear HO_11; clear ho hb hg hat) | ((with_reducible refine gate_builtin (b := .append) (xs := #[.tmp 50, .tmp 52]) rfl ?_); at_builtin; refine Kd.R_append Kd.bool (w0 := w) w.heap.size rfl (.tmp 50) (.tmp 52) 28 4 (.bool false) 1 rfl Try.underlying28 info4 rfl (by decide) (by omega) u12 x12_1 x15_2 [.bool x15_2] (fun _ => True) (fun _ => False) rfl rfl ?aP (fun _ hk => hk.elim) ?aF ?aO ?aB ?aS ?aL ?_; (case aP => exact rfl); (case aB => exact (BB HB.out)); (case aF => exact (fun _ _ => trivial)); (case aO => exact (RR HO_12.out)); (case aS => exact (below_size (BB HB.out))); (case aL => have := LMc22.out; omega); intro v420 w24 ho hb hg hat; rw [← Ny419.out] at ho; have HO421 := AM (ho); replace HO418 := AM (Kd.R_over' (RR HO418.out) (Kd.R_typed (RR HO_12.out)) (by decide) hg); replace HB := AM (hb); clear HO_12; clear ho hb hg hat))
       go_roundg k2
       case measure => have := HK1.out; have := HK2.out; omega
       case rel => exact ⟨(y416), (y419), (wrap64 (x13_1 + 1)), FR, H', ⟨by have := HK1.out; have := HK2.out; omega⟩, ⟨(RR HO418.out)⟩, ⟨(RR HO421.out)⟩, ⟨(BB HB.out)⟩⟩
   ·rw [if_neg c5] at H
    have c5b0 := decide_eq_false c5
    clear c5
    simp only [Option.some.injEq, Prod.mk.injEq] at H
    obtain ⟨rfl, rfl⟩ := H
    go_wp2
    go_ret2
    exact ⟨_, _, ER, by (with_reducible repeat (first | apply Kd.R_alloc | apply Kd.R_drewN | apply Kd.R_drew)); exact HO_11.out, by (with_reducible repeat (first | apply Kd.R_alloc | apply Kd.R_drewN | apply Kd.R_drew)); exact HO_12.out, (BB HB.out)⟩

def impl_LeftOf.l0 : Nat → Int → List Bool → Int → Int → Option (Int)
 | 0, _, _, _, _ => none
 | k + 1, x9, x19, x20, x21 => if x21 < x20 then (if 0 ≤ x21 then (if x21 < (x19.length : Int) then (if rdOf false x19 x21 = true then (impl_LeftOf.l0 k (wrap64 (x9 + 1)) x19 x20 (wrap64 (x21 + 1))) else (impl_LeftOf.l0 k x9 x19 x20 (wrap64 (x21 + 1)))) else (none)) else (none)) else (some x9)
def impl_LeftOf.f (k : Nat) (l0 : List (S35)) (a1 : Int) (a2 : Int) : Option (Int) := (impl_UnitsOf.f k l0 a1 a2).bind fun bt510 => (impl_LeftOf.l0 k 0 bt510.2 (bt510.2.length : Int) 0)
set_option maxHeartbeats 8000000 in
set_option maxRecDepth 100000 in
theorem impl_LeftOf.calls (k : Nat) (A0 : Option Addr) (c0 : Nat) (l0 : List (S35)) (a1 : Int) (a2 : Int) (r : Int) (w : World) (hr0 : Kd.C k35 w A0 l0.length l0) (hc0 : l0.length ≤ c0) (h : impl_LeftOf.f k l0 a1 a2 = some r) :
  Calls Try.prog 14 #[.slice A0 l0.length c0, .int .i64 a1, .int .i64 a2] w fun e w' => e = .returned (.int .i64 r) ∧ Below w.heap.size w w' := by
 have HR0 := AM hr0
 have HC0 := AM hc0
 clear hr0 hc0
 have HB := AM (Below.refl w.heap.size w)
 have H : ((impl_UnitsOf.f k l0 a1 a2).bind fun bt510 => (impl_LeftOf.l0 k 0 bt510.2 (bt510.2.length : Int) 0)) = some r := h
 clear h
 replace H := Option.bind_eq_some_iff.mp H
 obtain ⟨⟨t510, t511⟩, A40, H⟩ := H
 replace H : (impl_LeftOf.l0 k 0 t511 (t511.length : Int) 0) = some r := H
 have A4 := AM A40
 clear A40
 have H' := AM H
 clear H
 go_enter Try.func14, Try.ntmps14
 go_wp2_with (first | ((with_reducible refine gate_callee (f := 8) rfl ?_); refine GL (some 16) rfl rfl Try.func8 #[.slice A0 l0.length c0, .int .i64 a1, .int .i64 a2] rfl ?_; (with_reducible refine (impl_UnitsOf.calls k _ _ l0 a1 a2 t510 t511 _ ?side1 ?side2 A4.out).mono ?_); (case side1 => exact CC HR0.out); (case side2 => exact HC0.out); rintro e w5 ⟨v512, v514, rfl, ho0, ho1, hb⟩; refine ⟨_, rfl, ?_⟩; have HO513 := AM (Kd.R_lower ho0 (below_size (BB HB.out))); have HO515 := AM (Kd.R_lower ho1 (below_size (BB HB.out))); replace HB := AM (below_step (BB HB.out) hb); (try clear hb); (try clear ho0); (try clear ho1); obtain ⟨Ao6, co6, eo6⟩ := Kd.R_slice HO515.out; subst eo6))
 go_loopg [9, 21] k (fun kq v9 v21 w' => ∃ (x9_1 : Int) (x21_1 : Int), v9 = .int .i64 x9_1 ∧ v21 = .int .i64 x21_1 ∧ Aside0 (impl_LeftOf.l0 kq x9_1 t511 (t511.length : Int) x21_1 = some r) ∧ Aside0 (kq ≤ k) ∧ Aside0 (Kd.R Kd.bool 4 w' w.heap.size (fun _ => True) (.slice Ao6 t511.length co6) t511) ∧ Aside0 (Below w.heap.size w w'))
 case atStart => exact ⟨(0), (0), FR, FR, H', ⟨Nat.le_refl _⟩, ⟨(RR HO515.out)⟩, ⟨(BB HB.out)⟩⟩
 case round =>
  clear H'
  try clear c1
  try clear p2
  obtain ⟨x9_1, x21_1, rfl, rfl, HA, HK1, HO_19, HB⟩ := hrel
  cases gk with
  | zero => exact absurd HA.out (by simp [impl_LeftOf.l0])
  | succ k1 =>
   have H := HA.out
   clear HA
   simp only [impl_LeftOf.l0] at H
   by_cases c7 : x21_1 < (t511.length : Int)
   ·rw [if_pos c7] at H
    have c7b0 := decide_eq_true c7
    clear c7
    by_cases c8 : 0 ≤ x21_1
    rotate_left
    ·rw [if_neg c8] at H; exact absurd H (by simp)
    rw [if_pos c8] at H
    have c8b0 := decide_eq_true c8
    clear c8
    by_cases c9 : x21_1 < (t511.length : Int)
    rotate_left
    ·rw [if_neg c9] at H; exact absurd H (by simp)
    rw [if_pos c9] at H
    have c9b0 := decide_eq_true c9
    clear c9
    obtain ⟨bq10, hbq10⟩ : ∃ b_ : Bool, b_ = (rdOf false t511 x21_1) := ⟨_, rfl⟩
    replace H : (if bq10 = true then (impl_LeftOf.l0 k1 (wrap64 (x9_1 + 1)) t511 (t511.length : Int) (wrap64 (x21_1 + 1))) else (impl_LeftOf.l0 k1 x9_1 t511 (t511.length : Int) (wrap64 (x21_1 + 1)))) = some r := by rw [← hbq10] at H; exact H
    have Nbq10 := AM hbq10
    clear hbq10
    by_cases c11 : bq10 = true
    ·subst c11
     have H1 : (impl_LeftOf.l0 k1 (wrap64 (x9_1 + 1)) t511 (t511.length : Int) (wrap64 (x21_1 + 1))) = some r := by rw [if_pos rfl] at H; exact H
     clear H
     have H := H1
     clear H1
     have H' := AM H
     clear H
     have p516 : 0 ≤ (x21_1 : Int) := DT
     have q516 : x21_1 < (t511.length : Int) := DT
     obtain ⟨ad516, e516, hx516_0⟩ := Kd.at_bool (Kd.R_reads' HO_19.out).2.2 x21_1 p516 q516
     (try rw [← Nbq10.out] at hx516_0)
     cases e516
     replace p516 := eq_true p516
     replace q516 := eq_true q516
     go_wp2
     go_roundg k1
     case measure => have := HK1.out; omega
     case rel => exact ⟨(wrap64 (x9_1 + 1)), (wrap64 (x21_1 + 1)), FR, FR, H', ⟨by have := HK1.out; omega⟩, ⟨(RR HO_19.out)⟩, ⟨(BB HB.out)⟩⟩
    ·replace c11 := Bool.eq_false_iff.mpr c11
     subst c11
     have H1 : (impl_LeftOf.l0 k1 x9_1 t511 (t511.length : Int) (wrap64 (x21_1 + 1))) = some r := by rw [if_neg (show ¬ (false = true) by decide)] at H; exact H
     clear H
     have H := H1
     clear H1
     have H' := AM H
     clear H
     have p516 : 0 ≤ (x21_1 : Int) := DT
     have q516 : x21_1 < (t511.length : Int) := DT
     obtain ⟨ad516, e516, hx516_0⟩ := Kd.at_bool (Kd.R_reads' HO_19.out).2.2 x21_1 p516 q516
     (try rw [← Nbq10.out] at hx516_0)
     cases e516
     replace p516 := eq_true p516
     replace q516 := eq_true q516
     go_wp2
     go_roundg k1
     case measure => have := HK1.out; omega
     case rel => exact ⟨(x9_1), (wrap64 (x21_1 + 1)), FR, FR, H', ⟨by have := HK1.out; omega⟩, ⟨(RR HO_19.out)⟩, ⟨(BB HB.out)⟩⟩
   ·rw [if_neg c7] at H
    have c7b0 := decide_eq_false c7
    clear c7
    obtain rfl := Option.some.inj H
    go_wp2
    go_ret
    exact ⟨ER, (BB HB.out)⟩

def impl_LoadOf.f (a0_0 : Int) (a0_1 : Bool) (l0_2 : List (S60)) : Option (Int) := some (l0_2.length : Int)
set_option maxHeartbeats 8000000 in
set_option maxRecDepth 100000 in
theorem impl_LoadOf.calls (a0_0 : Int) (a0_1 : Bool) (A0_2 : Option Addr) (c0_2 : Nat) (l0_2 : List (S60)) (r : Int) (w : World) (hr0_2 : Kd.C k60 w A0_2 l0_2.length l0_2) (hc0_2 : l0_2.length ≤ c0_2) (h : impl_LoadOf.f a0_0 a0_1 l0_2 = some r) :
  Calls Try.prog 15 #[.agg #[.int .i64 a0_0, .bool a0_1, .slice A0_2 l0_2.length c0_2]] w fun e w' => e = .returned (.int .i64 r) ∧ Below w.heap.size w w' := by
 have hu35 := Try.underlying35
 have HR0_2 := AM hr0_2
 have HC0_2 := AM hc0_2
 clear hr0_2 hc0_2
 have HB := AM (Below.refl w.heap.size w)
 have H : (some (l0_2.length : Int)) = some r := h
 clear h
 obtain rfl := Option.some.inj H
 go_enter Try.func15, Try.ntmps15
 go_wp2_with (first | ((with_reducible refine gate_dst (N := 1) rfl ?_); refine BX 1 #[.int .i64 a0_0, .bool a0_1, .slice A0_2 l0_2.length c0_2] 35 ?_; intro gb517 hg w2 hbox hb; have BK517 := AM (hbox); have GW517 : Aside0 (w.heap.size ≤ gb517) := WG hg (BB HB.out); have GE517 := GW517; replace HB := AM (below_step (BB HB.out) hb); clear hb hbox hg; have hcz3 := blk_cell BK517.out; have hfz3 := blk_frozen BK517.out))
 go_ret
 exact ⟨ER, (BB1 HB.out GE517.out)⟩

def laws_big.f (l0 : List Int) : Option (Bool) := some (decide ((l0.length : Int) > 1048576))
set_option maxHeartbeats 8000000 in
set_option maxRecDepth 100000 in
theorem laws_big.calls (A0 : Option Addr) (c0 : Nat) (l0 : List Int) (r : Bool) (w : World) (hr0 : Kd.C (Kd.int .u8) w A0 l0.length l0) (hc0 : l0.length ≤ c0) (h : laws_big.f l0 = some r) :
  Calls Try.prog 6 #[.slice A0 l0.length c0] w fun e w' => e = .returned (.bool r) ∧ Drawn0 w w' := by
 have HR0 := AM hr0
 have HC0 := AM hc0
 clear hr0 hc0
 have H : (some (decide ((l0.length : Int) > 1048576))) = some r := h
 clear h
 obtain rfl := Option.some.inj H
 go_enter Try.func6, Try.ntmps6
 go_wp2
 go_ret
 exact ⟨FR, by repeat (first | exact Drawn0.refl _ | apply Drawn0.step)⟩

def spec_SchemaOf.f (a0 : Int) : Option (Int × Int × Bool) := if a0 = 1 then (some (2, 1, true)) else (if a0 = 2 then (some (3, 2, true)) else (if a0 = 3 then (some (4, 2, true)) else (some (0, 0, false))))
set_option maxHeartbeats 8000000 in
set_option maxRecDepth 100000 in
theorem spec_SchemaOf.calls (a0 : Int) (r1 : Int) (r2 : Int) (r3 : Bool) (w : World) (h : spec_SchemaOf.f a0 = some (r1, r2, r3)) :
  Calls Try.prog 19 #[.int .i64 a0] w fun e w' => e = .returned (.tuple #[.int .i64 r1, .int .i64 r2, .bool r3]) ∧ Drawn0 w w' := by
 have H : (if a0 = 1 then (some (2, 1, true)) else (if a0 = 2 then (some (3, 2, true)) else (if a0 = 3 then (some (4, 2, true)) else (some (0, 0, false))))) = some (r1, r2, r3) := h
 clear h
 by_cases c2 : a0 = 1
 ·rw [if_pos c2] at H
  have c2b0 : (a0 == 1) = true := beq_iff_eq.mpr c2
  have c2b1 : (a0 != 1) = false := bne_eq_false_iff_eq.mpr c2
  clear c2
  simp only [Option.some.injEq, Prod.mk.injEq] at H
  obtain ⟨rfl, rfl, rfl⟩ := H
  go_enter Try.func19, Try.ntmps19
  go_wp2
  go_ret3
  exact ⟨FR, by repeat (first | exact Drawn0.refl _ | apply Drawn0.step)⟩
 ·rw [if_neg c2] at H
  have c2b0 : (a0 == 1) = false := beq_eq_false_iff_ne.mpr c2
  have c2b1 : (a0 != 1) = true := bne_iff_ne.mpr c2
  by_cases c3 : a0 = 2
  ·rw [if_pos c3] at H
   have c3b0 : (a0 == 2) = true := beq_iff_eq.mpr c3
   have c3b1 : (a0 != 2) = false := bne_eq_false_iff_eq.mpr c3
   clear c3
   simp only [Option.some.injEq, Prod.mk.injEq] at H
   obtain ⟨rfl, rfl, rfl⟩ := H
   go_enter Try.func19, Try.ntmps19
   go_wp2
   go_ret3
   exact ⟨FR, by repeat (first | exact Drawn0.refl _ | apply Drawn0.step)⟩
  ·rw [if_neg c3] at H
   have c3b0 : (a0 == 2) = false := beq_eq_false_iff_ne.mpr c3
   have c3b1 : (a0 != 2) = true := bne_iff_ne.mpr c3
   by_cases c4 : a0 = 3
   ·rw [if_pos c4] at H
    have c4b0 : (a0 == 3) = true := beq_iff_eq.mpr c4
    have c4b1 : (a0 != 3) = false := bne_eq_false_iff_eq.mpr c4
    clear c4
    simp only [Option.some.injEq, Prod.mk.injEq] at H
    obtain ⟨rfl, rfl, rfl⟩ := H
    go_enter Try.func19, Try.ntmps19
    go_wp2
    go_ret3
    exact ⟨FR, by repeat (first | exact Drawn0.refl _ | apply Drawn0.step)⟩
   ·rw [if_neg c4] at H
    have c4b0 : (a0 == 3) = false := beq_eq_false_iff_ne.mpr c4
    have c4b1 : (a0 != 3) = true := bne_iff_ne.mpr c4
    simp only [Option.some.injEq, Prod.mk.injEq] at H
    obtain ⟨rfl, rfl, rfl⟩ := H
    go_enter Try.func19, Try.ntmps19
    go_wp2
    go_ret3
    exact ⟨FR, by repeat (first | exact Drawn0.refl _ | apply Drawn0.step)⟩

def spec_GroupSize.f (a0 : Int) : Option (Int) := (spec_SchemaOf.f a0).bind fun bt129 => (some (wrap64 ((wrap64 (bt129.1 * 4)) * 2)))
set_option maxHeartbeats 8000000 in
set_option maxRecDepth 100000 in
theorem spec_GroupSize.calls (a0 : Int) (r : Int) (w : World) (h : spec_GroupSize.f a0 = some r) :
  Calls Try.prog 51 #[.int .i64 a0] w fun e w' => e = .returned (.int .i64 r) ∧ Drawn0 w w' := by
 have H : ((spec_SchemaOf.f a0).bind fun bt129 => (some (wrap64 ((wrap64 (bt129.1 * 4)) * 2)))) = some r := h
 clear h
 replace H := Option.bind_eq_some_iff.mp H
 obtain ⟨⟨t129, t130, t131⟩, A20, H⟩ := H
 replace H : (some (wrap64 ((wrap64 (t129 * 4)) * 2))) = some r := H
 have A2 := AM A20
 clear A20
 obtain rfl := Option.some.inj H
 go_enter Try.func51, Try.ntmps51
 go_wp2_with (first | ((with_reducible refine gate_callee (f := 19) rfl ?_); refine GL (some 8) rfl rfl Try.func19 #[.int .i64 a0] rfl ?_; (with_reducible refine (spec_SchemaOf.calls a0 t129 t130 t131 _ A2.out).mono ?_); rintro e w' ⟨rfl, ⟨nd, rfl⟩⟩; refine ⟨_, rfl, ?_⟩))
 go_ret
 exact ⟨FR, by repeat (first | exact Drawn0.refl _ | apply Drawn0.step)⟩

def spec_PlaceOf.f (a0 : Int) (a1 : Int) : Option (Int × Int × Int) := (spec_SchemaOf.f a0).bind fun bt184 => (if bt184.2.2 = true then ((spec_l01In.f a1 0 100000).bind fun t187 => (if t187 = true then ((spec_GroupSize.f a0).bind fun t188 => (if t188 = 0 then (none) else (if bt184.1 = 0 then (none) else (some (wrap64 (Int.tdiv a1 t188), Int.tmod (wrap64 (Int.tdiv (Int.tmod a1 t188) 4)) bt184.1, wrap64 ((wrap64 ((wrap64 (Int.tdiv (wrap64 (Int.tdiv (Int.tmod a1 t188) 4)) bt184.1)) * 4)) + (Int.tmod (Int.tmod a1 t188) 4))))))) else (some (0, 0, 0)))) else (some (0, 0, 0)))
set_option maxHeartbeats 8000000 in
set_option maxRecDepth 100000 in
theorem spec_PlaceOf.calls (a0 : Int) (a1 : Int) (r1 : Int) (r2 : Int) (r3 : Int) (w : World) (h : spec_PlaceOf.f a0 a1 = some (r1, r2, r3)) :
  Calls Try.prog 102 #[.int .i64 a0, .int .i64 a1] w fun e w' => e = .returned (.tuple #[.int .i64 r1, .int .i64 r2, .int .i64 r3]) ∧ Drawn0 w w' := by
 have H : ((spec_SchemaOf.f a0).bind fun bt184 => (if bt184.2.2 = true then ((spec_l01In.f a1 0 100000).bind fun t187 => (if t187 = true then ((spec_GroupSize.f a0).bind fun t188 => (if t188 = 0 then (none) else (if bt184.1 = 0 then (none) else (some (wrap64 (Int.tdiv a1 t188), Int.tmod (wrap64 (Int.tdiv (Int.tmod a1 t188) 4)) bt184.1, wrap64 ((wrap64 ((wrap64 (Int.tdiv (wrap64 (Int.tdiv (Int.tmod a1 t188) 4)) bt184.1)) * 4)) + (Int.tmod (Int.tmod a1 t188) 4))))))) else (some (0, 0, 0)))) else (some (0, 0, 0)))) = some (r1, r2, r3) := h
 clear h
 replace H := Option.bind_eq_some_iff.mp H
 obtain ⟨⟨t184, t185, t186⟩, A30, H⟩ := H
 replace H : (if t186 = true then ((spec_l01In.f a1 0 100000).bind fun t187 => (if t187 = true then ((spec_GroupSize.f a0).bind fun t188 => (if t188 = 0 then (none) else (if t184 = 0 then (none) else (some (wrap64 (Int.tdiv a1 t188), Int.tmod (wrap64 (Int.tdiv (Int.tmod a1 t188) 4)) t184, wrap64 ((wrap64 ((wrap64 (Int.tdiv (wrap64 (Int.tdiv (Int.tmod a1 t188) 4)) t184)) * 4)) + (Int.tmod (Int.tmod a1 t188) 4))))))) else (some (0, 0, 0)))) else (some (0, 0, 0))) = some (r1, r2, r3) := H
 have A3 := AM A30
 clear A30
 by_cases c4 : t186 = true
 ·subst c4
  have H1 : ((spec_l01In.f a1 0 100000).bind fun t187 => (if t187 = true then ((spec_GroupSize.f a0).bind fun t188 => (if t188 = 0 then (none) else (if t184 = 0 then (none) else (some (wrap64 (Int.tdiv a1 t188), Int.tmod (wrap64 (Int.tdiv (Int.tmod a1 t188) 4)) t184, wrap64 ((wrap64 ((wrap64 (Int.tdiv (wrap64 (Int.tdiv (Int.tmod a1 t188) 4)) t184)) * 4)) + (Int.tmod (Int.tmod a1 t188) 4))))))) else (some (0, 0, 0)))) = some (r1, r2, r3) := by rw [if_pos rfl] at H; exact H
  clear H
  have H := H1
  clear H1
  replace H := Option.bind_eq_some_iff.mp H
  obtain ⟨t187, A50, H⟩ := H
  replace H : (if t187 = true then ((spec_GroupSize.f a0).bind fun t188 => (if t188 = 0 then (none) else (if t184 = 0 then (none) else (some (wrap64 (Int.tdiv a1 t188), Int.tmod (wrap64 (Int.tdiv (Int.tmod a1 t188) 4)) t184, wrap64 ((wrap64 ((wrap64 (Int.tdiv (wrap64 (Int.tdiv (Int.tmod a1 t188) 4)) t184)) * 4)) + (Int.tmod (Int.tmod a1 t188) 4))))))) else (some (0, 0, 0))) = some (r1, r2, r3) := H
  have A5 := AM A50
  clear A50
  by_cases c6 : t187 = true
  ·subst c6
   have H1 : ((spec_GroupSize.f a0).bind fun t188 => (if t188 = 0 then (none) else (if t184 = 0 then (none) else (some (wrap64 (Int.tdiv a1 t188), Int.tmod (wrap64 (Int.tdiv (Int.tmod a1 t188) 4)) t184, wrap64 ((wrap64 ((wrap64 (Int.tdiv (wrap64 (Int.tdiv (Int.tmod a1 t188) 4)) t184)) * 4)) + (Int.tmod (Int.tmod a1 t188) 4))))))) = some (r1, r2, r3) := by rw [if_pos rfl] at H; exact H
   clear H
   have H := H1
   clear H1
   replace H := Option.bind_eq_some_iff.mp H
   obtain ⟨t188, A70, H⟩ := H
   replace H : (if t188 = 0 then (none) else (if t184 = 0 then (none) else (some (wrap64 (Int.tdiv a1 t188), Int.tmod (wrap64 (Int.tdiv (Int.tmod a1 t188) 4)) t184, wrap64 ((wrap64 ((wrap64 (Int.tdiv (wrap64 (Int.tdiv (Int.tmod a1 t188) 4)) t184)) * 4)) + (Int.tmod (Int.tmod a1 t188) 4)))))) = some (r1, r2, r3) := H
   have A7 := AM A70
   clear A70
   by_cases c8 : t188 = 0
   ·rw [if_pos c8] at H
    exact absurd H (by simp)
   ·rw [if_neg c8] at H
    have c8b0 : (t188 == 0) = false := beq_eq_false_iff_ne.mpr c8
    have c8b1 : (t188 != 0) = true := bne_iff_ne.mpr c8
    by_cases c9 : t184 = 0
    ·rw [if_pos c9] at H
     exact absurd H (by simp)
    ·rw [if_neg c9] at H
     have c9b0 : (t184 == 0) = false := beq_eq_false_iff_ne.mpr c9
     have c9b1 : (t184 != 0) = true := bne_iff_ne.mpr c9
     simp only [Option.some.injEq, Prod.mk.injEq] at H
     obtain ⟨rfl, rfl, rfl⟩ := H
     go_enter Try.func102, Try.ntmps102
     go_wp2_with (first | (go_at_call 19; (with_reducible refine (spec_SchemaOf.calls a0 t184 t185 true _ A3.out).mono ?_); rintro e w' ⟨rfl, ⟨nd, rfl⟩⟩; (try first | exact ⟨rfl, _, World.drewN_drewN _ _ _⟩ | exact ⟨rfl, _, Eq.trans (World.drewN_drewN _ _ _) (congrArg (World.drewN _) (Nat.add_assoc _ _ _))⟩)) | (go_at_call 107; (with_reducible refine (spec_l01In.calls a1 0 100000 true _ A5.out).mono ?_); rintro e w' ⟨rfl, ⟨nd, rfl⟩⟩; (try first | exact ⟨rfl, _, World.drewN_drewN _ _ _⟩ | exact ⟨rfl, _, Eq.trans (World.drewN_drewN _ _ _) (congrArg (World.drewN _) (Nat.add_assoc _ _ _))⟩)) | (go_at_call 51; (with_reducible refine (spec_GroupSize.calls a0 t188 _ A7.out).mono ?_); rintro e w' ⟨rfl, ⟨nd, rfl⟩⟩; (try first | exact ⟨rfl, _, World.drewN_drewN _ _ _⟩ | exact ⟨rfl, _, Eq.trans (World.drewN_drewN _ _ _) (congrArg (World.drewN _) (Nat.add_assoc _ _ _))⟩)))
     repeat (go_quiet (first | (go_at_call 19; (with_reducible refine (spec_SchemaOf.calls a0 t184 t185 true _ A3.out).mono ?_); rintro e w' ⟨rfl, ⟨nd, rfl⟩⟩; (try first | exact ⟨rfl, _, World.drewN_drewN _ _ _⟩ | exact ⟨rfl, _, Eq.trans (World.drewN_drewN _ _ _) (congrArg (World.drewN _) (Nat.add_assoc _ _ _))⟩)) | (go_at_call 107; (with_reducible refine (spec_l01In.calls a1 0 100000 true _ A5.out).mono ?_); rintro e w' ⟨rfl, ⟨nd, rfl⟩⟩; (try first | exact ⟨rfl, _, World.drewN_drewN _ _ _⟩ | exact ⟨rfl, _, Eq.trans (World.drewN_drewN _ _ _) (congrArg (World.drewN _) (Nat.add_assoc _ _ _))⟩)) | (go_at_call 51; (with_reducible refine (spec_GroupSize.calls a0 t188 _ A7.out).mono ?_); rintro e w' ⟨rfl, ⟨nd, rfl⟩⟩; (try first | exact ⟨rfl, _, World.drewN_drewN _ _ _⟩ | exact ⟨rfl, _, Eq.trans (World.drewN_drewN _ _ _) (congrArg (World.drewN _) (Nat.add_assoc _ _ _))⟩))); try go_wp2_with (first | (go_at_call 19; (with_reducible refine (spec_SchemaOf.calls a0 t184 t185 true _ A3.out).mono ?_); rintro e w' ⟨rfl, ⟨nd, rfl⟩⟩; (try first | exact ⟨rfl, _, World.drewN_drewN _ _ _⟩ | exact ⟨rfl, _, Eq.trans (World.drewN_drewN _ _ _) (congrArg (World.drewN _) (Nat.add_assoc _ _ _))⟩)) | (go_at_call 107; (with_reducible refine (spec_l01In.calls a1 0 100000 true _ A5.out).mono ?_); rintro e w' ⟨rfl, ⟨nd, rfl⟩⟩; (try first | exact ⟨rfl, _, World.drewN_drewN _ _ _⟩ | exact ⟨rfl, _, Eq.trans (World.drewN_drewN _ _ _) (congrArg (World.drewN _) (Nat.add_assoc _ _ _))⟩)) | (go_at_call 51; (with_reducible refine (spec_GroupSize.calls a0 t188 _ A7.out).mono ?_); rintro e w' ⟨rfl, ⟨nd, rfl⟩⟩; (try first | exact ⟨rfl, _, World.drewN_drewN _ _ _⟩ | exact ⟨rfl, _, Eq.trans (World.drewN_drewN _ _ _) (congrArg (World.drewN _) (Nat.add_assoc _ _ _))⟩))))
     go_ret3
     exact ⟨FR, by repeat (first | exact Drawn0.refl _ | apply Drawn0.step)⟩
  ·replace c6 := Bool.eq_false_iff.mpr c6
   subst c6
   have H1 : (some (0, 0, 0)) = some (r1, r2, r3) := by rw [if_neg (show ¬ (false = true) by decide)] at H; exact H
   clear H
   have H := H1
   clear H1
   simp only [Option.some.injEq, Prod.mk.injEq] at H
   obtain ⟨rfl, rfl, rfl⟩ := H
   go_enter Try.func102, Try.ntmps102
   go_wp2_with (first | (go_at_call 19; (with_reducible refine (spec_SchemaOf.calls a0 t184 t185 true _ A3.out).mono ?_); rintro e w' ⟨rfl, ⟨nd, rfl⟩⟩; (try first | exact ⟨rfl, _, World.drewN_drewN _ _ _⟩ | exact ⟨rfl, _, Eq.trans (World.drewN_drewN _ _ _) (congrArg (World.drewN _) (Nat.add_assoc _ _ _))⟩)) | (go_at_call 107; (with_reducible refine (spec_l01In.calls a1 0 100000 false _ A5.out).mono ?_); rintro e w' ⟨rfl, ⟨nd, rfl⟩⟩; (try first | exact ⟨rfl, _, World.drewN_drewN _ _ _⟩ | exact ⟨rfl, _, Eq.trans (World.drewN_drewN _ _ _) (congrArg (World.drewN _) (Nat.add_assoc _ _ _))⟩)))
   repeat (go_quiet (first | (go_at_call 19; (with_reducible refine (spec_SchemaOf.calls a0 t184 t185 true _ A3.out).mono ?_); rintro e w' ⟨rfl, ⟨nd, rfl⟩⟩; (try first | exact ⟨rfl, _, World.drewN_drewN _ _ _⟩ | exact ⟨rfl, _, Eq.trans (World.drewN_drewN _ _ _) (congrArg (World.drewN _) (Nat.add_assoc _ _ _))⟩)) | (go_at_call 107; (with_reducible refine (spec_l01In.calls a1 0 100000 false _ A5.out).mono ?_); rintro e w' ⟨rfl, ⟨nd, rfl⟩⟩; (try first | exact ⟨rfl, _, World.drewN_drewN _ _ _⟩ | exact ⟨rfl, _, Eq.trans (World.drewN_drewN _ _ _) (congrArg (World.drewN _) (Nat.add_assoc _ _ _))⟩))); try go_wp2_with (first | (go_at_call 19; (with_reducible refine (spec_SchemaOf.calls a0 t184 t185 true _ A3.out).mono ?_); rintro e w' ⟨rfl, ⟨nd, rfl⟩⟩; (try first | exact ⟨rfl, _, World.drewN_drewN _ _ _⟩ | exact ⟨rfl, _, Eq.trans (World.drewN_drewN _ _ _) (congrArg (World.drewN _) (Nat.add_assoc _ _ _))⟩)) | (go_at_call 107; (with_reducible refine (spec_l01In.calls a1 0 100000 false _ A5.out).mono ?_); rintro e w' ⟨rfl, ⟨nd, rfl⟩⟩; (try first | exact ⟨rfl, _, World.drewN_drewN _ _ _⟩ | exact ⟨rfl, _, Eq.trans (World.drewN_drewN _ _ _) (congrArg (World.drewN _) (Nat.add_assoc _ _ _))⟩))))
   go_ret3
   exact ⟨FR, by repeat (first | exact Drawn0.refl _ | apply Drawn0.step)⟩
 ·replace c4 := Bool.eq_false_iff.mpr c4
  subst c4
  have H1 : (some (0, 0, 0)) = some (r1, r2, r3) := by rw [if_neg (show ¬ (false = true) by decide)] at H; exact H
  clear H
  have H := H1
  clear H1
  simp only [Option.some.injEq, Prod.mk.injEq] at H
  obtain ⟨rfl, rfl, rfl⟩ := H
  go_enter Try.func102, Try.ntmps102
  go_wp2_with (first | (go_at_call 19; (with_reducible refine (spec_SchemaOf.calls a0 t184 t185 false _ A3.out).mono ?_); rintro e w' ⟨rfl, ⟨nd, rfl⟩⟩; (try first | exact ⟨rfl, _, World.drewN_drewN _ _ _⟩ | exact ⟨rfl, _, Eq.trans (World.drewN_drewN _ _ _) (congrArg (World.drewN _) (Nat.add_assoc _ _ _))⟩)))
  repeat (go_quiet (first | (go_at_call 19; (with_reducible refine (spec_SchemaOf.calls a0 t184 t185 false _ A3.out).mono ?_); rintro e w' ⟨rfl, ⟨nd, rfl⟩⟩; (try first | exact ⟨rfl, _, World.drewN_drewN _ _ _⟩ | exact ⟨rfl, _, Eq.trans (World.drewN_drewN _ _ _) (congrArg (World.drewN _) (Nat.add_assoc _ _ _))⟩))); try go_wp2_with (first | (go_at_call 19; (with_reducible refine (spec_SchemaOf.calls a0 t184 t185 false _ A3.out).mono ?_); rintro e w' ⟨rfl, ⟨nd, rfl⟩⟩; (try first | exact ⟨rfl, _, World.drewN_drewN _ _ _⟩ | exact ⟨rfl, _, Eq.trans (World.drewN_drewN _ _ _) (congrArg (World.drewN _) (Nat.add_assoc _ _ _))⟩))))
  go_ret3
  exact ⟨FR, by repeat (first | exact Drawn0.refl _ | apply Drawn0.step)⟩

end Go.Proofs.Ytaejgompckpmfaa.Pr
